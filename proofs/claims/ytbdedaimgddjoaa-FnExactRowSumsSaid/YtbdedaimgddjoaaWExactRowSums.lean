/-
  Walks through the functions that the law reaches: each answers as its plain definition does.
  Conditions: none.
-/
import Derived.KernelRfl
import Derived.Test.YtbdedaimgddjoaaDf
import Derived.Test.YtbdedaimgddjoaaProg
open Go Go.PV Go.Proofs
set_option linter.all false
namespace Go.PV
attribute [local irreducible] pvC pvL pvD sOp seqQ blockQ Meets MeetsB Ok OkL RegOk agree endQ seqL blockL loopQ endL endLB
theorem Try_mixed : Try.prog.follows .mixedOrders = true := by kernel_rfl
theorem Try_und3 : Try.prog.underlying 3 = some (.int .i64) := by kernel_rfl
theorem Try_und72 : Try.prog.underlying 72 = some (.int .u64) := by kernel_rfl
theorem wk_laws_szIntS {a0 : (List Int)} {a1 : Int}  {r : Int} (h : laws_szIntS a0 a1 = some r) : Meets Try.prog 58 [.d false [.sl none (a0.map eI)], .v (.int .i64 a1)] { vals := [.p (.int .i64 r)] } := by
  refine Meets_ofL (by kernel_rfl) Try.func58 rfl (by kernel_rfl) (l0 := [(0, .d false [.sl none (a0.map eI)]), (1, .p (.int .i64 a1))]) (by kernel_rfl) ?_
  unfold laws_szIntS at h
  refine k_sreg (r_go [(0, .d false [.sl none (a0.map eI)]), (1, .p (.int .i64 a1))] [] [] (by kernel_rfl) trivial) ?_
  refine k_sreg (r_go [(1, .p (.int .i64 (w64 (a1 - (a0.length : Int)))))] [(2, {n := some a0.length})] [(a0.map eI).length = a0.length] (by kernel_rfl) ⟨(List.length_map ..), trivial⟩) ?_
  refine k_seq ?_
  refine k_sreg (r_go [(1, .p (.int .i64 (w64 (a1 - (a0.length : Int))))), (10, .p (.bool (decide ((w64 (a1 - (a0.length : Int))) < 0))))] [] [] (by kernel_rfl) trivial) ?_
  refine k_cond (b := (decide ((w64 (a1 - (a0.length : Int))) < 0))) (by kernel_rfl) (fun hc2_0 => ?_) (fun hc2_0 => ?_)
  · replace h := ite_t hc2_0 h
    refine k_sreg (r_go [(4, .p (.int .i64 (-1)))] [] [] (by kernel_rfl) trivial) ?_
    refine k_ret ?_
    refine q_r ?_
    obtain rfl := Option.some.inj h
    exact e_ret (ls := [(.p (.int .i64 (-1)), 4)]) (by kernel_rfl) rfl (by kernel_rfl) rfl
  · replace h := ite_f hc2_0 h
    refine k_skip ?_
    refine q_n ?_
    refine k_sreg (r_go [(4, .p (.int .i64 (w64 (a1 - (a0.length : Int)))))] [] [] (by kernel_rfl) trivial) ?_
    refine k_ret ?_
    obtain rfl := Option.some.inj h
    exact e_ret (ls := [(.p (.int .i64 (w64 (a1 - (a0.length : Int)))), 4)]) (by kernel_rfl) rfl (by kernel_rfl) rfl
theorem wk_laws_szIntSS {a0 : (List (List Int))} {a1 : Int}  {r : Int} (h : laws_szIntSS a0 a1 = some r) : Meets Try.prog 23 [.d false [.sl none (a0.map (eF eI))], .v (.int .i64 a1)] { vals := [.p (.int .i64 r)] } := by
  refine Meets_ofL (by kernel_rfl) Try.func23 rfl (by kernel_rfl) (l0 := [(0, .d false [.sl none (a0.map (eF eI))]), (1, .p (.int .i64 a1))]) (by kernel_rfl) ?_
  unfold laws_szIntSS at h
  refine k_sreg (r_go [(0, .d false [.sl none (a0.map (eF eI))]), (1, .p (.int .i64 a1))] [] [] (by kernel_rfl) trivial) ?_
  refine k_sreg (r_go [(0, .d false [.sl none (a0.map (eF eI))]), (1, .p (.int .i64 (w64 (a1 - (a0.length : Int)))))] [(2, {n := some a0.length})] [(a0.map (eF eI)).length = a0.length] (by kernel_rfl) ⟨(List.length_map ..), trivial⟩) ?_
  refine k_seq ?_
  refine k_sreg (r_go [(0, .d false [.sl none (a0.map (eF eI))]), (1, .p (.int .i64 (w64 (a1 - (a0.length : Int))))), (11, .p (.bool (decide ((w64 (a1 - (a0.length : Int))) < 0))))] [] [] (by kernel_rfl) trivial) ?_
  refine k_cond (b := (decide ((w64 (a1 - (a0.length : Int))) < 0))) (by kernel_rfl) (fun hc2_0 => ?_) (fun hc2_0 => ?_)
  · replace h := ite_t hc2_0 h
    refine k_sreg (r_go [(4, .p (.int .i64 (-1)))] [] [] (by kernel_rfl) trivial) ?_
    refine k_ret ?_
    refine q_r ?_
    obtain rfl := Option.some.inj h
    exact e_ret (ls := [(.p (.int .i64 (-1)), 4)]) (by kernel_rfl) rfl (by kernel_rfl) rfl
  · replace h := ite_f hc2_0 h
    refine k_skip ?_
    refine q_n ?_
    refine k_join (J := fun (x : Int) => [(1, .p (.int .i64 x))]) (K := fun x => laws_szIntSS_k1 x = some r) (fun x2 h => ?_) ?_
    · unfold laws_szIntSS_k1 at h
      refine k_sreg (r_go [(4, .p (.int .i64 x2))] [] [] (by kernel_rfl) trivial) ?_
      refine k_ret ?_
      obtain rfl := Option.some.inj h
      exact e_ret (ls := [(.p (.int .i64 x2), 4)]) (by kernel_rfl) rfl (by kernel_rfl) rfl
    · refine k_sreg (r_go [(0, .d false [.sl none (a0.map (eF eI))]), (1, .p (.int .i64 (w64 (a1 - (a0.length : Int))))), (5, .p (.int .i64 0))] [] [] (by kernel_rfl) trivial) ?_
      refine k_block ?_
      obtain ⟨y4, hl_x3, hk_x3⟩ := bind_some' h
      clear h
      refine k_loop (J := fun (x : (Int × Int)) => [(0, .d false [.sl none (a0.map (eF eI))]), (1, .p (.int .i64 x.1)), (5, .p (.int .i64 x.2))]) hl_x3 (wk_of (by kernel_rfl) (by kernel_rfl)) (fun x3 o_x3 h hy_x3 => ?_)
      unfold laws_szIntSS_b1 at h
      refine k_seq ?_
      refine k_sreg (r_go [(0, .d false [.sl none (a0.map (eF eI))]), (1, .p (.int .i64 x3.1)), (5, .p (.int .i64 x3.2)), (15, .p (.bool (decide (x3.2 < (a0.length : Int)))))] [(2, {n := some a0.length})] [(a0.map (eF eI)).length = a0.length] (by kernel_rfl) ⟨(List.length_map ..), trivial⟩) ?_
      refine k_cond (b := (decide (x3.2 < (a0.length : Int)))) (by kernel_rfl) (fun hc5_4 => ?_) (fun hc5_4 => ?_)
      · replace h := ite_t hc5_4 h
        refine k_skip ?_
        refine q_n ?_
        refine k_seq ?_
        refine k_block ?_
        replace h := bind_some' h
        obtain ⟨v6, hv6, h⟩ := h
        replace h := bind_some' h
        obtain ⟨v7, hv7, h⟩ := h
        refine k_sreg (r_go [(0, .d false [.sl none (a0.map (eF eI))]), (1, .p (.int .i64 v7)), (5, .p (.int .i64 x3.2))] [(2, {row := some [.sl none (v6.map eI)]}), (5, {call := some ([.d false [.sl none (v6.map eI)], .v (.int .i64 x3.1)], [.p (.int .i64 v7)], true)})] [0 ≤ x3.2, (a0.map (eF eI))[(Int.toNat x3.2)]? = some [.sl none (v6.map eI)], ([.d false [.sl none (v6.map eI)], .v (.int .i64 x3.1)] : List Arg) = [.d false [.sl none (v6.map eI)], .v (.int .i64 x3.1)], Meets Try.prog 58 ([.d false [.sl none (v6.map eI)], .v (.int .i64 x3.1)] ++ []) { vals := [.p (.int .i64 v7)] }, (!true || List.all [.p (.int .i64 v7)] simpleR) = true] (by kernel_rfl) ⟨(idxO_some hv6).1, (map_get (eF eI) (idxO_some hv6).2), rfl, (wk_laws_szIntS hv7), (bt rfl), trivial⟩) ?_
        refine k_sreg (r_go [(0, .d false [.sl none (a0.map (eF eI))]), (1, .p (.int .i64 v7)), (5, .p (.int .i64 x3.2)), (25, .p (.bool (decide (v7 < 0))))] [] [] (by kernel_rfl) trivial) ?_
        refine k_cond (b := (decide (v7 < 0))) (by kernel_rfl) (fun hc6_7 => ?_) (fun hc6_7 => ?_)
        · replace h := ite_t hc6_7 h
          refine k_sreg (r_go [(4, .p (.int .i64 (-1)))] [] [] (by kernel_rfl) trivial) ?_
          refine k_ret ?_
          refine b_r ?_
          refine q_r ?_
          refine lq_r ?_
          refine b_r ?_
          refine q_r ?_
          have hyy := hy_x3 _ (Option.some.inj h).symm
          subst hyy
          have h := hk_x3
          dsimp only [Sum.elim] at h
          obtain rfl := Option.some.inj h
          exact e_ret (ls := [(.p (.int .i64 (-1)), 4)]) (by kernel_rfl) rfl (by kernel_rfl) rfl
        · replace h := ite_f hc6_7 h
          refine k_skip ?_
          refine b_n ?_
          refine q_n ?_
          refine k_reg (r_go [(0, .d false [.sl none (a0.map (eF eI))]), (1, .p (.int .i64 v7)), (5, .p (.int .i64 (w64 (x3.2 + 1))))] [] [] (by kernel_rfl) trivial) ?_
          exact lq_n (v7, (w64 (x3.2 + 1))) (Option.some.inj h).symm (wk_of (by kernel_rfl) (by kernel_rfl))
      · replace h := ite_f hc5_4 h
        refine k_exit ?_
        refine q_x ?_
        refine lq_x ?_
        refine b_x ?_
        have hyy := hy_x3 _ (Option.some.inj h).symm
        subst hyy
        have h := hk_x3
        dsimp only [Sum.elim] at h
        refine q_n ?_
        exact ⟨x3.1, h, (wk_of (by kernel_rfl) (by kernel_rfl))⟩
theorem wk_laws_toIntS {a0 : (List Int)}  {r : (List Int)} (h : laws_toIntS a0 = some r) : Meets Try.prog 16 [.d false [.sl none (a0.map eI)]] { vals := [.ov false [.sl (some 3) (r.map eI)]] } := by
  refine Meets_ofL (by kernel_rfl) Try.func16 rfl (by kernel_rfl) (l0 := [(0, .d false [.sl none (a0.map eI)])]) (by kernel_rfl) ?_
  unfold laws_toIntS at h
  refine k_sreg (r_go [(0, .d false [.sl none (a0.map eI)])] [] [] (by kernel_rfl) trivial) ?_
  replace h := bind_some' h
  obtain ⟨u1, hu1, h⟩ := h
  refine k_sreg (r_go [(0, .d false [.sl none (a0.map eI)]), (3, .ov false [.sl (some 3) ((List.replicate (Int.toNat (a0.length : Int)) (0 : Int)).map eI)])] [(1, {n := some a0.length}), (2, {fix := some (7, .ov false [.sl (some 3) ((List.replicate (Int.toNat (a0.length : Int)) (0 : Int)).map eI)])})] [(a0.map eI).length = a0.length, (a0.length : Int) = (a0.length : Int), 0 ≤ (a0.length : Int), (a0.length : Int) ≤ 1099511627776, (SV.ov false [.sl (some 3) (List.replicate (Int.toNat (a0.length : Int)) [.raw (.int .i64 0)])] : SV) = .ov false [.sl (some 3) ((List.replicate (Int.toNat (a0.length : Int)) (0 : Int)).map eI)]] (by kernel_rfl) ⟨(List.length_map ..), rfl, (guardO_some hu1).1, (guardO_some hu1).2, (congrArg (fun z => SV.ov false [.sl (some 3) z]) (rep_fix eI (0 : Int))), trivial⟩) ?_
  refine k_join (J := fun (x : (List Int)) => [(3, .ov false [.sl (some 3) (x.map eI)])]) (K := fun x => laws_toIntS_k1 x = some r) (fun x2 h => ?_) ?_
  · unfold laws_toIntS_k1 at h
    refine k_sreg (r_go [(2, .ov false [.sl (some 3) (x2.map eI)])] [] [] (by kernel_rfl) trivial) ?_
    refine k_ret ?_
    obtain rfl := Option.some.inj h
    exact e_ret (ls := [(.ov false [.sl (some 3) (x2.map eI)], 2)]) (by kernel_rfl) rfl (by kernel_rfl) rfl
  · refine k_sreg (r_go [(0, .d false [.sl none (a0.map eI)]), (3, .ov false [.sl (some 3) ((List.replicate (Int.toNat (a0.length : Int)) (0 : Int)).map eI)]), (4, .p (.int .i64 0))] [] [] (by kernel_rfl) trivial) ?_
    refine k_block ?_
    obtain ⟨y4, hl_x3, hk_x3⟩ := bind_some' h
    clear h
    refine k_loop (J := fun (x : ((List Int) × Int)) => [(0, .d false [.sl none (a0.map eI)]), (3, .ov false [.sl (some 3) (x.1.map eI)]), (4, .p (.int .i64 x.2))]) hl_x3 (wk_of (by kernel_rfl) (by kernel_rfl)) (fun x3 o_x3 h hy_x3 => ?_)
    unfold laws_toIntS_b1 at h
    refine k_seq ?_
    refine k_sreg (r_go [(0, .d false [.sl none (a0.map eI)]), (3, .ov false [.sl (some 3) (x3.1.map eI)]), (4, .p (.int .i64 x3.2)), (11, .p (.bool (decide (x3.2 < (a0.length : Int)))))] [(2, {n := some a0.length})] [(a0.map eI).length = a0.length] (by kernel_rfl) ⟨(List.length_map ..), trivial⟩) ?_
    refine k_cond (b := (decide (x3.2 < (a0.length : Int)))) (by kernel_rfl) (fun hc5_4 => ?_) (fun hc5_4 => ?_)
    · replace h := ite_t hc5_4 h
      refine k_skip ?_
      refine q_n ?_
      refine k_seq ?_
      refine k_block ?_
      replace h := bind_some' h
      obtain ⟨v6, hv6, h⟩ := h
      replace h := bind_some' h
      obtain ⟨v7, hv7, h⟩ := h
      refine k_reg (r_go [(0, .d false [.sl none (a0.map eI)]), (3, .ov false [.sl (some 3) ((x3.1.set (Int.toNat x3.2) v6).map eI)]), (4, .p (.int .i64 x3.2))] [(4, {row := some [.raw (.int .i64 v6)]}), (6, {row := some [.raw (.int .i64 v7)]}), (7, {row := some [.raw (.int .i64 v7)], fix := some (3, .ov false [.sl (some 3) ((x3.1.set (Int.toNat x3.2) v6).map eI)])})] [0 ≤ x3.2, (a0.map eI)[(Int.toNat x3.2)]? = some [.raw (.int .i64 v6)], 0 ≤ x3.2, (x3.1.map eI)[(Int.toNat x3.2)]? = some [.raw (.int .i64 v7)], getRow [[.sl (some 3) (x3.1.map eI)]] [(0, 0), ((Int.toNat x3.2), 0)] = some [.raw (.int .i64 v7)], (SV.ov false [.sl (some 3) (setL (x3.1.map eI) [((Int.toNat x3.2), 0)] [.raw (.int .i64 v6)])] : SV) = .ov false [.sl (some 3) ((x3.1.set (Int.toNat x3.2) v6).map eI)]] (by kernel_rfl) ⟨(idxO_some hv6).1, (map_get eI (idxO_some hv6).2), (idxO_some hv7).1, (map_get eI (idxO_some hv7).2), ((gr0 rfl).trans (gre (map_get eI (idxO_some hv7).2))), (congrArg (fun z => SV.ov false [.sl (some 3) z]) (set1 (f := eI) (y := v6) (idxO_some hv7).2 rfl)), trivial⟩) ?_
      refine b_n ?_
      refine q_n ?_
      refine k_reg (r_go [(0, .d false [.sl none (a0.map eI)]), (3, .ov false [.sl (some 3) ((x3.1.set (Int.toNat x3.2) v6).map eI)]), (4, .p (.int .i64 (w64 (x3.2 + 1))))] [] [] (by kernel_rfl) trivial) ?_
      exact lq_n ((x3.1.set (Int.toNat x3.2) v6), (w64 (x3.2 + 1))) (Option.some.inj h).symm (wk_of (by kernel_rfl) (by kernel_rfl))
    · replace h := ite_f hc5_4 h
      refine k_exit ?_
      refine q_x ?_
      refine lq_x ?_
      refine b_x ?_
      have hyy := hy_x3 _ (Option.some.inj h).symm
      subst hyy
      have h := hk_x3
      refine q_n ?_
      exact ⟨x3.1, h, (wk_of (by kernel_rfl) (by kernel_rfl))⟩
theorem wk_laws_toIntSS {a0 : (List (List Int))}  {r : (List (List Int))} (h : laws_toIntSS a0 = some r) : Meets Try.prog 25 [.d false [.sl none (a0.map (eF eI))]] { vals := [.ov false [.sl (some 22) (r.map (eO 3 eI))]] } := by
  refine Meets_ofL (by kernel_rfl) Try.func25 rfl (by kernel_rfl) (l0 := [(0, .d false [.sl none (a0.map (eF eI))])]) (by kernel_rfl) ?_
  unfold laws_toIntSS at h
  refine k_sreg (r_go [(0, .d false [.sl none (a0.map (eF eI))])] [] [] (by kernel_rfl) trivial) ?_
  replace h := bind_some' h
  obtain ⟨u1, hu1, h⟩ := h
  refine k_sreg (r_go [(0, .d false [.sl none (a0.map (eF eI))]), (3, .ov false [.sl (some 22) ((List.replicate (Int.toNat (a0.length : Int)) ([] : (List Int))).map (eO 3 eI))])] [(1, {n := some a0.length}), (2, {fix := some (7, .ov false [.sl (some 22) ((List.replicate (Int.toNat (a0.length : Int)) ([] : (List Int))).map (eO 3 eI))])})] [(a0.map (eF eI)).length = a0.length, (a0.length : Int) = (a0.length : Int), 0 ≤ (a0.length : Int), (a0.length : Int) ≤ 1099511627776, (SV.ov false [.sl (some 22) (List.replicate (Int.toNat (a0.length : Int)) [.sl (some 3) []])] : SV) = .ov false [.sl (some 22) ((List.replicate (Int.toNat (a0.length : Int)) ([] : (List Int))).map (eO 3 eI))]] (by kernel_rfl) ⟨(List.length_map ..), rfl, (guardO_some hu1).1, (guardO_some hu1).2, (congrArg (fun z => SV.ov false [.sl (some 22) z]) (rep_fix (eO 3 eI) ([] : (List Int)))), trivial⟩) ?_
  refine k_join (J := fun (x : (List (List Int))) => [(3, .ov false [.sl (some 22) (x.map (eO 3 eI))])]) (K := fun x => laws_toIntSS_k1 x = some r) (fun x2 h => ?_) ?_
  · unfold laws_toIntSS_k1 at h
    refine k_sreg (r_go [(2, .ov false [.sl (some 22) (x2.map (eO 3 eI))])] [] [] (by kernel_rfl) trivial) ?_
    refine k_ret ?_
    obtain rfl := Option.some.inj h
    exact e_ret (ls := [(.ov false [.sl (some 22) (x2.map (eO 3 eI))], 2)]) (by kernel_rfl) rfl (by kernel_rfl) rfl
  · refine k_sreg (r_go [(0, .d false [.sl none (a0.map (eF eI))]), (3, .ov false [.sl (some 22) ((List.replicate (Int.toNat (a0.length : Int)) ([] : (List Int))).map (eO 3 eI))]), (4, .p (.int .i64 0))] [] [] (by kernel_rfl) trivial) ?_
    refine k_block ?_
    obtain ⟨y4, hl_x3, hk_x3⟩ := bind_some' h
    clear h
    refine k_loop (J := fun (x : ((List (List Int)) × Int)) => [(0, .d false [.sl none (a0.map (eF eI))]), (3, .ov false [.sl (some 22) (x.1.map (eO 3 eI))]), (4, .p (.int .i64 x.2))]) hl_x3 (wk_of (by kernel_rfl) (by kernel_rfl)) (fun x3 o_x3 h hy_x3 => ?_)
    unfold laws_toIntSS_b1 at h
    refine k_seq ?_
    refine k_sreg (r_go [(0, .d false [.sl none (a0.map (eF eI))]), (3, .ov false [.sl (some 22) (x3.1.map (eO 3 eI))]), (4, .p (.int .i64 x3.2)), (11, .p (.bool (decide (x3.2 < (a0.length : Int)))))] [(2, {n := some a0.length})] [(a0.map (eF eI)).length = a0.length] (by kernel_rfl) ⟨(List.length_map ..), trivial⟩) ?_
    refine k_cond (b := (decide (x3.2 < (a0.length : Int)))) (by kernel_rfl) (fun hc5_4 => ?_) (fun hc5_4 => ?_)
    · replace h := ite_t hc5_4 h
      refine k_skip ?_
      refine q_n ?_
      refine k_seq ?_
      refine k_block ?_
      replace h := bind_some' h
      obtain ⟨v6, hv6, h⟩ := h
      replace h := bind_some' h
      obtain ⟨v7, hv7, h⟩ := h
      replace h := bind_some' h
      obtain ⟨v8, hv8, h⟩ := h
      refine k_reg (r_go [(0, .d false [.sl none (a0.map (eF eI))]), (3, .ov false [.sl (some 22) ((x3.1.set (Int.toNat x3.2) v7).map (eO 3 eI))]), (4, .p (.int .i64 x3.2))] [(4, {row := some [.sl none (v6.map eI)]}), (6, {call := some ([.d false [.sl none (v6.map eI)]], [.ov false [.sl (some 3) (v7.map eI)]], true)}), (7, {row := some [.sl (some 3) (v8.map eI)]}), (8, {row := some [.sl (some 3) (v8.map eI)], fix := some (3, .ov false [.sl (some 22) ((x3.1.set (Int.toNat x3.2) v7).map (eO 3 eI))])})] [0 ≤ x3.2, (a0.map (eF eI))[(Int.toNat x3.2)]? = some [.sl none (v6.map eI)], ([.d false [.sl none (v6.map eI)]] : List Arg) = [.d false [.sl none (v6.map eI)]], Meets Try.prog 16 ([.d false [.sl none (v6.map eI)]] ++ []) { vals := [.ov false [.sl (some 3) (v7.map eI)]] }, (!true || List.all [.ov false [.sl (some 3) (v7.map eI)]] simpleR) = true, 0 ≤ x3.2, (x3.1.map (eO 3 eI))[(Int.toNat x3.2)]? = some [.sl (some 3) (v8.map eI)], getRow [[.sl (some 22) (x3.1.map (eO 3 eI))]] [(0, 0), ((Int.toNat x3.2), 0)] = some [.sl (some 3) (v8.map eI)], (SV.ov false [.sl (some 22) (setL (x3.1.map (eO 3 eI)) [((Int.toNat x3.2), 0)] [.sl (some 3) (v7.map eI)])] : SV) = .ov false [.sl (some 22) ((x3.1.set (Int.toNat x3.2) v7).map (eO 3 eI))]] (by kernel_rfl) ⟨(idxO_some hv6).1, (map_get (eF eI) (idxO_some hv6).2), rfl, (wk_laws_toIntS hv7), (bt (sa_o (wnR1 (wnL_enc wn_I) rfl) rfl)), (idxO_some hv8).1, (map_get (eO 3 eI) (idxO_some hv8).2), ((gr0 rfl).trans (gre (map_get (eO 3 eI) (idxO_some hv8).2))), (congrArg (fun z => SV.ov false [.sl (some 22) z]) (set1 (f := (eO 3 eI)) (y := v7) (idxO_some hv8).2 rfl)), trivial⟩) ?_
      refine b_n ?_
      refine q_n ?_
      refine k_reg (r_go [(0, .d false [.sl none (a0.map (eF eI))]), (3, .ov false [.sl (some 22) ((x3.1.set (Int.toNat x3.2) v7).map (eO 3 eI))]), (4, .p (.int .i64 (w64 (x3.2 + 1))))] [] [] (by kernel_rfl) trivial) ?_
      exact lq_n ((x3.1.set (Int.toNat x3.2) v7), (w64 (x3.2 + 1))) (Option.some.inj h).symm (wk_of (by kernel_rfl) (by kernel_rfl))
    · replace h := ite_f hc5_4 h
      refine k_exit ?_
      refine q_x ?_
      refine lq_x ?_
      refine b_x ?_
      have hyy := hy_x3 _ (Option.some.inj h).symm
      subst hyy
      have h := hk_x3
      refine q_n ?_
      exact ⟨x3.1, h, (wk_of (by kernel_rfl) (by kernel_rfl))⟩
theorem wk_spec_l1In {a0 : Int} {a1 : Int} {a2 : Int}  {r : Bool} (h : spec_l1In a0 a1 a2 = some r) : Meets Try.prog 86 [.v (.int .i64 a0), .v (.int .i64 a1), .v (.int .i64 a2)] { vals := [.p (.bool r)] } := by
  refine Meets_ofL (by kernel_rfl) Try.func86 rfl (by kernel_rfl) (l0 := [(0, .p (.int .i64 a0)), (1, .p (.int .i64 a1)), (2, .p (.int .i64 a2))]) (by kernel_rfl) ?_
  unfold spec_l1In at h
  refine k_sreg (r_go [(0, .p (.int .i64 a0)), (1, .p (.int .i64 a1)), (2, .p (.int .i64 a2))] [] [] (by kernel_rfl) trivial) ?_
  refine k_sreg (l1 := [(6, .p (.bool ((decide (a0 ≥ a1)) && (decide (a0 ≤ a2)))))]) ?_ ?_
  · rcases Bool.eq_false_or_eq_true (decide (a0 ≥ a1)) with ha0 | ha0
    · exact RegOk.of_eq (l2 := [(6, .p (.bool ((decide (a0 ≥ a1)) && (decide (a0 ≤ a2)))))]) (r_go [(6, .p (.bool (decide (a0 ≤ a2))))] [(4, {g := some true}), (5, {g := some true}), (6, {g := some true}), (7, {b := some true})] [(decide (a0 ≥ a1)) = true, (decide (a0 ≥ a1)) = true, (decide (a0 ≥ a1)) = true, (decide (a0 ≥ a1)) = true] (by kernel_rfl) ⟨ha0, ha0, ha0, ha0, trivial⟩) (by simp [ha0])
    · exact RegOk.of_eq (l2 := [(6, .p (.bool ((decide (a0 ≥ a1)) && (decide (a0 ≤ a2)))))]) (r_go [(6, .p (.bool false))] [(4, {g := some false}), (5, {g := some false}), (6, {g := some false}), (7, {b := some false})] [(decide (a0 ≥ a1)) = false, (decide (a0 ≥ a1)) = false, (decide (a0 ≥ a1)) = false, (decide (a0 ≥ a1)) = false] (by kernel_rfl) ⟨ha0, ha0, ha0, ha0, trivial⟩) (by simp [ha0])
  · refine k_ret ?_
    obtain rfl := Option.some.inj h
    exact e_ret (ls := [(.p (.bool ((decide (a0 ≥ a1)) && (decide (a0 ≤ a2)))), 6)]) (by kernel_rfl) rfl (by kernel_rfl) rfl
theorem wk_spec_l1All {a0 : (List Int)} {a1 : Int} {a2 : Int}  {r : Bool} (h : spec_l1All a0 a1 a2 = some r) : Meets Try.prog 87 [.d false [.sl none (a0.map eI)], .v (.int .i64 a1), .v (.int .i64 a2)] { vals := [.p (.bool r)] } := by
  refine Meets_ofL (by kernel_rfl) Try.func87 rfl (by kernel_rfl) (l0 := [(0, .d false [.sl none (a0.map eI)]), (1, .p (.int .i64 a1)), (2, .p (.int .i64 a2))]) (by kernel_rfl) ?_
  unfold spec_l1All at h
  refine k_sreg (r_go [(0, .d false [.sl none (a0.map eI)]), (1, .p (.int .i64 a1)), (2, .p (.int .i64 a2))] [] [] (by kernel_rfl) trivial) ?_
  refine k_join (J := fun (x : Unit) => []) (K := fun x => spec_l1All_k1 x = some r) (fun x1 h => ?_) ?_
  · unfold spec_l1All_k1 at h
    refine k_sreg (r_go [(6, .p (.bool true))] [] [] (by kernel_rfl) trivial) ?_
    refine k_ret ?_
    obtain rfl := Option.some.inj h
    exact e_ret (ls := [(.p (.bool true), 6)]) (by kernel_rfl) rfl (by kernel_rfl) rfl
  · refine k_sreg (r_go [(1, .p (.int .i64 a1)), (2, .p (.int .i64 a2)), (9, .d false [.sl none (a0.map eI)]), (10, .p (.int .i64 (a0.length : Int))), (11, .p (.int .i64 0))] [(1, {n := some a0.length})] [(a0.map eI).length = a0.length] (by kernel_rfl) ⟨(List.length_map ..), trivial⟩) ?_
    refine k_block ?_
    obtain ⟨y3, hl_x2, hk_x2⟩ := bind_some' h
    clear h
    refine k_loop (J := fun (x : Int) => [(1, .p (.int .i64 a1)), (2, .p (.int .i64 a2)), (9, .d false [.sl none (a0.map eI)]), (10, .p (.int .i64 (a0.length : Int))), (11, .p (.int .i64 x))]) hl_x2 (wk_of (by kernel_rfl) (by kernel_rfl)) (fun x2 o_x2 h hy_x2 => ?_)
    unfold spec_l1All_b1 at h
    refine k_sreg (r_go [(1, .p (.int .i64 a1)), (2, .p (.int .i64 a2)), (9, .d false [.sl none (a0.map eI)]), (10, .p (.int .i64 (a0.length : Int))), (11, .p (.int .i64 x2)), (12, .p (.bool (decide (x2 < (a0.length : Int)))))] [] [] (by kernel_rfl) trivial) ?_
    refine k_seq ?_
    refine k_cond (b := (decide (x2 < (a0.length : Int)))) (by kernel_rfl) (fun hc5_3 => ?_) (fun hc5_3 => ?_)
    · replace h := ite_t hc5_3 h
      refine k_skip ?_
      refine q_n ?_
      refine k_seq ?_
      refine k_block ?_
      replace h := bind_some' h
      obtain ⟨v5, hv5, h⟩ := h
      refine k_sreg (r_go [(1, .p (.int .i64 a1)), (2, .p (.int .i64 a2)), (8, .p (.int .i64 v5)), (9, .d false [.sl none (a0.map eI)]), (10, .p (.int .i64 (a0.length : Int))), (11, .p (.int .i64 x2))] [(0, {row := some [.raw (.int .i64 v5)]})] [0 ≤ x2, (a0.map eI)[(Int.toNat x2)]? = some [.raw (.int .i64 v5)]] (by kernel_rfl) ⟨(idxO_some hv5).1, (map_get eI (idxO_some hv5).2), trivial⟩) ?_
      replace h := bind_some' h
      obtain ⟨v6, hv6, h⟩ := h
      refine k_sreg (r_go [(1, .p (.int .i64 a1)), (2, .p (.int .i64 a2)), (9, .d false [.sl none (a0.map eI)]), (10, .p (.int .i64 (a0.length : Int))), (11, .p (.int .i64 x2)), (19, .p (.bool (!v6)))] [(3, {call := some ([.v (.int .i64 v5), .v (.int .i64 a1), .v (.int .i64 a2)], [.p (.bool v6)], true)})] [([.v (.int .i64 v5), .v (.int .i64 a1), .v (.int .i64 a2)] : List Arg) = [.v (.int .i64 v5), .v (.int .i64 a1), .v (.int .i64 a2)], Meets Try.prog 86 ([.v (.int .i64 v5), .v (.int .i64 a1), .v (.int .i64 a2)] ++ []) { vals := [.p (.bool v6)] }, (!true || List.all [.p (.bool v6)] simpleR) = true] (by kernel_rfl) ⟨rfl, (wk_spec_l1In hv6), (bt rfl), trivial⟩) ?_
      refine k_cond (b := (!v6)) (by kernel_rfl) (fun hc6_6 => ?_) (fun hc6_6 => ?_)
      · replace h := ite_t hc6_6 h
        refine k_sreg (r_go [(6, .p (.bool false))] [] [] (by kernel_rfl) trivial) ?_
        refine k_ret ?_
        refine b_r ?_
        refine q_r ?_
        refine lq_r ?_
        refine b_r ?_
        refine q_r ?_
        have hyy := hy_x2 _ (Option.some.inj h).symm
        subst hyy
        have h := hk_x2
        dsimp only [Sum.elim] at h
        obtain rfl := Option.some.inj h
        exact e_ret (ls := [(.p (.bool false), 6)]) (by kernel_rfl) rfl (by kernel_rfl) rfl
      · replace h := ite_f hc6_6 h
        refine k_skip ?_
        refine b_n ?_
        refine q_n ?_
        refine k_reg (r_go [(1, .p (.int .i64 a1)), (2, .p (.int .i64 a2)), (9, .d false [.sl none (a0.map eI)]), (10, .p (.int .i64 (a0.length : Int))), (11, .p (.int .i64 (w64 (x2 + 1))))] [] [] (by kernel_rfl) trivial) ?_
        exact lq_n (w64 (x2 + 1)) (Option.some.inj h).symm (wk_of (by kernel_rfl) (by kernel_rfl))
    · replace h := ite_f hc5_3 h
      refine k_exit ?_
      refine q_x ?_
      refine lq_x ?_
      refine b_x ?_
      have hyy := hy_x2 _ (Option.some.inj h).symm
      subst hyy
      have h := hk_x2
      dsimp only [Sum.elim] at h
      refine q_n ?_
      exact ⟨(), h, (wk_of (by kernel_rfl) (by kernel_rfl))⟩
theorem wk_spec_grGood {a0 : (List (List Int))}  {r : Bool} (h : spec_grGood a0 = some r) : Meets Try.prog 63 [.d false [.sl none (a0.map (eF eI))]] { vals := [.p (.bool r)] } := by
  refine Meets_ofL (by kernel_rfl) Try.func63 rfl (by kernel_rfl) (l0 := [(0, .d false [.sl none (a0.map (eF eI))])]) (by kernel_rfl) ?_
  unfold spec_grGood at h
  refine k_sreg (r_go [(0, .d false [.sl none (a0.map (eF eI))])] [] [] (by kernel_rfl) trivial) ?_
  refine k_seq ?_
  replace h := bind_some' h
  obtain ⟨v1, hv1, h⟩ := h
  refine k_sreg (r_go [(0, .d false [.sl none (a0.map (eF eI))]), (8, .p (.bool (!v1)))] [(1, {n := some a0.length}), (2, {call := some ([.v (.int .i64 (a0.length : Int)), .v (.int .i64 1), .v (.int .i64 8)], [.p (.bool v1)], true)})] [(a0.map (eF eI)).length = a0.length, ([.v (.int .i64 (a0.length : Int)), .v (.int .i64 1), .v (.int .i64 8)] : List Arg) = [.v (.int .i64 (a0.length : Int)), .v (.int .i64 1), .v (.int .i64 8)], Meets Try.prog 86 ([.v (.int .i64 (a0.length : Int)), .v (.int .i64 1), .v (.int .i64 8)] ++ []) { vals := [.p (.bool v1)] }, (!true || List.all [.p (.bool v1)] simpleR) = true] (by kernel_rfl) ⟨(List.length_map ..), rfl, (wk_spec_l1In hv1), (bt rfl), trivial⟩) ?_
  refine k_cond (b := (!v1)) (by kernel_rfl) (fun hc2_1 => ?_) (fun hc2_1 => ?_)
  · replace h := ite_t hc2_1 h
    refine k_sreg (r_go [(2, .p (.bool false))] [] [] (by kernel_rfl) trivial) ?_
    refine k_ret ?_
    refine q_r ?_
    obtain rfl := Option.some.inj h
    exact e_ret (ls := [(.p (.bool false), 2)]) (by kernel_rfl) rfl (by kernel_rfl) rfl
  · replace h := ite_f hc2_1 h
    refine k_skip ?_
    refine q_n ?_
    refine k_join (J := fun (x : Unit) => []) (K := fun x => spec_grGood_k1 x = some r) (fun x3 h => ?_) ?_
    · unfold spec_grGood_k1 at h
      refine k_sreg (r_go [(2, .p (.bool true))] [] [] (by kernel_rfl) trivial) ?_
      refine k_ret ?_
      obtain rfl := Option.some.inj h
      exact e_ret (ls := [(.p (.bool true), 2)]) (by kernel_rfl) rfl (by kernel_rfl) rfl
    · refine k_sreg (r_go [(0, .d false [.sl none (a0.map (eF eI))]), (9, .d false [.sl none (a0.map (eF eI))]), (10, .p (.int .i64 (a0.length : Int))), (11, .p (.int .i64 0))] [(1, {n := some a0.length})] [(a0.map (eF eI)).length = a0.length] (by kernel_rfl) ⟨(List.length_map ..), trivial⟩) ?_
      refine k_block ?_
      obtain ⟨y5, hl_x4, hk_x4⟩ := bind_some' h
      clear h
      refine k_loop (J := fun (x : Int) => [(0, .d false [.sl none (a0.map (eF eI))]), (9, .d false [.sl none (a0.map (eF eI))]), (10, .p (.int .i64 (a0.length : Int))), (11, .p (.int .i64 x))]) hl_x4 (wk_of (by kernel_rfl) (by kernel_rfl)) (fun x4 o_x4 h hy_x4 => ?_)
      unfold spec_grGood_b1 at h
      refine k_sreg (r_go [(0, .d false [.sl none (a0.map (eF eI))]), (9, .d false [.sl none (a0.map (eF eI))]), (10, .p (.int .i64 (a0.length : Int))), (11, .p (.int .i64 x4)), (12, .p (.bool (decide (x4 < (a0.length : Int)))))] [] [] (by kernel_rfl) trivial) ?_
      refine k_seq ?_
      refine k_cond (b := (decide (x4 < (a0.length : Int)))) (by kernel_rfl) (fun hc5_5 => ?_) (fun hc5_5 => ?_)
      · replace h := ite_t hc5_5 h
        refine k_skip ?_
        refine q_n ?_
        refine k_seq ?_
        refine k_block ?_
        replace h := bind_some' h
        obtain ⟨v7, hv7, h⟩ := h
        refine k_sreg (r_go [(0, .d false [.sl none (a0.map (eF eI))]), (4, .d false [.sl none (v7.map eI)]), (9, .d false [.sl none (a0.map (eF eI))]), (10, .p (.int .i64 (a0.length : Int))), (11, .p (.int .i64 x4))] [(0, {row := some [.sl none (v7.map eI)]})] [0 ≤ x4, (a0.map (eF eI))[(Int.toNat x4)]? = some [.sl none (v7.map eI)]] (by kernel_rfl) ⟨(idxO_some hv7).1, (map_get (eF eI) (idxO_some hv7).2), trivial⟩) ?_
        replace h := bind_some' h
        obtain ⟨w9, hw9, h⟩ := h
        refine k_sreg (l1 := [(0, .d false [.sl none (a0.map (eF eI))]), (9, .d false [.sl none (a0.map (eF eI))]), (10, .p (.int .i64 (a0.length : Int))), (11, .p (.int .i64 x4)), (24, .p (.bool w9))]) ?_ ?_
        · clear h
          rcases Bool.eq_false_or_eq_true ((v7.length : Int) != (a0.length : Int)) with ha2 | ha2
          · replace hw9 := ite_t ha2 hw9
            have hw9 := Option.some.inj hw9
            subst hw9
            exact (r_go [(0, .d false [.sl none (a0.map (eF eI))]), (9, .d false [.sl none (a0.map (eF eI))]), (10, .p (.int .i64 (a0.length : Int))), (11, .p (.int .i64 x4)), (24, .p (.bool true))] [(1, {n := some v7.length}), (3, {n := some a0.length}), (6, {g := some true}), (7, {g := some true}), (8, {g := some true}), (9, {b := some true})] [(v7.map eI).length = v7.length, (a0.map (eF eI)).length = a0.length, ((v7.length : Int) != (a0.length : Int)) = true, ((v7.length : Int) != (a0.length : Int)) = true, ((v7.length : Int) != (a0.length : Int)) = true, ((v7.length : Int) != (a0.length : Int)) = true] (by kernel_rfl) ⟨(List.length_map ..), (List.length_map ..), ha2, ha2, ha2, ha2, trivial⟩)
          · replace hw9 := ite_f ha2 hw9
            replace hw9 := bind_some' hw9
            obtain ⟨v8, hv8, hw9⟩ := hw9
            have hw9 := Option.some.inj hw9
            subst hw9
            exact (r_go [(0, .d false [.sl none (a0.map (eF eI))]), (9, .d false [.sl none (a0.map (eF eI))]), (10, .p (.int .i64 (a0.length : Int))), (11, .p (.int .i64 x4)), (24, .p (.bool (!v8)))] [(1, {n := some v7.length}), (3, {n := some a0.length}), (6, {g := some false}), (7, {g := some false, call := some ([.d false [.sl none (v7.map eI)], .v (.int .i64 0), .v (.int .i64 9)], [.p (.bool v8)], true)}), (8, {g := some false}), (9, {b := some false})] [(v7.map eI).length = v7.length, (a0.map (eF eI)).length = a0.length, ((v7.length : Int) != (a0.length : Int)) = false, ((v7.length : Int) != (a0.length : Int)) = false, ([.d false [.sl none (v7.map eI)], .v (.int .i64 0), .v (.int .i64 9)] : List Arg) = [.d false [.sl none (v7.map eI)], .v (.int .i64 0), .v (.int .i64 9)], Meets Try.prog 87 ([.d false [.sl none (v7.map eI)], .v (.int .i64 0), .v (.int .i64 9)] ++ []) { vals := [.p (.bool v8)] }, (!true || List.all [.p (.bool v8)] simpleR) = true, ((v7.length : Int) != (a0.length : Int)) = false, ((v7.length : Int) != (a0.length : Int)) = false] (by kernel_rfl) ⟨(List.length_map ..), (List.length_map ..), ha2, ha2, rfl, (wk_spec_l1All hv8), (bt rfl), ha2, ha2, trivial⟩)
        · refine k_cond (b := w9) (by kernel_rfl) (fun hc6_9 => ?_) (fun hc6_9 => ?_)
          · replace h := ite_t hc6_9 h
            refine k_sreg (r_go [(2, .p (.bool false))] [] [] (by kernel_rfl) trivial) ?_
            refine k_ret ?_
            refine b_r ?_
            refine q_r ?_
            refine lq_r ?_
            refine b_r ?_
            refine q_r ?_
            have hyy := hy_x4 _ (Option.some.inj h).symm
            subst hyy
            have h := hk_x4
            dsimp only [Sum.elim] at h
            obtain rfl := Option.some.inj h
            exact e_ret (ls := [(.p (.bool false), 2)]) (by kernel_rfl) rfl (by kernel_rfl) rfl
          · replace h := ite_f hc6_9 h
            refine k_skip ?_
            refine b_n ?_
            refine q_n ?_
            refine k_reg (r_go [(0, .d false [.sl none (a0.map (eF eI))]), (9, .d false [.sl none (a0.map (eF eI))]), (10, .p (.int .i64 (a0.length : Int))), (11, .p (.int .i64 (w64 (x4 + 1))))] [] [] (by kernel_rfl) trivial) ?_
            exact lq_n (w64 (x4 + 1)) (Option.some.inj h).symm (wk_of (by kernel_rfl) (by kernel_rfl))
      · replace h := ite_f hc5_5 h
        refine k_exit ?_
        refine q_x ?_
        refine lq_x ?_
        refine b_x ?_
        have hyy := hy_x4 _ (Option.some.inj h).symm
        subst hyy
        have h := hk_x4
        dsimp only [Sum.elim] at h
        refine q_n ?_
        exact ⟨(), h, (wk_of (by kernel_rfl) (by kernel_rfl))⟩
theorem wk_spec_gwTimes {a0 : (List (List Int))} {a1 : (List Int)}  {r : (List Int)} (h : spec_gwTimes a0 a1 = some r) : Meets Try.prog 60 [.d false [.sl none (a0.map (eF eI))], .d false [.sl none (a1.map eI)]] { vals := [.ov false [.sl (some 3) (r.map eI)]] } := by
  refine Meets_ofL (by kernel_rfl) Try.func60 rfl (by kernel_rfl) (l0 := [(0, .d false [.sl none (a0.map (eF eI))]), (1, .d false [.sl none (a1.map eI)])]) (by kernel_rfl) ?_
  unfold spec_gwTimes at h
  refine k_sreg (r_go [(0, .d false [.sl none (a0.map (eF eI))]), (1, .d false [.sl none (a1.map eI)])] [] [] (by kernel_rfl) trivial) ?_
  refine k_sreg (r_go [(0, .d false [.sl none (a0.map (eF eI))]), (1, .d false [.sl none (a1.map eI)]), (5, .ov false [.sl (some 3) []])] [] [] (by kernel_rfl) trivial) ?_
  refine k_join (J := fun (x : (List Int)) => [(5, .ov false [.sl (some 3) (x.map eI)])]) (K := fun x => spec_gwTimes_k1 x = some r) (fun x1 h => ?_) ?_
  · unfold spec_gwTimes_k1 at h
    refine k_sreg (r_go [(4, .ov false [.sl (some 3) (x1.map eI)])] [] [] (by kernel_rfl) trivial) ?_
    refine k_ret ?_
    obtain rfl := Option.some.inj h
    exact e_ret (ls := [(.ov false [.sl (some 3) (x1.map eI)], 4)]) (by kernel_rfl) rfl (by kernel_rfl) rfl
  · refine k_sreg (r_go [(1, .d false [.sl none (a1.map eI)]), (5, .ov false [.sl (some 3) []]), (11, .d false [.sl none (a0.map (eF eI))]), (12, .p (.int .i64 (a0.length : Int))), (13, .p (.int .i64 0))] [(1, {n := some a0.length})] [(a0.map (eF eI)).length = a0.length] (by kernel_rfl) ⟨(List.length_map ..), trivial⟩) ?_
    refine k_block ?_
    obtain ⟨y3, hl_x2, hk_x2⟩ := bind_some' h
    clear h
    refine k_loop (J := fun (x : ((List Int) × Int)) => [(1, .d false [.sl none (a1.map eI)]), (5, .ov false [.sl (some 3) (x.1.map eI)]), (11, .d false [.sl none (a0.map (eF eI))]), (12, .p (.int .i64 (a0.length : Int))), (13, .p (.int .i64 x.2))]) hl_x2 (wk_of (by kernel_rfl) (by kernel_rfl)) (fun x2 o_x2 h hy_x2 => ?_)
    unfold spec_gwTimes_b1 at h
    refine k_sreg (r_go [(1, .d false [.sl none (a1.map eI)]), (5, .ov false [.sl (some 3) (x2.1.map eI)]), (11, .d false [.sl none (a0.map (eF eI))]), (12, .p (.int .i64 (a0.length : Int))), (13, .p (.int .i64 x2.2)), (14, .p (.bool (decide (x2.2 < (a0.length : Int)))))] [] [] (by kernel_rfl) trivial) ?_
    refine k_seq ?_
    refine k_cond (b := (decide (x2.2 < (a0.length : Int)))) (by kernel_rfl) (fun hc5_3 => ?_) (fun hc5_3 => ?_)
    · replace h := ite_t hc5_3 h
      refine k_skip ?_
      refine q_n ?_
      refine k_join (J := fun (x : (List Int)) => [(1, .d false [.sl none (a1.map eI)]), (5, .ov false [.sl (some 3) (x.map eI)]), (11, .d false [.sl none (a0.map (eF eI))]), (12, .p (.int .i64 (a0.length : Int))), (13, .p (.int .i64 x2.2))]) (K := fun x => spec_gwTimes_k2 x2 x = some o_x2) (fun x5 h => ?_) ?_
      · unfold spec_gwTimes_k2 at h
        refine k_reg (r_go [(1, .d false [.sl none (a1.map eI)]), (5, .ov false [.sl (some 3) (x5.map eI)]), (11, .d false [.sl none (a0.map (eF eI))]), (12, .p (.int .i64 (a0.length : Int))), (13, .p (.int .i64 (w64 (x2.2 + 1))))] [] [] (by kernel_rfl) trivial) ?_
        exact lq_n (x5, (w64 (x2.2 + 1))) (Option.some.inj h).symm (wk_of (by kernel_rfl) (by kernel_rfl))
      · refine k_block ?_
        replace h := bind_some' h
        obtain ⟨v6, hv6, h⟩ := h
        refine k_sreg (r_go [(1, .d false [.sl none (a1.map eI)]), (5, .ov false [.sl (some 3) (x2.1.map eI)]), (7, .d false [.sl none (v6.map eI)]), (11, .d false [.sl none (a0.map (eF eI))]), (12, .p (.int .i64 (a0.length : Int))), (13, .p (.int .i64 x2.2))] [(0, {row := some [.sl none (v6.map eI)]})] [0 ≤ x2.2, (a0.map (eF eI))[(Int.toNat x2.2)]? = some [.sl none (v6.map eI)]] (by kernel_rfl) ⟨(idxO_some hv6).1, (map_get (eF eI) (idxO_some hv6).2), trivial⟩) ?_
        refine k_sreg (r_go [(1, .d false [.sl none (a1.map eI)]), (5, .ov false [.sl (some 3) (x2.1.map eI)]), (7, .d false [.sl none (v6.map eI)]), (8, .p (.int .i64 0)), (11, .d false [.sl none (a0.map (eF eI))]), (12, .p (.int .i64 (a0.length : Int))), (13, .p (.int .i64 x2.2))] [] [] (by kernel_rfl) trivial) ?_
        refine k_join (J := fun (x : Int) => [(1, .d false [.sl none (a1.map eI)]), (5, .ov false [.sl (some 3) (x2.1.map eI)]), (8, .p (.int .i64 x)), (11, .d false [.sl none (a0.map (eF eI))]), (12, .p (.int .i64 (a0.length : Int))), (13, .p (.int .i64 x2.2))]) (K := fun x => spec_gwTimes_k3 x2 x = some o_x2) (fun x7 h => ?_) ?_
        · unfold spec_gwTimes_k3 at h
          replace h := bind_some' h
          obtain ⟨u8, hu8, h⟩ := h
          refine k_reg (r_go [(1, .d false [.sl none (a1.map eI)]), (5, .ov false [.sl (some 3) ((x2.1 ++ [x7]).map eI)]), (11, .d false [.sl none (a0.map (eF eI))]), (12, .p (.int .i64 (a0.length : Int))), (13, .p (.int .i64 x2.2))] [(3, {fix := some (36, .ov false [.sl (some 3) ((x2.1 ++ [x7]).map eI)])})] [List.length ((x2.1.map eI) : List (List C)) + List.length ((([x7]).map eI) : List (List C)) ≤ 1099511627776, ∀ row ∈ ((([x7]).map eI) : List (List C)), row.length = 1, (SV.ov false [.sl (some 3) ((x2.1.map eI) ++ (([x7]).map eI))] : SV) = .ov false [.sl (some 3) ((x2.1 ++ [x7]).map eI)]] (by kernel_rfl) ⟨(by have hg := (guardO_some hu8); simpa using hg), (rows_len fun _ => rfl), (congrArg (fun z => SV.ov false [.sl (some 3) z]) (List.map_append ..).symm), trivial⟩) ?_
          refine b_n ?_
          refine q_n ?_
          exact ⟨(x2.1 ++ [x7]), h, (wk_of (by kernel_rfl) (by kernel_rfl))⟩
        · refine k_sreg (r_go [(1, .d false [.sl none (a1.map eI)]), (5, .ov false [.sl (some 3) (x2.1.map eI)]), (8, .p (.int .i64 0)), (11, .d false [.sl none (a0.map (eF eI))]), (12, .p (.int .i64 (a0.length : Int))), (13, .p (.int .i64 x2.2)), (17, .d false [.sl none (v6.map eI)]), (18, .p (.int .i64 (v6.length : Int))), (19, .p (.int .i64 0))] [(1, {n := some v6.length})] [(v6.map eI).length = v6.length] (by kernel_rfl) ⟨(List.length_map ..), trivial⟩) ?_
          refine k_block ?_
          obtain ⟨y10, hl_x9, hk_x9⟩ := bind_some' h
          clear h
          refine k_loop (J := fun (x : (Int × Int)) => [(1, .d false [.sl none (a1.map eI)]), (5, .ov false [.sl (some 3) (x2.1.map eI)]), (8, .p (.int .i64 x.1)), (11, .d false [.sl none (a0.map (eF eI))]), (12, .p (.int .i64 (a0.length : Int))), (13, .p (.int .i64 x2.2)), (17, .d false [.sl none (v6.map eI)]), (18, .p (.int .i64 (v6.length : Int))), (19, .p (.int .i64 x.2))]) hl_x9 (wk_of (by kernel_rfl) (by kernel_rfl)) (fun x9 o_x9 h hy_x9 => ?_)
          unfold spec_gwTimes_b2 at h
          refine k_sreg (r_go [(1, .d false [.sl none (a1.map eI)]), (5, .ov false [.sl (some 3) (x2.1.map eI)]), (8, .p (.int .i64 x9.1)), (11, .d false [.sl none (a0.map (eF eI))]), (12, .p (.int .i64 (a0.length : Int))), (13, .p (.int .i64 x2.2)), (17, .d false [.sl none (v6.map eI)]), (18, .p (.int .i64 (v6.length : Int))), (19, .p (.int .i64 x9.2)), (20, .p (.bool (decide (x9.2 < (v6.length : Int)))))] [] [] (by kernel_rfl) trivial) ?_
          refine k_seq ?_
          refine k_cond (b := (decide (x9.2 < (v6.length : Int)))) (by kernel_rfl) (fun hc10_10 => ?_) (fun hc10_10 => ?_)
          · replace h := ite_t hc10_10 h
            refine k_skip ?_
            refine q_n ?_
            refine k_seq ?_
            refine k_block ?_
            replace h := bind_some' h
            obtain ⟨v12, hv12, h⟩ := h
            refine k_sreg (r_go [(1, .d false [.sl none (a1.map eI)]), (5, .ov false [.sl (some 3) (x2.1.map eI)]), (8, .p (.int .i64 x9.1)), (9, .p (.int .i64 x9.2)), (10, .p (.int .i64 v12)), (11, .d false [.sl none (a0.map (eF eI))]), (12, .p (.int .i64 (a0.length : Int))), (13, .p (.int .i64 x2.2)), (17, .d false [.sl none (v6.map eI)]), (18, .p (.int .i64 (v6.length : Int))), (19, .p (.int .i64 x9.2))] [(1, {row := some [.raw (.int .i64 v12)]})] [0 ≤ x9.2, (v6.map eI)[(Int.toNat x9.2)]? = some [.raw (.int .i64 v12)]] (by kernel_rfl) ⟨(idxO_some hv12).1, (map_get eI (idxO_some hv12).2), trivial⟩) ?_
            replace h := bind_some' h
            obtain ⟨v13, hv13, h⟩ := h
            refine k_reg (r_go [(1, .d false [.sl none (a1.map eI)]), (5, .ov false [.sl (some 3) (x2.1.map eI)]), (8, .p (.int .i64 (w64 (x9.1 + (w64 (v12 * v13)))))), (11, .d false [.sl none (a0.map (eF eI))]), (12, .p (.int .i64 (a0.length : Int))), (13, .p (.int .i64 x2.2)), (17, .d false [.sl none (v6.map eI)]), (18, .p (.int .i64 (v6.length : Int))), (19, .p (.int .i64 x9.2))] [(4, {row := some [.raw (.int .i64 v13)]})] [0 ≤ x9.2, (a1.map eI)[(Int.toNat x9.2)]? = some [.raw (.int .i64 v13)]] (by kernel_rfl) ⟨(idxO_some hv13).1, (map_get eI (idxO_some hv13).2), trivial⟩) ?_
            refine b_n ?_
            refine q_n ?_
            refine k_reg (r_go [(1, .d false [.sl none (a1.map eI)]), (5, .ov false [.sl (some 3) (x2.1.map eI)]), (8, .p (.int .i64 (w64 (x9.1 + (w64 (v12 * v13)))))), (11, .d false [.sl none (a0.map (eF eI))]), (12, .p (.int .i64 (a0.length : Int))), (13, .p (.int .i64 x2.2)), (17, .d false [.sl none (v6.map eI)]), (18, .p (.int .i64 (v6.length : Int))), (19, .p (.int .i64 (w64 (x9.2 + 1))))] [] [] (by kernel_rfl) trivial) ?_
            exact lq_n ((w64 (x9.1 + (w64 (v12 * v13)))), (w64 (x9.2 + 1))) (Option.some.inj h).symm (wk_of (by kernel_rfl) (by kernel_rfl))
          · replace h := ite_f hc10_10 h
            refine k_exit ?_
            refine q_x ?_
            refine lq_x ?_
            refine b_x ?_
            have hyy := hy_x9 _ (Option.some.inj h).symm
            subst hyy
            have h := hk_x9
            refine q_n ?_
            exact ⟨x9.1, h, (wk_of (by kernel_rfl) (by kernel_rfl))⟩
    · replace h := ite_f hc5_3 h
      refine k_exit ?_
      refine q_x ?_
      refine lq_x ?_
      refine b_x ?_
      have hyy := hy_x2 _ (Option.some.inj h).symm
      subst hyy
      have h := hk_x2
      refine q_n ?_
      exact ⟨x2.1, h, (wk_of (by kernel_rfl) (by kernel_rfl))⟩
theorem wk_spec_RowSums {a0 : (List (List Int))}  {r : ((List Int) × Bool)} (h : spec_RowSums a0 = some r) : Meets Try.prog 33 [.d false [.sl none (a0.map (eF eI))]] { vals := [.ov false [.sl (some 3) (r.1.map eI)], .p (.bool r.2)] } := by
  refine Meets_ofL (by kernel_rfl) Try.func33 rfl (by kernel_rfl) (l0 := [(0, .d false [.sl none (a0.map (eF eI))])]) (by kernel_rfl) ?_
  unfold spec_RowSums at h
  refine k_sreg (r_go [(0, .d false [.sl none (a0.map (eF eI))])] [] [] (by kernel_rfl) trivial) ?_
  refine k_seq ?_
  replace h := bind_some' h
  obtain ⟨v1, hv1, h⟩ := h
  refine k_sreg (r_go [(0, .d false [.sl none (a0.map (eF eI))]), (8, .p (.bool (!v1)))] [(1, {call := some ([.d false [.sl none (a0.map (eF eI))]], [.p (.bool v1)], true)})] [([.d false [.sl none (a0.map (eF eI))]] : List Arg) = [.d false [.sl none (a0.map (eF eI))]], Meets Try.prog 63 ([.d false [.sl none (a0.map (eF eI))]] ++ []) { vals := [.p (.bool v1)] }, (!true || List.all [.p (.bool v1)] simpleR) = true] (by kernel_rfl) ⟨rfl, (wk_spec_grGood hv1), (bt rfl), trivial⟩) ?_
  refine k_cond (b := (!v1)) (by kernel_rfl) (fun hc2_1 => ?_) (fun hc2_1 => ?_)
  · replace h := ite_t hc2_1 h
    refine k_sreg (r_go [(2, .ov false [.sl (some 3) []]), (3, .p (.bool false))] [] [] (by kernel_rfl) trivial) ?_
    refine k_ret ?_
    refine q_r ?_
    obtain rfl := Option.some.inj h
    exact e_ret (ls := [(.ov false [.sl (some 3) []], 2), (.p (.bool false), 3)]) (by kernel_rfl) rfl (by kernel_rfl) rfl
  · replace h := ite_f hc2_1 h
    refine k_skip ?_
    refine q_n ?_
    replace h := bind_some' h
    obtain ⟨u3, hu3, h⟩ := h
    refine k_sreg (r_go [(0, .d false [.sl none (a0.map (eF eI))]), (4, .ov false [.sl (some 3) ((List.replicate (Int.toNat (a0.length : Int)) (0 : Int)).map eI)])] [(1, {n := some a0.length}), (2, {fix := some (11, .ov false [.sl (some 3) ((List.replicate (Int.toNat (a0.length : Int)) (0 : Int)).map eI)])})] [(a0.map (eF eI)).length = a0.length, (a0.length : Int) = (a0.length : Int), 0 ≤ (a0.length : Int), (a0.length : Int) ≤ 1099511627776, (SV.ov false [.sl (some 3) (List.replicate (Int.toNat (a0.length : Int)) [.raw (.int .i64 0)])] : SV) = .ov false [.sl (some 3) ((List.replicate (Int.toNat (a0.length : Int)) (0 : Int)).map eI)]] (by kernel_rfl) ⟨(List.length_map ..), rfl, (guardO_some hu3).1, (guardO_some hu3).2, (congrArg (fun z => SV.ov false [.sl (some 3) z]) (rep_fix eI (0 : Int))), trivial⟩) ?_
    refine k_join (J := fun (x : (List Int)) => [(0, .d false [.sl none (a0.map (eF eI))]), (4, .ov false [.sl (some 3) (x.map eI)])]) (K := fun x => spec_RowSums_k1 a0 x = some r) (fun x4 h => ?_) ?_
    · unfold spec_RowSums_k1 at h
      replace h := bind_some' h
      obtain ⟨v5, hv5, h⟩ := h
      refine k_sreg (r_go [(2, .ov false [.sl (some 3) (v5.map eI)]), (3, .p (.bool true))] [(2, {call := some ([.d false [.sl none (a0.map (eF eI))], .d false [.sl none (x4.map eI)]], [.ov false [.sl (some 3) (v5.map eI)]], true)})] [([.d false [.sl none (a0.map (eF eI))], .d false [.sl none (eraL (x4.map eI))]] : List Arg) = [.d false [.sl none (a0.map (eF eI))], .d false [.sl none (x4.map eI)]], Meets Try.prog 60 ([.d false [.sl none (a0.map (eF eI))], .d false [.sl none (x4.map eI)]] ++ []) { vals := [.ov false [.sl (some 3) (v5.map eI)]] }, (!true || List.all [.ov false [.sl (some 3) (v5.map eI)]] simpleR) = true] (by kernel_rfl) ⟨(by simp only [eraL_enc (h := eI) er_I]), (wk_spec_gwTimes hv5), (bt (sa_o (wnR1 (wnL_enc wn_I) rfl) rfl)), trivial⟩) ?_
      refine k_ret ?_
      obtain rfl := Option.some.inj h
      exact e_ret (ls := [(.ov false [.sl (some 3) (v5.map eI)], 2), (.p (.bool true), 3)]) (by kernel_rfl) rfl (by kernel_rfl) rfl
    · refine k_sreg (r_go [(0, .d false [.sl none (a0.map (eF eI))]), (4, .ov false [.sl (some 3) ((List.replicate (Int.toNat (a0.length : Int)) (0 : Int)).map eI)]), (13, .p (.int .i64 ((List.replicate (Int.toNat (a0.length : Int)) (0 : Int)).length : Int))), (14, .p (.int .i64 0))] [(1, {n := some (List.replicate (Int.toNat (a0.length : Int)) (0 : Int)).length})] [((List.replicate (Int.toNat (a0.length : Int)) (0 : Int)).map eI).length = (List.replicate (Int.toNat (a0.length : Int)) (0 : Int)).length] (by kernel_rfl) ⟨(List.length_map ..), trivial⟩) ?_
      refine k_block ?_
      obtain ⟨y7, hl_x6, hk_x6⟩ := bind_some' h
      clear h
      refine k_loop (J := fun (x : ((List Int) × Int)) => [(0, .d false [.sl none (a0.map (eF eI))]), (4, .ov false [.sl (some 3) (x.1.map eI)]), (13, .p (.int .i64 ((List.replicate (Int.toNat (a0.length : Int)) (0 : Int)).length : Int))), (14, .p (.int .i64 x.2))]) hl_x6 (wk_of (by kernel_rfl) (by kernel_rfl)) (fun x6 o_x6 h hy_x6 => ?_)
      unfold spec_RowSums_b1 at h
      refine k_sreg (r_go [(0, .d false [.sl none (a0.map (eF eI))]), (4, .ov false [.sl (some 3) (x6.1.map eI)]), (13, .p (.int .i64 ((List.replicate (Int.toNat (a0.length : Int)) (0 : Int)).length : Int))), (14, .p (.int .i64 x6.2)), (15, .p (.bool (decide (x6.2 < ((List.replicate (Int.toNat (a0.length : Int)) (0 : Int)).length : Int)))))] [] [] (by kernel_rfl) trivial) ?_
      refine k_seq ?_
      refine k_cond (b := (decide (x6.2 < ((List.replicate (Int.toNat (a0.length : Int)) (0 : Int)).length : Int)))) (by kernel_rfl) (fun hc5_7 => ?_) (fun hc5_7 => ?_)
      · replace h := ite_t hc5_7 h
        refine k_skip ?_
        refine q_n ?_
        refine k_seq ?_
        refine k_block ?_
        refine k_sreg (r_go [(0, .d false [.sl none (a0.map (eF eI))]), (4, .ov false [.sl (some 3) (x6.1.map eI)]), (5, .p (.int .i64 x6.2)), (13, .p (.int .i64 ((List.replicate (Int.toNat (a0.length : Int)) (0 : Int)).length : Int))), (14, .p (.int .i64 x6.2))] [] [] (by kernel_rfl) trivial) ?_
        replace h := bind_some' h
        obtain ⟨v9, hv9, h⟩ := h
        refine k_reg (r_go [(0, .d false [.sl none (a0.map (eF eI))]), (4, .ov false [.sl (some 3) ((x6.1.set (Int.toNat x6.2) 1).map eI)]), (13, .p (.int .i64 ((List.replicate (Int.toNat (a0.length : Int)) (0 : Int)).length : Int))), (14, .p (.int .i64 x6.2))] [(2, {row := some [.raw (.int .i64 v9)]}), (3, {row := some [.raw (.int .i64 v9)], fix := some (4, .ov false [.sl (some 3) ((x6.1.set (Int.toNat x6.2) 1).map eI)])})] [0 ≤ x6.2, (x6.1.map eI)[(Int.toNat x6.2)]? = some [.raw (.int .i64 v9)], getRow [[.sl (some 3) (x6.1.map eI)]] [(0, 0), ((Int.toNat x6.2), 0)] = some [.raw (.int .i64 v9)], (SV.ov false [.sl (some 3) (setL (x6.1.map eI) [((Int.toNat x6.2), 0)] [.raw (.int .i64 1)])] : SV) = .ov false [.sl (some 3) ((x6.1.set (Int.toNat x6.2) 1).map eI)]] (by kernel_rfl) ⟨(idxO_some hv9).1, (map_get eI (idxO_some hv9).2), ((gr0 rfl).trans (gre (map_get eI (idxO_some hv9).2))), (congrArg (fun z => SV.ov false [.sl (some 3) z]) (set1 (f := eI) (y := 1) (idxO_some hv9).2 rfl)), trivial⟩) ?_
        refine b_n ?_
        refine q_n ?_
        refine k_reg (r_go [(0, .d false [.sl none (a0.map (eF eI))]), (4, .ov false [.sl (some 3) ((x6.1.set (Int.toNat x6.2) 1).map eI)]), (13, .p (.int .i64 ((List.replicate (Int.toNat (a0.length : Int)) (0 : Int)).length : Int))), (14, .p (.int .i64 (w64 (x6.2 + 1))))] [] [] (by kernel_rfl) trivial) ?_
        exact lq_n ((x6.1.set (Int.toNat x6.2) 1), (w64 (x6.2 + 1))) (Option.some.inj h).symm (wk_of (by kernel_rfl) (by kernel_rfl))
      · replace h := ite_f hc5_7 h
        refine k_exit ?_
        refine q_x ?_
        refine lq_x ?_
        refine b_x ?_
        have hyy := hy_x6 _ (Option.some.inj h).symm
        subst hyy
        have h := hk_x6
        refine q_n ?_
        exact ⟨x6.1, h, (wk_of (by kernel_rfl) (by kernel_rfl))⟩
theorem wk_impl_within {a0 : Int} {a1 : Int} {a2 : Int}  {r : Bool} (h : impl_within a0 a1 a2 = some r) : Meets Try.prog 76 [.v (.int .i64 a0), .v (.int .i64 a1), .v (.int .i64 a2)] { vals := [.p (.bool r)] } := by
  refine Meets_ofL (by kernel_rfl) Try.func76 rfl (by kernel_rfl) (l0 := [(0, .p (.int .i64 a0)), (1, .p (.int .i64 a1)), (2, .p (.int .i64 a2))]) (by kernel_rfl) ?_
  unfold impl_within at h
  refine k_sreg (r_go [(0, .p (.int .i64 a0)), (1, .p (.int .i64 a1)), (2, .p (.int .i64 a2))] [] [] (by kernel_rfl) trivial) ?_
  refine k_sreg (l1 := [(6, .p (.bool ((decide (a1 ≤ a0)) && (decide (a0 ≤ a2)))))]) ?_ ?_
  · rcases Bool.eq_false_or_eq_true (decide (a1 ≤ a0)) with ha0 | ha0
    · exact RegOk.of_eq (l2 := [(6, .p (.bool ((decide (a1 ≤ a0)) && (decide (a0 ≤ a2)))))]) (r_go [(6, .p (.bool (decide (a0 ≤ a2))))] [(4, {g := some true}), (5, {g := some true}), (6, {g := some true}), (7, {b := some true})] [(decide (a1 ≤ a0)) = true, (decide (a1 ≤ a0)) = true, (decide (a1 ≤ a0)) = true, (decide (a1 ≤ a0)) = true] (by kernel_rfl) ⟨ha0, ha0, ha0, ha0, trivial⟩) (by simp [ha0])
    · exact RegOk.of_eq (l2 := [(6, .p (.bool ((decide (a1 ≤ a0)) && (decide (a0 ≤ a2)))))]) (r_go [(6, .p (.bool false))] [(4, {g := some false}), (5, {g := some false}), (6, {g := some false}), (7, {b := some false})] [(decide (a1 ≤ a0)) = false, (decide (a1 ≤ a0)) = false, (decide (a1 ≤ a0)) = false, (decide (a1 ≤ a0)) = false] (by kernel_rfl) ⟨ha0, ha0, ha0, ha0, trivial⟩) (by simp [ha0])
  · refine k_ret ?_
    obtain rfl := Option.some.inj h
    exact e_ret (ls := [(.p (.bool ((decide (a1 ≤ a0)) && (decide (a0 ≤ a2)))), 6)]) (by kernel_rfl) rfl (by kernel_rfl) rfl
theorem wk_slices_IndexFunc_LLint_Lint_d {a0 : (List (List Int))} {a1 : ((List Int) → Option Bool)} {F1 : FuncId} {K1 : List (Bool × List C)} (hp1 : ∀ x0 y, a1 x0 = some y → Meets Try.prog F1 ([.d false [.sl none (x0.map eI)]] ++ (K1.map fun (g, cs) => mkA g cs)) { vals := [.p (.bool y)] }) {r : Int} (h : slices_IndexFunc_LLint_Lint a0 a1 = some r) : Meets Try.prog 127 [.d false [.sl none (a0.map (eF eI))], .d false [.fn F1 K1]] { vals := [.p (.int .i64 r)] } := by
  refine Meets_ofL (by kernel_rfl) Try.func127 rfl (by kernel_rfl) (l0 := [(0, .d false [.sl none (a0.map (eF eI))]), (1, .d false [.fn F1 K1])]) (by kernel_rfl) ?_
  unfold slices_IndexFunc_LLint_Lint at h
  refine k_sreg (r_go [(0, .d false [.sl none (a0.map (eF eI))]), (1, .d false [.fn F1 K1])] [] [] (by kernel_rfl) trivial) ?_
  refine k_join (J := fun (x : Unit) => []) (K := fun x => slices_IndexFunc_LLint_Lint_k1 x = some r) (fun x1 h => ?_) ?_
  · unfold slices_IndexFunc_LLint_Lint_k1 at h
    refine k_sreg (r_go [(4, .p (.int .i64 (-1)))] [] [] (by kernel_rfl) trivial) ?_
    refine k_ret ?_
    obtain rfl := Option.some.inj h
    exact e_ret (ls := [(.p (.int .i64 (-1)), 4)]) (by kernel_rfl) rfl (by kernel_rfl) rfl
  · refine k_sreg (r_go [(0, .d false [.sl none (a0.map (eF eI))]), (1, .d false [.fn F1 K1]), (7, .p (.int .i64 (a0.length : Int))), (8, .p (.int .i64 0))] [(1, {n := some a0.length})] [(a0.map (eF eI)).length = a0.length] (by kernel_rfl) ⟨(List.length_map ..), trivial⟩) ?_
    refine k_block ?_
    obtain ⟨y3, hl_x2, hk_x2⟩ := bind_some' h
    clear h
    refine k_loop (J := fun (x : Int) => [(0, .d false [.sl none (a0.map (eF eI))]), (1, .d false [.fn F1 K1]), (7, .p (.int .i64 (a0.length : Int))), (8, .p (.int .i64 x))]) hl_x2 (wk_of (by kernel_rfl) (by kernel_rfl)) (fun x2 o_x2 h hy_x2 => ?_)
    unfold slices_IndexFunc_LLint_Lint_b1 at h
    refine k_sreg (r_go [(0, .d false [.sl none (a0.map (eF eI))]), (1, .d false [.fn F1 K1]), (7, .p (.int .i64 (a0.length : Int))), (8, .p (.int .i64 x2)), (9, .p (.bool (decide (x2 < (a0.length : Int)))))] [] [] (by kernel_rfl) trivial) ?_
    refine k_seq ?_
    refine k_cond (b := (decide (x2 < (a0.length : Int)))) (by kernel_rfl) (fun hc5_3 => ?_) (fun hc5_3 => ?_)
    · replace h := ite_t hc5_3 h
      refine k_skip ?_
      refine q_n ?_
      refine k_seq ?_
      refine k_block ?_
      refine k_sreg (r_go [(0, .d false [.sl none (a0.map (eF eI))]), (1, .d false [.fn F1 K1]), (5, .p (.int .i64 x2)), (7, .p (.int .i64 (a0.length : Int))), (8, .p (.int .i64 x2))] [] [] (by kernel_rfl) trivial) ?_
      replace h := bind_some' h
      obtain ⟨v5, hv5, h⟩ := h
      replace h := bind_some' h
      obtain ⟨v6, hv6, h⟩ := h
      refine k_sreg (r_go [(0, .d false [.sl none (a0.map (eF eI))]), (1, .d false [.fn F1 K1]), (5, .p (.int .i64 x2)), (7, .p (.int .i64 (a0.length : Int))), (8, .p (.int .i64 x2)), (16, .p (.bool v6))] [(3, {row := some [.sl none (v5.map eI)]}), (5, {call := some ([.d false [.sl none (v5.map eI)]], [.p (.bool v6)], true)})] [0 ≤ x2, (a0.map (eF eI))[(Int.toNat x2)]? = some [.sl none (v5.map eI)], ([.d false [.sl none (v5.map eI)]] : List Arg) = [.d false [.sl none (v5.map eI)]], Meets Try.prog F1 ([.d false [.sl none (v5.map eI)]] ++ (K1.map fun (g, cs) => mkA g cs)) { vals := [.p (.bool v6)] }, List.all [.p (.bool v6)] simpleR = true] (by kernel_rfl) ⟨(idxO_some hv5).1, (map_get (eF eI) (idxO_some hv5).2), rfl, (hp1 _ _ hv6), rfl, trivial⟩) ?_
      refine k_cond (b := v6) (by kernel_rfl) (fun hc6_6 => ?_) (fun hc6_6 => ?_)
      · replace h := ite_t hc6_6 h
        refine k_sreg (r_go [(4, .p (.int .i64 x2))] [] [] (by kernel_rfl) trivial) ?_
        refine k_ret ?_
        refine b_r ?_
        refine q_r ?_
        refine lq_r ?_
        refine b_r ?_
        refine q_r ?_
        have hyy := hy_x2 _ (Option.some.inj h).symm
        subst hyy
        have h := hk_x2
        dsimp only [Sum.elim] at h
        obtain rfl := Option.some.inj h
        exact e_ret (ls := [(.p (.int .i64 x2), 4)]) (by kernel_rfl) rfl (by kernel_rfl) rfl
      · replace h := ite_f hc6_6 h
        refine k_skip ?_
        refine b_n ?_
        refine q_n ?_
        refine k_reg (r_go [(0, .d false [.sl none (a0.map (eF eI))]), (1, .d false [.fn F1 K1]), (7, .p (.int .i64 (a0.length : Int))), (8, .p (.int .i64 (w64 (x2 + 1))))] [] [] (by kernel_rfl) trivial) ?_
        exact lq_n (w64 (x2 + 1)) (Option.some.inj h).symm (wk_of (by kernel_rfl) (by kernel_rfl))
    · replace h := ite_f hc5_3 h
      refine k_exit ?_
      refine q_x ?_
      refine lq_x ?_
      refine b_x ?_
      have hyy := hy_x2 _ (Option.some.inj h).symm
      subst hyy
      have h := hk_x2
      dsimp only [Sum.elim] at h
      refine q_n ?_
      exact ⟨(), h, (wk_of (by kernel_rfl) (by kernel_rfl))⟩
theorem wk_slices_ContainsFunc_LLint_Lint_d {a0 : (List (List Int))} {a1 : ((List Int) → Option Bool)} {F1 : FuncId} {K1 : List (Bool × List C)} (hp1 : ∀ x0 y, a1 x0 = some y → Meets Try.prog F1 ([.d false [.sl none (x0.map eI)]] ++ (K1.map fun (g, cs) => mkA g cs)) { vals := [.p (.bool y)] }) {r : Bool} (h : slices_ContainsFunc_LLint_Lint a0 a1 = some r) : Meets Try.prog 100 [.d false [.sl none (a0.map (eF eI))], .d false [.fn F1 K1]] { vals := [.p (.bool r)] } := by
  refine Meets_ofL (by kernel_rfl) Try.func100 rfl (by kernel_rfl) (l0 := [(0, .d false [.sl none (a0.map (eF eI))]), (1, .d false [.fn F1 K1])]) (by kernel_rfl) ?_
  unfold slices_ContainsFunc_LLint_Lint at h
  refine k_sreg (r_go [(0, .d false [.sl none (a0.map (eF eI))]), (1, .d false [.fn F1 K1])] [] [] (by kernel_rfl) trivial) ?_
  replace h := bind_some' h
  obtain ⟨v1, hv1, h⟩ := h
  refine k_sreg (r_go [(4, .p (.bool (decide (v1 ≥ 0))))] [(2, {call := some ([.d false [.sl none (a0.map (eF eI))], .d false [.fn F1 K1]], [.p (.int .i64 v1)], true)})] [([.d false [.sl none (a0.map (eF eI))], .d false [.fn F1 K1]] : List Arg) = [.d false [.sl none (a0.map (eF eI))], .d false [.fn F1 K1]], Meets Try.prog 127 ([.d false [.sl none (a0.map (eF eI))], .d false [.fn F1 K1]] ++ []) { vals := [.p (.int .i64 v1)] }, (!true || List.all [.p (.int .i64 v1)] simpleR) = true] (by kernel_rfl) ⟨rfl, (wk_slices_IndexFunc_LLint_Lint_d hp1 hv1), (bt rfl), trivial⟩) ?_
  refine k_ret ?_
  obtain rfl := Option.some.inj h
  exact e_ret (ls := [(.p (.bool (decide (v1 ≥ 0))), 4)]) (by kernel_rfl) rfl (by kernel_rfl) rfl
theorem wk_slices_IndexFunc_Lint_int_v {a0 : (List Int)} {a1 : (Int → Option Bool)} {F1 : FuncId} (hp1 : ∀ x0 y, a1 x0 = some y → Meets Try.prog F1 ([.v (.int .i64 x0)] ++ []) { vals := [.p (.bool y)] }) {r : Int} (h : slices_IndexFunc_Lint_int a0 a1 = some r) : Meets Try.prog 121 [.d false [.sl none (a0.map eI)], .v (.func (.func F1) #[] #[])] { vals := [.p (.int .i64 r)] } := by
  refine Meets_ofL (by kernel_rfl) Try.func121 rfl (by kernel_rfl) (l0 := [(0, .d false [.sl none (a0.map eI)]), (1, .p (.func (.func F1) #[] #[]))]) (by kernel_rfl) ?_
  unfold slices_IndexFunc_Lint_int at h
  refine k_sreg (r_go [(0, .d false [.sl none (a0.map eI)]), (1, .p (.func (.func F1) #[] #[]))] [] [] (by kernel_rfl) trivial) ?_
  refine k_join (J := fun (x : Unit) => []) (K := fun x => slices_IndexFunc_Lint_int_k1 x = some r) (fun x1 h => ?_) ?_
  · unfold slices_IndexFunc_Lint_int_k1 at h
    refine k_sreg (r_go [(4, .p (.int .i64 (-1)))] [] [] (by kernel_rfl) trivial) ?_
    refine k_ret ?_
    obtain rfl := Option.some.inj h
    exact e_ret (ls := [(.p (.int .i64 (-1)), 4)]) (by kernel_rfl) rfl (by kernel_rfl) rfl
  · refine k_sreg (r_go [(0, .d false [.sl none (a0.map eI)]), (1, .p (.func (.func F1) #[] #[])), (7, .p (.int .i64 (a0.length : Int))), (8, .p (.int .i64 0))] [(1, {n := some a0.length})] [(a0.map eI).length = a0.length] (by kernel_rfl) ⟨(List.length_map ..), trivial⟩) ?_
    refine k_block ?_
    obtain ⟨y3, hl_x2, hk_x2⟩ := bind_some' h
    clear h
    refine k_loop (J := fun (x : Int) => [(0, .d false [.sl none (a0.map eI)]), (1, .p (.func (.func F1) #[] #[])), (7, .p (.int .i64 (a0.length : Int))), (8, .p (.int .i64 x))]) hl_x2 (wk_of (by kernel_rfl) (by kernel_rfl)) (fun x2 o_x2 h hy_x2 => ?_)
    unfold slices_IndexFunc_Lint_int_b1 at h
    refine k_sreg (r_go [(0, .d false [.sl none (a0.map eI)]), (1, .p (.func (.func F1) #[] #[])), (7, .p (.int .i64 (a0.length : Int))), (8, .p (.int .i64 x2)), (9, .p (.bool (decide (x2 < (a0.length : Int)))))] [] [] (by kernel_rfl) trivial) ?_
    refine k_seq ?_
    refine k_cond (b := (decide (x2 < (a0.length : Int)))) (by kernel_rfl) (fun hc5_3 => ?_) (fun hc5_3 => ?_)
    · replace h := ite_t hc5_3 h
      refine k_skip ?_
      refine q_n ?_
      refine k_seq ?_
      refine k_block ?_
      refine k_sreg (r_go [(0, .d false [.sl none (a0.map eI)]), (1, .p (.func (.func F1) #[] #[])), (5, .p (.int .i64 x2)), (7, .p (.int .i64 (a0.length : Int))), (8, .p (.int .i64 x2))] [] [] (by kernel_rfl) trivial) ?_
      replace h := bind_some' h
      obtain ⟨v5, hv5, h⟩ := h
      replace h := bind_some' h
      obtain ⟨v6, hv6, h⟩ := h
      refine k_sreg (r_go [(0, .d false [.sl none (a0.map eI)]), (1, .p (.func (.func F1) #[] #[])), (5, .p (.int .i64 x2)), (7, .p (.int .i64 (a0.length : Int))), (8, .p (.int .i64 x2)), (16, .p (.bool v6))] [(3, {row := some [.raw (.int .i64 v5)]}), (5, {call := some ([.v (.int .i64 v5)], [.p (.bool v6)], true)})] [0 ≤ x2, (a0.map eI)[(Int.toNat x2)]? = some [.raw (.int .i64 v5)], ([.v (.int .i64 v5)] : List Arg) = [.v (.int .i64 v5)], Meets Try.prog F1 ([.v (.int .i64 v5)] ++ []) { vals := [.p (.bool v6)] }, List.all [.p (.bool v6)] simpleR = true] (by kernel_rfl) ⟨(idxO_some hv5).1, (map_get eI (idxO_some hv5).2), rfl, (hp1 _ _ hv6), rfl, trivial⟩) ?_
      refine k_cond (b := v6) (by kernel_rfl) (fun hc6_6 => ?_) (fun hc6_6 => ?_)
      · replace h := ite_t hc6_6 h
        refine k_sreg (r_go [(4, .p (.int .i64 x2))] [] [] (by kernel_rfl) trivial) ?_
        refine k_ret ?_
        refine b_r ?_
        refine q_r ?_
        refine lq_r ?_
        refine b_r ?_
        refine q_r ?_
        have hyy := hy_x2 _ (Option.some.inj h).symm
        subst hyy
        have h := hk_x2
        dsimp only [Sum.elim] at h
        obtain rfl := Option.some.inj h
        exact e_ret (ls := [(.p (.int .i64 x2), 4)]) (by kernel_rfl) rfl (by kernel_rfl) rfl
      · replace h := ite_f hc6_6 h
        refine k_skip ?_
        refine b_n ?_
        refine q_n ?_
        refine k_reg (r_go [(0, .d false [.sl none (a0.map eI)]), (1, .p (.func (.func F1) #[] #[])), (7, .p (.int .i64 (a0.length : Int))), (8, .p (.int .i64 (w64 (x2 + 1))))] [] [] (by kernel_rfl) trivial) ?_
        exact lq_n (w64 (x2 + 1)) (Option.some.inj h).symm (wk_of (by kernel_rfl) (by kernel_rfl))
    · replace h := ite_f hc5_3 h
      refine k_exit ?_
      refine q_x ?_
      refine lq_x ?_
      refine b_x ?_
      have hyy := hy_x2 _ (Option.some.inj h).symm
      subst hyy
      have h := hk_x2
      dsimp only [Sum.elim] at h
      refine q_n ?_
      exact ⟨(), h, (wk_of (by kernel_rfl) (by kernel_rfl))⟩
theorem wk_slices_ContainsFunc_Lint_int_v {a0 : (List Int)} {a1 : (Int → Option Bool)} {F1 : FuncId} (hp1 : ∀ x0 y, a1 x0 = some y → Meets Try.prog F1 ([.v (.int .i64 x0)] ++ []) { vals := [.p (.bool y)] }) {r : Bool} (h : slices_ContainsFunc_Lint_int a0 a1 = some r) : Meets Try.prog 88 [.d false [.sl none (a0.map eI)], .v (.func (.func F1) #[] #[])] { vals := [.p (.bool r)] } := by
  refine Meets_ofL (by kernel_rfl) Try.func88 rfl (by kernel_rfl) (l0 := [(0, .d false [.sl none (a0.map eI)]), (1, .p (.func (.func F1) #[] #[]))]) (by kernel_rfl) ?_
  unfold slices_ContainsFunc_Lint_int at h
  refine k_sreg (r_go [(0, .d false [.sl none (a0.map eI)]), (1, .p (.func (.func F1) #[] #[]))] [] [] (by kernel_rfl) trivial) ?_
  replace h := bind_some' h
  obtain ⟨v1, hv1, h⟩ := h
  refine k_sreg (r_go [(4, .p (.bool (decide (v1 ≥ 0))))] [(2, {call := some ([.d false [.sl none (a0.map eI)], .v (.func (.func F1) #[] #[])], [.p (.int .i64 v1)], true)})] [([.d false [.sl none (a0.map eI)], .v (.func (.func F1) #[] #[])] : List Arg) = [.d false [.sl none (a0.map eI)], .v (.func (.func F1) #[] #[])], Meets Try.prog 121 ([.d false [.sl none (a0.map eI)], .v (.func (.func F1) #[] #[])] ++ []) { vals := [.p (.int .i64 v1)] }, (!true || List.all [.p (.int .i64 v1)] simpleR) = true] (by kernel_rfl) ⟨rfl, (wk_slices_IndexFunc_Lint_int_v hp1 hv1), (bt rfl), trivial⟩) ?_
  refine k_ret ?_
  obtain rfl := Option.some.inj h
  exact e_ret (ls := [(.p (.bool (decide (v1 ≥ 0))), 4)]) (by kernel_rfl) rfl (by kernel_rfl) rfl
theorem wk_impl_isGraph_1_1 {a0 : Int}  {r : Bool} (h : impl_isGraph_1_1 a0 = some r) : Meets Try.prog 102 [.v (.int .i64 a0)] { vals := [.p (.bool r)] } := by
  refine Meets_ofL (by kernel_rfl) Try.func102 rfl (by kernel_rfl) (l0 := [(0, .p (.int .i64 a0))]) (by kernel_rfl) ?_
  unfold impl_isGraph_1_1 at h
  refine k_sreg (r_go [(0, .p (.int .i64 a0))] [] [] (by kernel_rfl) trivial) ?_
  replace h := bind_some' h
  obtain ⟨v1, hv1, h⟩ := h
  refine k_sreg (r_go [(2, .p (.bool (!v1)))] [(1, {call := some ([.v (.int .i64 a0), .v (.int .i64 0), .v (.int .i64 9)], [.p (.bool v1)], true)})] [([.v (.int .i64 a0), .v (.int .i64 0), .v (.int .i64 9)] : List Arg) = [.v (.int .i64 a0), .v (.int .i64 0), .v (.int .i64 9)], Meets Try.prog 76 ([.v (.int .i64 a0), .v (.int .i64 0), .v (.int .i64 9)] ++ []) { vals := [.p (.bool v1)] }, (!true || List.all [.p (.bool v1)] simpleR) = true] (by kernel_rfl) ⟨rfl, (wk_impl_within hv1), (bt rfl), trivial⟩) ?_
  refine k_ret ?_
  obtain rfl := Option.some.inj h
  exact e_ret (ls := [(.p (.bool (!v1)), 2)]) (by kernel_rfl) rfl (by kernel_rfl) rfl
theorem wk_impl_isGraph_1 {a0 : (List Int)} {c0 : (List (List Int))}  {r : Bool} (h : impl_isGraph_1 a0 c0 = some r) : Meets Try.prog 101 [.d false [.sl none (a0.map eI)], .d false [.pt [.sl none (c0.map (eF eI))]]] { vals := [.p (.bool r)] } := by
  refine Meets_ofL (by kernel_rfl) Try.func101 rfl (by kernel_rfl) (l0 := [(0, .d false [.sl none (a0.map eI)]), (1, .d false [.pt [.sl none (c0.map (eF eI))]])]) (by kernel_rfl) ?_
  unfold impl_isGraph_1 at h
  refine k_sreg (r_go [(0, .d false [.sl none (a0.map eI)]), (1, .d false [.pt [.sl none (c0.map (eF eI))]])] [] [] (by kernel_rfl) trivial) ?_
  replace h := bind_some' h
  obtain ⟨w2, hw2, h⟩ := h
  refine k_sreg (l1 := [(3, .p (.bool w2))]) ?_ ?_
  · clear h
    rcases Bool.eq_false_or_eq_true ((a0.length : Int) != (c0.length : Int)) with ha0 | ha0
    · replace hw2 := ite_t ha0 hw2
      have hw2 := Option.some.inj hw2
      subst hw2
      exact (r_go [(3, .p (.bool true))] [(1, {n := some a0.length}), (3, {n := some c0.length}), (6, {g := some true}), (7, {g := some true}), (8, {b := some true})] [(a0.map eI).length = a0.length, (c0.map (eF eI)).length = c0.length, ((a0.length : Int) != (c0.length : Int)) = true, ((a0.length : Int) != (c0.length : Int)) = true, ((a0.length : Int) != (c0.length : Int)) = true] (by kernel_rfl) ⟨(List.length_map ..), (List.length_map ..), ha0, ha0, ha0, trivial⟩)
    · replace hw2 := ite_f ha0 hw2
      replace hw2 := bind_some' hw2
      obtain ⟨v1, hv1, hw2⟩ := hw2
      have hw2 := Option.some.inj hw2
      subst hw2
      exact (r_go [(3, .p (.bool v1))] [(1, {n := some a0.length}), (3, {n := some c0.length}), (6, {g := some false}), (7, {g := some false, call := some ([.d false [.sl none (a0.map eI)], .v (.func (.func 102) #[] #[])], [.p (.bool v1)], true)}), (8, {b := some false})] [(a0.map eI).length = a0.length, (c0.map (eF eI)).length = c0.length, ((a0.length : Int) != (c0.length : Int)) = false, ((a0.length : Int) != (c0.length : Int)) = false, ([.d false [.sl none (a0.map eI)], .v (.func (.func 102) #[] #[])] : List Arg) = [.d false [.sl none (a0.map eI)], .v (.func (.func 102) #[] #[])], Meets Try.prog 88 ([.d false [.sl none (a0.map eI)], .v (.func (.func 102) #[] #[])] ++ []) { vals := [.p (.bool v1)] }, (!true || List.all [.p (.bool v1)] simpleR) = true, ((a0.length : Int) != (c0.length : Int)) = false] (by kernel_rfl) ⟨(List.length_map ..), (List.length_map ..), ha0, ha0, rfl, (wk_slices_ContainsFunc_Lint_int_v (fun x0 y hy => wk_impl_isGraph_1_1 hy) hv1), (bt rfl), ha0, trivial⟩)
  · refine k_ret ?_
    obtain rfl := Option.some.inj h
    exact e_ret (ls := [(.p (.bool w2), 3)]) (by kernel_rfl) rfl (by kernel_rfl) rfl
theorem wk_impl_isGraph {a0 : (List (List Int))}  {r : Bool} (h : impl_isGraph a0 = some r) : Meets Try.prog 68 [.d false [.sl none (a0.map (eF eI))]] { vals := [.p (.bool r)] } := by
  refine Meets_ofL (by kernel_rfl) Try.func68 rfl (by kernel_rfl) (l0 := [(0, .d false [.sl none (a0.map (eF eI))])]) (by kernel_rfl) ?_
  unfold impl_isGraph at h
  refine k_sreg (r_go [(1, .box [.sl none (a0.map (eF eI))])] [] [] (by kernel_rfl) trivial) ?_
  refine k_frz 1 [.sl none (a0.map (eF eI))] [.sl none (a0.map (eF eI))] [(1, .d false [.pt [.sl none (a0.map (eF eI))]])] (by kernel_rfl) (erc_sl (eraL_enc (era_F er_I)) rfl) (by kernel_rfl) (by kernel_rfl) ?_
  replace h := bind_some' h
  obtain ⟨v1, hv1, h⟩ := h
  replace h := bind_some' h
  obtain ⟨w3, hw3, h⟩ := h
  refine k_sreg (l1 := [(2, .p (.bool w3))]) ?_ ?_
  · clear h
    rcases Bool.eq_false_or_eq_true v1 with ha0 | ha0
    · replace hw3 := ite_t ha0 hw3
      replace hw3 := bind_some' hw3
      obtain ⟨v2, hv2, hw3⟩ := hw3
      have hw3 := Option.some.inj hw3
      subst hw3
      exact (r_go [(2, .p (.bool (!v2)))] [(1, {n := some a0.length}), (2, {call := some ([.v (.int .i64 (a0.length : Int)), .v (.int .i64 1), .v (.int .i64 8)], [.p (.bool v1)], true)}), (4, {g := some true}), (5, {g := some true}), (6, {g := some true, call := some ([.d false [.sl none (a0.map (eF eI))], .d false [.fn 101 [(false, [.pt [.sl none (a0.map (eF eI))]])]]], [.p (.bool v2)], true)}), (7, {g := some true}), (8, {b := some true})] [(a0.map (eF eI)).length = a0.length, ([.v (.int .i64 (a0.length : Int)), .v (.int .i64 1), .v (.int .i64 8)] : List Arg) = [.v (.int .i64 (a0.length : Int)), .v (.int .i64 1), .v (.int .i64 8)], Meets Try.prog 76 ([.v (.int .i64 (a0.length : Int)), .v (.int .i64 1), .v (.int .i64 8)] ++ []) { vals := [.p (.bool v1)] }, (!true || List.all [.p (.bool v1)] simpleR) = true, v1 = true, v1 = true, v1 = true, ([.d false [.sl none (a0.map (eF eI))], .d false [.fn 101 [(false, [.pt [.sl none (a0.map (eF eI))]])]]] : List Arg) = [.d false [.sl none (a0.map (eF eI))], .d false [.fn 101 [(false, [.pt [.sl none (a0.map (eF eI))]])]]], Meets Try.prog 100 ([.d false [.sl none (a0.map (eF eI))], .d false [.fn 101 [(false, [.pt [.sl none (a0.map (eF eI))]])]]] ++ []) { vals := [.p (.bool v2)] }, (!true || List.all [.p (.bool v2)] simpleR) = true, v1 = true, v1 = true] (by kernel_rfl) ⟨(List.length_map ..), rfl, (wk_impl_within hv1), (bt rfl), ha0, ha0, ha0, rfl, (wk_slices_ContainsFunc_LLint_Lint_d (fun x0 y hy => wk_impl_isGraph_1 hy) hv2), (bt rfl), ha0, ha0, trivial⟩)
    · replace hw3 := ite_f ha0 hw3
      have hw3 := Option.some.inj hw3
      subst hw3
      exact (r_go [(2, .p (.bool false))] [(1, {n := some a0.length}), (2, {call := some ([.v (.int .i64 (a0.length : Int)), .v (.int .i64 1), .v (.int .i64 8)], [.p (.bool v1)], true)}), (4, {g := some false}), (5, {g := some false}), (6, {g := some false}), (7, {g := some false}), (8, {b := some false})] [(a0.map (eF eI)).length = a0.length, ([.v (.int .i64 (a0.length : Int)), .v (.int .i64 1), .v (.int .i64 8)] : List Arg) = [.v (.int .i64 (a0.length : Int)), .v (.int .i64 1), .v (.int .i64 8)], Meets Try.prog 76 ([.v (.int .i64 (a0.length : Int)), .v (.int .i64 1), .v (.int .i64 8)] ++ []) { vals := [.p (.bool v1)] }, (!true || List.all [.p (.bool v1)] simpleR) = true, v1 = false, v1 = false, v1 = false, v1 = false, v1 = false] (by kernel_rfl) ⟨(List.length_map ..), rfl, (wk_impl_within hv1), (bt rfl), ha0, ha0, ha0, ha0, ha0, trivial⟩)
  · refine k_ret ?_
    obtain rfl := Option.some.inj h
    exact e_ret (ls := [(.p (.bool w3), 2)]) (by kernel_rfl) rfl (by kernel_rfl) rfl
theorem wk_math_bits_Mul64 {a0 : Int} {a1 : Int}  {r : (Int × Int)} (h : math_bits_Mul64 a0 a1 = some r) : Meets Try.prog 129 [.v (.int .u64 a0), .v (.int .u64 a1)] { vals := [.p (.int .u64 r.1), .p (.int .u64 r.2)] } := by
  refine Meets_ofL (by kernel_rfl) Try.func129 rfl (by kernel_rfl) (l0 := [(0, .p (.int .u64 a0)), (1, .p (.int .u64 a1))]) (by kernel_rfl) ?_
  unfold math_bits_Mul64 at h
  refine k_sreg (r_go [(0, .p (.int .u64 a0)), (1, .p (.int .u64 a1))] [] [] (by kernel_rfl) trivial) ?_
  refine k_sreg (r_go [(0, .p (.int .u64 a0)), (1, .p (.int .u64 a1)), (6, .p (.int .u64 (iand .u64 a0 4294967295)))] [(1, {pv := some (.int .u64 (iand .u64 a0 4294967295))})] [PureAt Try.prog (.binOp .and 90 (.tmp 14) (.const (.int .u64 4294967295)) 90) [.int .u64 a0, .int .u64 4294967295] (.int .u64 (iand .u64 a0 4294967295))] (by kernel_rfl) ⟨(pure_and), trivial⟩) ?_
  refine k_sreg (r_go [(0, .p (.int .u64 a0)), (1, .p (.int .u64 a1)), (6, .p (.int .u64 (iand .u64 a0 4294967295))), (7, .p (.int .u64 (ishr .u64 a0 32)))] [(1, {pv := some (.int .u64 (ishr .u64 a0 32))})] [PureAt Try.prog (.binOp .shr 90 (.tmp 16) (.const (.int .u64 32)) 72) [.int .u64 a0, .int .u64 32] (.int .u64 (ishr .u64 a0 32))] (by kernel_rfl) ⟨(pure_shr (by decide)), trivial⟩) ?_
  refine k_sreg (r_go [(0, .p (.int .u64 a0)), (1, .p (.int .u64 a1)), (6, .p (.int .u64 (iand .u64 a0 4294967295))), (7, .p (.int .u64 (ishr .u64 a0 32))), (8, .p (.int .u64 (iand .u64 a1 4294967295)))] [(1, {pv := some (.int .u64 (iand .u64 a1 4294967295))})] [PureAt Try.prog (.binOp .and 90 (.tmp 18) (.const (.int .u64 4294967295)) 90) [.int .u64 a1, .int .u64 4294967295] (.int .u64 (iand .u64 a1 4294967295))] (by kernel_rfl) ⟨(pure_and), trivial⟩) ?_
  refine k_sreg (r_go [(0, .p (.int .u64 a0)), (1, .p (.int .u64 a1)), (6, .p (.int .u64 (iand .u64 a0 4294967295))), (7, .p (.int .u64 (ishr .u64 a0 32))), (8, .p (.int .u64 (iand .u64 a1 4294967295))), (9, .p (.int .u64 (ishr .u64 a1 32)))] [(1, {pv := some (.int .u64 (ishr .u64 a1 32))})] [PureAt Try.prog (.binOp .shr 90 (.tmp 20) (.const (.int .u64 32)) 72) [.int .u64 a1, .int .u64 32] (.int .u64 (ishr .u64 a1 32))] (by kernel_rfl) ⟨(pure_shr (by decide)), trivial⟩) ?_
  refine k_sreg (r_go [(0, .p (.int .u64 a0)), (1, .p (.int .u64 a1)), (6, .p (.int .u64 (iand .u64 a0 4294967295))), (7, .p (.int .u64 (ishr .u64 a0 32))), (8, .p (.int .u64 (iand .u64 a1 4294967295))), (9, .p (.int .u64 (ishr .u64 a1 32))), (10, .p (.int .u64 (IntKind.wrap .u64 ((iand .u64 a0 4294967295) * (iand .u64 a1 4294967295)))))] [] [] (by kernel_rfl) trivial) ?_
  refine k_sreg (r_go [(0, .p (.int .u64 a0)), (1, .p (.int .u64 a1)), (6, .p (.int .u64 (iand .u64 a0 4294967295))), (7, .p (.int .u64 (ishr .u64 a0 32))), (9, .p (.int .u64 (ishr .u64 a1 32))), (11, .p (.int .u64 (IntKind.wrap .u64 ((IntKind.wrap .u64 ((ishr .u64 a0 32) * (iand .u64 a1 4294967295))) + (ishr .u64 (IntKind.wrap .u64 ((iand .u64 a0 4294967295) * (iand .u64 a1 4294967295))) 32)))))] [(4, {pv := some (.int .u64 (ishr .u64 (IntKind.wrap .u64 ((iand .u64 a0 4294967295) * (iand .u64 a1 4294967295))) 32))})] [PureAt Try.prog (.binOp .shr 90 (.tmp 28) (.const (.int .u64 32)) 72) [.int .u64 (IntKind.wrap .u64 ((iand .u64 a0 4294967295) * (iand .u64 a1 4294967295))), .int .u64 32] (.int .u64 (ishr .u64 (IntKind.wrap .u64 ((iand .u64 a0 4294967295) * (iand .u64 a1 4294967295))) 32))] (by kernel_rfl) ⟨(pure_shr (by decide)), trivial⟩) ?_
  refine k_sreg (r_go [(0, .p (.int .u64 a0)), (1, .p (.int .u64 a1)), (6, .p (.int .u64 (iand .u64 a0 4294967295))), (7, .p (.int .u64 (ishr .u64 a0 32))), (9, .p (.int .u64 (ishr .u64 a1 32))), (11, .p (.int .u64 (IntKind.wrap .u64 ((IntKind.wrap .u64 ((ishr .u64 a0 32) * (iand .u64 a1 4294967295))) + (ishr .u64 (IntKind.wrap .u64 ((iand .u64 a0 4294967295) * (iand .u64 a1 4294967295))) 32))))), (12, .p (.int .u64 (iand .u64 (IntKind.wrap .u64 ((IntKind.wrap .u64 ((ishr .u64 a0 32) * (iand .u64 a1 4294967295))) + (ishr .u64 (IntKind.wrap .u64 ((iand .u64 a0 4294967295) * (iand .u64 a1 4294967295))) 32))) 4294967295)))] [(1, {pv := some (.int .u64 (iand .u64 (IntKind.wrap .u64 ((IntKind.wrap .u64 ((ishr .u64 a0 32) * (iand .u64 a1 4294967295))) + (ishr .u64 (IntKind.wrap .u64 ((iand .u64 a0 4294967295) * (iand .u64 a1 4294967295))) 32))) 4294967295))})] [PureAt Try.prog (.binOp .and 90 (.tmp 31) (.const (.int .u64 4294967295)) 90) [.int .u64 (IntKind.wrap .u64 ((IntKind.wrap .u64 ((ishr .u64 a0 32) * (iand .u64 a1 4294967295))) + (ishr .u64 (IntKind.wrap .u64 ((iand .u64 a0 4294967295) * (iand .u64 a1 4294967295))) 32))), .int .u64 4294967295] (.int .u64 (iand .u64 (IntKind.wrap .u64 ((IntKind.wrap .u64 ((ishr .u64 a0 32) * (iand .u64 a1 4294967295))) + (ishr .u64 (IntKind.wrap .u64 ((iand .u64 a0 4294967295) * (iand .u64 a1 4294967295))) 32))) 4294967295))] (by kernel_rfl) ⟨(pure_and), trivial⟩) ?_
  refine k_sreg (r_go [(0, .p (.int .u64 a0)), (1, .p (.int .u64 a1)), (6, .p (.int .u64 (iand .u64 a0 4294967295))), (7, .p (.int .u64 (ishr .u64 a0 32))), (9, .p (.int .u64 (ishr .u64 a1 32))), (12, .p (.int .u64 (iand .u64 (IntKind.wrap .u64 ((IntKind.wrap .u64 ((ishr .u64 a0 32) * (iand .u64 a1 4294967295))) + (ishr .u64 (IntKind.wrap .u64 ((iand .u64 a0 4294967295) * (iand .u64 a1 4294967295))) 32))) 4294967295))), (13, .p (.int .u64 (ishr .u64 (IntKind.wrap .u64 ((IntKind.wrap .u64 ((ishr .u64 a0 32) * (iand .u64 a1 4294967295))) + (ishr .u64 (IntKind.wrap .u64 ((iand .u64 a0 4294967295) * (iand .u64 a1 4294967295))) 32))) 32)))] [(1, {pv := some (.int .u64 (ishr .u64 (IntKind.wrap .u64 ((IntKind.wrap .u64 ((ishr .u64 a0 32) * (iand .u64 a1 4294967295))) + (ishr .u64 (IntKind.wrap .u64 ((iand .u64 a0 4294967295) * (iand .u64 a1 4294967295))) 32))) 32))})] [PureAt Try.prog (.binOp .shr 90 (.tmp 33) (.const (.int .u64 32)) 72) [.int .u64 (IntKind.wrap .u64 ((IntKind.wrap .u64 ((ishr .u64 a0 32) * (iand .u64 a1 4294967295))) + (ishr .u64 (IntKind.wrap .u64 ((iand .u64 a0 4294967295) * (iand .u64 a1 4294967295))) 32))), .int .u64 32] (.int .u64 (ishr .u64 (IntKind.wrap .u64 ((IntKind.wrap .u64 ((ishr .u64 a0 32) * (iand .u64 a1 4294967295))) + (ishr .u64 (IntKind.wrap .u64 ((iand .u64 a0 4294967295) * (iand .u64 a1 4294967295))) 32))) 32))] (by kernel_rfl) ⟨(pure_shr (by decide)), trivial⟩) ?_
  refine k_sreg (r_go [(0, .p (.int .u64 a0)), (1, .p (.int .u64 a1)), (7, .p (.int .u64 (ishr .u64 a0 32))), (9, .p (.int .u64 (ishr .u64 a1 32))), (12, .p (.int .u64 (IntKind.wrap .u64 ((iand .u64 (IntKind.wrap .u64 ((IntKind.wrap .u64 ((ishr .u64 a0 32) * (iand .u64 a1 4294967295))) + (ishr .u64 (IntKind.wrap .u64 ((iand .u64 a0 4294967295) * (iand .u64 a1 4294967295))) 32))) 4294967295) + (IntKind.wrap .u64 ((iand .u64 a0 4294967295) * (ishr .u64 a1 32))))))), (13, .p (.int .u64 (ishr .u64 (IntKind.wrap .u64 ((IntKind.wrap .u64 ((ishr .u64 a0 32) * (iand .u64 a1 4294967295))) + (ishr .u64 (IntKind.wrap .u64 ((iand .u64 a0 4294967295) * (iand .u64 a1 4294967295))) 32))) 32)))] [] [] (by kernel_rfl) trivial) ?_
  refine k_sreg (r_go [(0, .p (.int .u64 a0)), (1, .p (.int .u64 a1)), (4, .p (.int .u64 (IntKind.wrap .u64 ((IntKind.wrap .u64 ((IntKind.wrap .u64 ((ishr .u64 a0 32) * (ishr .u64 a1 32))) + (ishr .u64 (IntKind.wrap .u64 ((IntKind.wrap .u64 ((ishr .u64 a0 32) * (iand .u64 a1 4294967295))) + (ishr .u64 (IntKind.wrap .u64 ((iand .u64 a0 4294967295) * (iand .u64 a1 4294967295))) 32))) 32))) + (ishr .u64 (IntKind.wrap .u64 ((iand .u64 (IntKind.wrap .u64 ((IntKind.wrap .u64 ((ishr .u64 a0 32) * (iand .u64 a1 4294967295))) + (ishr .u64 (IntKind.wrap .u64 ((iand .u64 a0 4294967295) * (iand .u64 a1 4294967295))) 32))) 4294967295) + (IntKind.wrap .u64 ((iand .u64 a0 4294967295) * (ishr .u64 a1 32))))) 32)))))] [(6, {pv := some (.int .u64 (ishr .u64 (IntKind.wrap .u64 ((iand .u64 (IntKind.wrap .u64 ((IntKind.wrap .u64 ((ishr .u64 a0 32) * (iand .u64 a1 4294967295))) + (ishr .u64 (IntKind.wrap .u64 ((iand .u64 a0 4294967295) * (iand .u64 a1 4294967295))) 32))) 4294967295) + (IntKind.wrap .u64 ((iand .u64 a0 4294967295) * (ishr .u64 a1 32))))) 32))})] [PureAt Try.prog (.binOp .shr 90 (.tmp 45) (.const (.int .u64 32)) 72) [.int .u64 (IntKind.wrap .u64 ((iand .u64 (IntKind.wrap .u64 ((IntKind.wrap .u64 ((ishr .u64 a0 32) * (iand .u64 a1 4294967295))) + (ishr .u64 (IntKind.wrap .u64 ((iand .u64 a0 4294967295) * (iand .u64 a1 4294967295))) 32))) 4294967295) + (IntKind.wrap .u64 ((iand .u64 a0 4294967295) * (ishr .u64 a1 32))))), .int .u64 32] (.int .u64 (ishr .u64 (IntKind.wrap .u64 ((iand .u64 (IntKind.wrap .u64 ((IntKind.wrap .u64 ((ishr .u64 a0 32) * (iand .u64 a1 4294967295))) + (ishr .u64 (IntKind.wrap .u64 ((iand .u64 a0 4294967295) * (iand .u64 a1 4294967295))) 32))) 4294967295) + (IntKind.wrap .u64 ((iand .u64 a0 4294967295) * (ishr .u64 a1 32))))) 32))] (by kernel_rfl) ⟨(pure_shr (by decide)), trivial⟩) ?_
  refine k_sreg (r_go [(4, .p (.int .u64 (IntKind.wrap .u64 ((IntKind.wrap .u64 ((IntKind.wrap .u64 ((ishr .u64 a0 32) * (ishr .u64 a1 32))) + (ishr .u64 (IntKind.wrap .u64 ((IntKind.wrap .u64 ((ishr .u64 a0 32) * (iand .u64 a1 4294967295))) + (ishr .u64 (IntKind.wrap .u64 ((iand .u64 a0 4294967295) * (iand .u64 a1 4294967295))) 32))) 32))) + (ishr .u64 (IntKind.wrap .u64 ((iand .u64 (IntKind.wrap .u64 ((IntKind.wrap .u64 ((ishr .u64 a0 32) * (iand .u64 a1 4294967295))) + (ishr .u64 (IntKind.wrap .u64 ((iand .u64 a0 4294967295) * (iand .u64 a1 4294967295))) 32))) 4294967295) + (IntKind.wrap .u64 ((iand .u64 a0 4294967295) * (ishr .u64 a1 32))))) 32))))), (5, .p (.int .u64 (IntKind.wrap .u64 (a0 * a1))))] [] [] (by kernel_rfl) trivial) ?_
  refine k_ret ?_
  obtain rfl := Option.some.inj h
  exact e_ret (ls := [(.p (.int .u64 (IntKind.wrap .u64 ((IntKind.wrap .u64 ((IntKind.wrap .u64 ((ishr .u64 a0 32) * (ishr .u64 a1 32))) + (ishr .u64 (IntKind.wrap .u64 ((IntKind.wrap .u64 ((ishr .u64 a0 32) * (iand .u64 a1 4294967295))) + (ishr .u64 (IntKind.wrap .u64 ((iand .u64 a0 4294967295) * (iand .u64 a1 4294967295))) 32))) 32))) + (ishr .u64 (IntKind.wrap .u64 ((iand .u64 (IntKind.wrap .u64 ((IntKind.wrap .u64 ((ishr .u64 a0 32) * (iand .u64 a1 4294967295))) + (ishr .u64 (IntKind.wrap .u64 ((iand .u64 a0 4294967295) * (iand .u64 a1 4294967295))) 32))) 4294967295) + (IntKind.wrap .u64 ((iand .u64 a0 4294967295) * (ishr .u64 a1 32))))) 32)))), 4), (.p (.int .u64 (IntKind.wrap .u64 (a0 * a1))), 5)]) (by kernel_rfl) rfl (by kernel_rfl) rfl
theorem wk_math_bits_Mul {a0 : Int} {a1 : Int}  {r : (Int × Int)} (h : math_bits_Mul a0 a1 = some r) : Meets Try.prog 103 [.v (.int .u64 a0), .v (.int .u64 a1)] { vals := [.p (.int .u64 r.1), .p (.int .u64 r.2)] } := by
  refine Meets_ofL (by kernel_rfl) Try.func103 rfl (by kernel_rfl) (l0 := [(0, .p (.int .u64 a0)), (1, .p (.int .u64 a1))]) (by kernel_rfl) ?_
  unfold math_bits_Mul at h
  refine k_sreg (r_go [(0, .p (.int .u64 a0)), (1, .p (.int .u64 a1))] [] [] (by kernel_rfl) trivial) ?_
  refine k_seq ?_
  refine k_cond (b := false) (by kernel_rfl) (fun hno => by rw [show false = false from rfl] at hno; cases hno) (fun _ => ?_)
  refine k_skip ?_
  refine q_n ?_
  replace h := bind_some' h
  obtain ⟨v2, hv2, h⟩ := h
  refine k_sreg (r_go [(8, .p (.int .u64 v2.1)), (9, .p (.int .u64 v2.2))] [(2, {call := some ([.v (.int .u64 a0), .v (.int .u64 a1)], [.p (.int .u64 v2.1), .p (.int .u64 v2.2)], true)})] [([.v (.int .u64 a0), .v (.int .u64 a1)] : List Arg) = [.v (.int .u64 a0), .v (.int .u64 a1)], Meets Try.prog 129 ([.v (.int .u64 a0), .v (.int .u64 a1)] ++ []) { vals := [.p (.int .u64 v2.1), .p (.int .u64 v2.2)] }, (!true || List.all [.p (.int .u64 v2.1), .p (.int .u64 v2.2)] simpleR) = true] (by kernel_rfl) ⟨rfl, (wk_math_bits_Mul64 hv2), (bt rfl), trivial⟩) ?_
  refine k_sreg (r_go [(4, .p (.int .u64 v2.1)), (5, .p (.int .u64 v2.2))] [] [] (by kernel_rfl) trivial) ?_
  refine k_ret ?_
  obtain rfl := Option.some.inj h
  exact e_ret (ls := [(.p (.int .u64 v2.1), 4), (.p (.int .u64 v2.2), 5)]) (by kernel_rfl) rfl (by kernel_rfl) rfl
theorem wk_slices_Repeat_Lint_int {a0 : (List Int)} {a1 : Int}  {r : (List Int)} (h : slices_Repeat_Lint_int a0 a1 = some r) : Meets Try.prog 69 [.d false [.sl none (a0.map eI)], .v (.int .i64 a1)] { vals := [.ov false [.sl (some 3) (r.map eI)]] } := by
  refine Meets_ofL (by kernel_rfl) Try.func69 rfl (by kernel_rfl) (l0 := [(0, .d false [.sl none (a0.map eI)]), (1, .p (.int .i64 a1))]) (by kernel_rfl) ?_
  unfold slices_Repeat_Lint_int at h
  refine k_sreg (r_go [(0, .d false [.sl none (a0.map eI)]), (1, .p (.int .i64 a1))] [] [] (by kernel_rfl) trivial) ?_
  refine k_join (J := fun (x : Unit) => [(0, .d false [.sl none (a0.map eI)]), (1, .p (.int .i64 a1))]) (K := fun x => slices_Repeat_Lint_int_k1 a0 a1 x = some r) (fun x1 h => ?_) ?_
  · unfold slices_Repeat_Lint_int_k1 at h
    replace h := bind_some' h
    obtain ⟨v2, hv2, h⟩ := h
    refine k_sreg (r_go [(0, .d false [.sl none (a0.map eI)]), (5, .p (.int .u64 v2.1)), (6, .p (.int .u64 v2.2))] [(1, {n := some a0.length}), (2, {pv := some (.int .u64 (IntKind.wrap .u64 (a0.length : Int)))}), (4, {pv := some (.int .u64 (IntKind.wrap .u64 a1))}), (5, {call := some ([.v (.int .u64 (IntKind.wrap .u64 (a0.length : Int))), .v (.int .u64 (IntKind.wrap .u64 a1))], [.p (.int .u64 v2.1), .p (.int .u64 v2.2)], true)})] [(a0.map eI).length = a0.length, PureAt Try.prog (.convert 3 72 (.tmp 14)) [.int .i64 (a0.length : Int)] (.int .u64 (IntKind.wrap .u64 (a0.length : Int))), PureAt Try.prog (.convert 3 72 (.tmp 16)) [.int .i64 a1] (.int .u64 (IntKind.wrap .u64 a1)), ([.v (.int .u64 (IntKind.wrap .u64 (a0.length : Int))), .v (.int .u64 (IntKind.wrap .u64 a1))] : List Arg) = [.v (.int .u64 (IntKind.wrap .u64 (a0.length : Int))), .v (.int .u64 (IntKind.wrap .u64 a1))], Meets Try.prog 103 ([.v (.int .u64 (IntKind.wrap .u64 (a0.length : Int))), .v (.int .u64 (IntKind.wrap .u64 a1))] ++ []) { vals := [.p (.int .u64 v2.1), .p (.int .u64 v2.2)] }, (!true || List.all [.p (.int .u64 v2.1), .p (.int .u64 v2.2)] simpleR) = true] (by kernel_rfl) ⟨(List.length_map ..), (pure_conv Try_und3 Try_und72), (pure_conv Try_und3 Try_und72), rfl, (wk_math_bits_Mul hv2), (bt rfl), trivial⟩) ?_
    refine k_join (J := fun (x : Unit) => [(0, .d false [.sl none (a0.map eI)]), (6, .p (.int .u64 v2.2))]) (K := fun x => slices_Repeat_Lint_int_k2 a0 v2 x = some r) (fun x3 h => ?_) ?_
    · unfold slices_Repeat_Lint_int_k2 at h
      replace h := bind_some' h
      obtain ⟨u4, hu4, h⟩ := h
      refine k_sreg (r_go [(0, .d false [.sl none (a0.map eI)]), (7, .ov false [.sl (some 3) ((List.replicate (Int.toNat (IntKind.wrap .i64 v2.2)) (0 : Int)).map eI)])] [(1, {pv := some (.int .i64 (IntKind.wrap .i64 v2.2))}), (2, {fix := some (30, .ov false [.sl (some 3) ((List.replicate (Int.toNat (IntKind.wrap .i64 v2.2)) (0 : Int)).map eI)])})] [PureAt Try.prog (.convert 72 3 (.tmp 28)) [.int .u64 v2.2] (.int .i64 (IntKind.wrap .i64 v2.2)), (IntKind.wrap .i64 v2.2) = (IntKind.wrap .i64 v2.2), 0 ≤ (IntKind.wrap .i64 v2.2), (IntKind.wrap .i64 v2.2) ≤ 1099511627776, (SV.ov false [.sl (some 3) (List.replicate (Int.toNat (IntKind.wrap .i64 v2.2)) [.raw (.int .i64 0)])] : SV) = .ov false [.sl (some 3) ((List.replicate (Int.toNat (IntKind.wrap .i64 v2.2)) (0 : Int)).map eI)]] (by kernel_rfl) ⟨(pure_conv Try_und72 Try_und3), rfl, (guardO_some hu4).1, (guardO_some hu4).2, (congrArg (fun z => SV.ov false [.sl (some 3) z]) (rep_fix eI (0 : Int))), trivial⟩) ?_
      refine k_sreg (r_copy0 (t := 22) (e := 3) (rows := ((List.replicate (Int.toNat (IntKind.wrap .i64 v2.2)) (0 : Int)).map eI)) (rows2 := (a0.map eI)) (rows' := ((copyAt (List.replicate (Int.toNat (IntKind.wrap .i64 v2.2)) (0 : Int)) 0 a0).map eI)) (n := ((min a0.length (List.replicate (Int.toNat (IntKind.wrap .i64 v2.2)) (0 : Int)).length : Nat) : Int)) [(7, .ov false [.sl (some 3) ((copyAt (List.replicate (Int.toNat (IntKind.wrap .i64 v2.2)) (0 : Int)) 0 a0).map eI)]), (8, .p (.int .i64 ((min a0.length (List.replicate (Int.toNat (IntKind.wrap .i64 v2.2)) (0 : Int)).length : Nat) : Int)))] ⟨rfl, rfl, rfl⟩ ⟨rfl, rfl, rfl⟩ ⟨rfl, rfl, rfl⟩ ⟨rfl, rfl, rfl⟩ (by kernel_rfl) (by kernel_rfl) (by kernel_rfl) (by kernel_rfl) (by kernel_rfl) (by kernel_rfl) (raw_map fun _ => rfl) (raw_map1 fun _ => ⟨rfl, rfl⟩) (by simp) (copyAt_map eI (List.replicate (Int.toNat (IntKind.wrap .i64 v2.2)) (0 : Int)) a0 0)) ?_
      refine k_join (J := fun (x : (List Int)) => [(7, .ov false [.sl (some 3) (x.map eI)])]) (K := fun x => slices_Repeat_Lint_int_k3 x = some r) (fun x5 h => ?_) ?_
      · unfold slices_Repeat_Lint_int_k3 at h
        refine k_sreg (r_go [(4, .ov false [.sl (some 3) (x5.map eI)])] [] [] (by kernel_rfl) trivial) ?_
        refine k_ret ?_
        obtain rfl := Option.some.inj h
        exact e_ret (ls := [(.ov false [.sl (some 3) (x5.map eI)], 4)]) (by kernel_rfl) rfl (by kernel_rfl) rfl
      · refine k_block ?_
        obtain ⟨y7, hl_x6, hk_x6⟩ := bind_some' h
        clear h
        refine k_loop (J := fun (x : ((List Int) × Int)) => [(7, .ov false [.sl (some 3) (x.1.map eI)]), (8, .p (.int .i64 x.2))]) hl_x6 (wk_of (by kernel_rfl) (by kernel_rfl)) (fun x6 o_x6 h hy_x6 => ?_)
        unfold slices_Repeat_Lint_int_b1 at h
        refine k_seq ?_
        refine k_sreg (r_go [(7, .ov false [.sl (some 3) (x6.1.map eI)]), (8, .p (.int .i64 x6.2)), (37, .p (.bool (decide (x6.2 < (x6.1.length : Int)))))] [(2, {n := some x6.1.length})] [(x6.1.map eI).length = x6.1.length] (by kernel_rfl) ⟨(List.length_map ..), trivial⟩) ?_
        refine k_cond (b := (decide (x6.2 < (x6.1.length : Int)))) (by kernel_rfl) (fun hc5_7 => ?_) (fun hc5_7 => ?_)
        · replace h := ite_t hc5_7 h
          refine k_skip ?_
          refine q_n ?_
          refine k_block ?_
          replace h := bind_some' h
          obtain ⟨u9, hu9, h⟩ := h
          refine k_reg (r_copy1 (t := 22) (e := 3) (rows := (x6.1.map eI)) (rows' := ((copyAt x6.1 (Int.toNat x6.2) (x6.1.take (Int.toNat x6.2))).map eI)) (n := x6.2) (n' := (w64 (x6.2 + (min (Int.toNat x6.2) (x6.1.length - (Int.toNat x6.2)) : Nat)))) [(7, .ov false [.sl (some 3) ((copyAt x6.1 (Int.toNat x6.2) (x6.1.take (Int.toNat x6.2))).map eI)]), (8, .p (.int .i64 (w64 (x6.2 + (min (Int.toNat x6.2) (x6.1.length - (Int.toNat x6.2)) : Nat)))))] Try_mixed ⟨rfl, rfl⟩ ⟨rfl, rfl⟩ ⟨rfl, rfl⟩ ⟨rfl, rfl⟩ ⟨rfl, rfl⟩ ⟨rfl, rfl⟩ ⟨rfl, rfl⟩ ⟨rfl, rfl⟩ ⟨rfl, rfl⟩ ⟨rfl, rfl⟩ (by kernel_rfl) (by kernel_rfl) (by kernel_rfl) (by kernel_rfl) (by kernel_rfl) (by kernel_rfl) (raw_map fun _ => rfl) (guardO_some hu9).1 (by have hg := (guardO_some hu9).2; simpa using hg) (by simp) (by rw [← List.map_take]; exact copyAt_map eI x6.1 _ _)) ?_
          refine b_n ?_
          exact lq_n ((copyAt x6.1 (Int.toNat x6.2) (x6.1.take (Int.toNat x6.2))), (w64 (x6.2 + (min (Int.toNat x6.2) (x6.1.length - (Int.toNat x6.2)) : Nat)))) (Option.some.inj h).symm (wk_of (by kernel_rfl) (by kernel_rfl))
        · replace h := ite_f hc5_7 h
          refine k_exit ?_
          refine q_x ?_
          refine lq_x ?_
          refine b_x ?_
          have hyy := hy_x6 _ (Option.some.inj h).symm
          subst hyy
          have h := hk_x6
          refine q_n ?_
          exact ⟨x6.1, h, (wk_of (by kernel_rfl) (by kernel_rfl))⟩
    · refine k_sreg (l1 := [(0, .d false [.sl none (a0.map eI)]), (6, .p (.int .u64 v2.2)), (26, .p (.bool ((decide (v2.1 > 0)) || (decide (v2.2 > 9223372036854775807)))))]) ?_ ?_
      · rcases Bool.eq_false_or_eq_true (decide (v2.1 > 0)) with ha0 | ha0
        · exact RegOk.of_eq (l2 := [(0, .d false [.sl none (a0.map eI)]), (6, .p (.int .u64 v2.2)), (26, .p (.bool ((decide (v2.1 > 0)) || (decide (v2.2 > 9223372036854775807)))))]) (r_go [(0, .d false [.sl none (a0.map eI)]), (6, .p (.int .u64 v2.2)), (26, .p (.bool true))] [(3, {g := some true}), (4, {g := some true}), (5, {b := some true})] [(decide (v2.1 > 0)) = true, (decide (v2.1 > 0)) = true, (decide (v2.1 > 0)) = true] (by kernel_rfl) ⟨ha0, ha0, ha0, trivial⟩) (by simp [ha0])
        · exact RegOk.of_eq (l2 := [(0, .d false [.sl none (a0.map eI)]), (6, .p (.int .u64 v2.2)), (26, .p (.bool ((decide (v2.1 > 0)) || (decide (v2.2 > 9223372036854775807)))))]) (r_go [(0, .d false [.sl none (a0.map eI)]), (6, .p (.int .u64 v2.2)), (26, .p (.bool (decide (v2.2 > 9223372036854775807))))] [(3, {g := some false}), (4, {g := some false}), (5, {b := some false})] [(decide (v2.1 > 0)) = false, (decide (v2.1 > 0)) = false, (decide (v2.1 > 0)) = false] (by kernel_rfl) ⟨ha0, ha0, ha0, trivial⟩) (by simp [ha0])
      · refine k_cond (b := ((decide (v2.1 > 0)) || (decide (v2.2 > 9223372036854775807)))) (by kernel_rfl) (fun hc2_9 => ?_) (fun hc2_9 => ?_)
        · replace h := ite_t hc2_9 h
          cases h
        · replace h := ite_f hc2_9 h
          refine k_skip ?_
          refine q_n ?_
          exact ⟨(), h, (wk_of (by kernel_rfl) (by kernel_rfl))⟩
  · refine k_sreg (r_go [(0, .d false [.sl none (a0.map eI)]), (1, .p (.int .i64 a1)), (10, .p (.bool (decide (a1 < 0))))] [] [] (by kernel_rfl) trivial) ?_
    refine k_cond (b := (decide (a1 < 0))) (by kernel_rfl) (fun hc2_10 => ?_) (fun hc2_10 => ?_)
    · replace h := ite_t hc2_10 h
      cases h
    · replace h := ite_f hc2_10 h
      refine k_skip ?_
      refine q_n ?_
      exact ⟨(), h, (wk_of (by kernel_rfl) (by kernel_rfl))⟩
theorem wk_impl_times {a0 : (List (List Int))} {a1 : (List Int)}  {r : (List Int)} (h : impl_times a0 a1 = some r) : Meets Try.prog 62 [.d false [.sl none (a0.map (eF eI))], .d false [.sl none (a1.map eI)]] { vals := [.ov false [.sl (some 3) (r.map eI)]] } := by
  refine Meets_ofL (by kernel_rfl) Try.func62 rfl (by kernel_rfl) (l0 := [(0, .d false [.sl none (a0.map (eF eI))]), (1, .d false [.sl none (a1.map eI)])]) (by kernel_rfl) ?_
  unfold impl_times at h
  refine k_sreg (r_go [(0, .d false [.sl none (a0.map (eF eI))]), (1, .d false [.sl none (a1.map eI)])] [] [] (by kernel_rfl) trivial) ?_
  replace h := bind_some' h
  obtain ⟨u1, hu1, h⟩ := h
  refine k_sreg (r_go [(0, .d false [.sl none (a0.map (eF eI))]), (1, .d false [.sl none (a1.map eI)]), (5, .ov false [.sl (some 3) ((List.replicate (Int.toNat (a0.length : Int)) (0 : Int)).map eI)])] [(1, {n := some a0.length}), (2, {fix := some (12, .ov false [.sl (some 3) ((List.replicate (Int.toNat (a0.length : Int)) (0 : Int)).map eI)])})] [(a0.map (eF eI)).length = a0.length, (a0.length : Int) = (a0.length : Int), 0 ≤ (a0.length : Int), (a0.length : Int) ≤ 1099511627776, (SV.ov false [.sl (some 3) (List.replicate (Int.toNat (a0.length : Int)) [.raw (.int .i64 0)])] : SV) = .ov false [.sl (some 3) ((List.replicate (Int.toNat (a0.length : Int)) (0 : Int)).map eI)]] (by kernel_rfl) ⟨(List.length_map ..), rfl, (guardO_some hu1).1, (guardO_some hu1).2, (congrArg (fun z => SV.ov false [.sl (some 3) z]) (rep_fix eI (0 : Int))), trivial⟩) ?_
  refine k_join (J := fun (x : (List Int)) => [(5, .ov false [.sl (some 3) (x.map eI)])]) (K := fun x => impl_times_k1 x = some r) (fun x2 h => ?_) ?_
  · unfold impl_times_k1 at h
    refine k_sreg (r_go [(4, .ov false [.sl (some 3) (x2.map eI)])] [] [] (by kernel_rfl) trivial) ?_
    refine k_ret ?_
    obtain rfl := Option.some.inj h
    exact e_ret (ls := [(.ov false [.sl (some 3) (x2.map eI)], 4)]) (by kernel_rfl) rfl (by kernel_rfl) rfl
  · refine k_sreg (r_go [(1, .d false [.sl none (a1.map eI)]), (5, .ov false [.sl (some 3) ((List.replicate (Int.toNat (a0.length : Int)) (0 : Int)).map eI)]), (13, .d false [.sl none (a0.map (eF eI))]), (14, .p (.int .i64 (a0.length : Int))), (15, .p (.int .i64 0))] [(1, {n := some a0.length})] [(a0.map (eF eI)).length = a0.length] (by kernel_rfl) ⟨(List.length_map ..), trivial⟩) ?_
    refine k_block ?_
    obtain ⟨y4, hl_x3, hk_x3⟩ := bind_some' h
    clear h
    refine k_loop (J := fun (x : ((List Int) × Int)) => [(1, .d false [.sl none (a1.map eI)]), (5, .ov false [.sl (some 3) (x.1.map eI)]), (13, .d false [.sl none (a0.map (eF eI))]), (14, .p (.int .i64 (a0.length : Int))), (15, .p (.int .i64 x.2))]) hl_x3 (wk_of (by kernel_rfl) (by kernel_rfl)) (fun x3 o_x3 h hy_x3 => ?_)
    unfold impl_times_b1 at h
    refine k_sreg (r_go [(1, .d false [.sl none (a1.map eI)]), (5, .ov false [.sl (some 3) (x3.1.map eI)]), (13, .d false [.sl none (a0.map (eF eI))]), (14, .p (.int .i64 (a0.length : Int))), (15, .p (.int .i64 x3.2)), (16, .p (.bool (decide (x3.2 < (a0.length : Int)))))] [] [] (by kernel_rfl) trivial) ?_
    refine k_seq ?_
    refine k_cond (b := (decide (x3.2 < (a0.length : Int)))) (by kernel_rfl) (fun hc5_4 => ?_) (fun hc5_4 => ?_)
    · replace h := ite_t hc5_4 h
      refine k_skip ?_
      refine q_n ?_
      refine k_join (J := fun (x : (List Int)) => [(1, .d false [.sl none (a1.map eI)]), (5, .ov false [.sl (some 3) (x.map eI)]), (13, .d false [.sl none (a0.map (eF eI))]), (14, .p (.int .i64 (a0.length : Int))), (15, .p (.int .i64 x3.2))]) (K := fun x => impl_times_k2 x3 x = some o_x3) (fun x6 h => ?_) ?_
      · unfold impl_times_k2 at h
        refine k_reg (r_go [(1, .d false [.sl none (a1.map eI)]), (5, .ov false [.sl (some 3) (x6.map eI)]), (13, .d false [.sl none (a0.map (eF eI))]), (14, .p (.int .i64 (a0.length : Int))), (15, .p (.int .i64 (w64 (x3.2 + 1))))] [] [] (by kernel_rfl) trivial) ?_
        exact lq_n (x6, (w64 (x3.2 + 1))) (Option.some.inj h).symm (wk_of (by kernel_rfl) (by kernel_rfl))
      · refine k_block ?_
        replace h := bind_some' h
        obtain ⟨v7, hv7, h⟩ := h
        refine k_sreg (r_go [(1, .d false [.sl none (a1.map eI)]), (5, .ov false [.sl (some 3) (x3.1.map eI)]), (6, .p (.int .i64 x3.2)), (7, .d false [.sl none (v7.map eI)]), (13, .d false [.sl none (a0.map (eF eI))]), (14, .p (.int .i64 (a0.length : Int))), (15, .p (.int .i64 x3.2))] [(1, {row := some [.sl none (v7.map eI)]})] [0 ≤ x3.2, (a0.map (eF eI))[(Int.toNat x3.2)]? = some [.sl none (v7.map eI)]] (by kernel_rfl) ⟨(idxO_some hv7).1, (map_get (eF eI) (idxO_some hv7).2), trivial⟩) ?_
        refine k_sreg (r_go [(1, .d false [.sl none (a1.map eI)]), (5, .ov false [.sl (some 3) (x3.1.map eI)]), (6, .p (.int .i64 x3.2)), (13, .d false [.sl none (a0.map (eF eI))]), (14, .p (.int .i64 (a0.length : Int))), (15, .p (.int .i64 x3.2)), (20, .d false [.sl none (v7.map eI)]), (21, .p (.int .i64 (v7.length : Int))), (22, .p (.int .i64 0))] [(1, {n := some v7.length})] [(v7.map eI).length = v7.length] (by kernel_rfl) ⟨(List.length_map ..), trivial⟩) ?_
        refine k_block ?_
        obtain ⟨y9, hl_x8, hk_x8⟩ := bind_some' h
        clear h
        refine k_loop (J := fun (x : ((List Int) × Int)) => [(1, .d false [.sl none (a1.map eI)]), (5, .ov false [.sl (some 3) (x.1.map eI)]), (6, .p (.int .i64 x3.2)), (13, .d false [.sl none (a0.map (eF eI))]), (14, .p (.int .i64 (a0.length : Int))), (15, .p (.int .i64 x3.2)), (20, .d false [.sl none (v7.map eI)]), (21, .p (.int .i64 (v7.length : Int))), (22, .p (.int .i64 x.2))]) hl_x8 (wk_of (by kernel_rfl) (by kernel_rfl)) (fun x8 o_x8 h hy_x8 => ?_)
        unfold impl_times_b2 at h
        refine k_sreg (r_go [(1, .d false [.sl none (a1.map eI)]), (5, .ov false [.sl (some 3) (x8.1.map eI)]), (6, .p (.int .i64 x3.2)), (13, .d false [.sl none (a0.map (eF eI))]), (14, .p (.int .i64 (a0.length : Int))), (15, .p (.int .i64 x3.2)), (20, .d false [.sl none (v7.map eI)]), (21, .p (.int .i64 (v7.length : Int))), (22, .p (.int .i64 x8.2)), (23, .p (.bool (decide (x8.2 < (v7.length : Int)))))] [] [] (by kernel_rfl) trivial) ?_
        refine k_seq ?_
        refine k_cond (b := (decide (x8.2 < (v7.length : Int)))) (by kernel_rfl) (fun hc9_9 => ?_) (fun hc9_9 => ?_)
        · replace h := ite_t hc9_9 h
          refine k_skip ?_
          refine q_n ?_
          refine k_seq ?_
          refine k_block ?_
          replace h := bind_some' h
          obtain ⟨v11, hv11, h⟩ := h
          refine k_sreg (r_go [(1, .d false [.sl none (a1.map eI)]), (5, .ov false [.sl (some 3) (x8.1.map eI)]), (6, .p (.int .i64 x3.2)), (8, .p (.int .i64 x8.2)), (9, .p (.int .i64 v11)), (13, .d false [.sl none (a0.map (eF eI))]), (14, .p (.int .i64 (a0.length : Int))), (15, .p (.int .i64 x3.2)), (20, .d false [.sl none (v7.map eI)]), (21, .p (.int .i64 (v7.length : Int))), (22, .p (.int .i64 x8.2))] [(1, {row := some [.raw (.int .i64 v11)]})] [0 ≤ x8.2, (v7.map eI)[(Int.toNat x8.2)]? = some [.raw (.int .i64 v11)]] (by kernel_rfl) ⟨(idxO_some hv11).1, (map_get eI (idxO_some hv11).2), trivial⟩) ?_
          replace h := bind_some' h
          obtain ⟨v12, hv12, h⟩ := h
          replace h := bind_some' h
          obtain ⟨v13, hv13, h⟩ := h
          refine k_reg (r_draw Try_mixed 10 [] [(1, .d false [.sl none (a1.map eI)]), (5, .ov false [.sl (some 3) ((x8.1.set (Int.toNat x3.2) (w64 (v12 + (w64 (v11 * v13))))).map eI)]), (6, .p (.int .i64 x3.2)), (13, .d false [.sl none (a0.map (eF eI))]), (14, .p (.int .i64 (a0.length : Int))), (15, .p (.int .i64 x3.2)), (20, .d false [.sl none (v7.map eI)]), (21, .p (.int .i64 (v7.length : Int))), (22, .p (.int .i64 x8.2))] [(2, {row := some [.raw (.int .i64 v12)]}), (3, {row := some [.raw (.int .i64 v12)]}), (7, {row := some [.raw (.int .i64 v13)]}), (11, {row := some [.raw (.int .i64 v12)]}), (12, {row := some [.raw (.int .i64 v12)], fix := some (5, .ov false [.sl (some 3) ((x8.1.set (Int.toNat x3.2) (w64 (v12 + (w64 (v11 * v13))))).map eI)])})] [0 ≤ x3.2, (x8.1.map eI)[(Int.toNat x3.2)]? = some [.raw (.int .i64 v12)], getRow [[.sl (some 3) (x8.1.map eI)]] [(0, 0), ((Int.toNat x3.2), 0)] = some [.raw (.int .i64 v12)], 0 ≤ x8.2, (a1.map eI)[(Int.toNat x8.2)]? = some [.raw (.int .i64 v13)], 0 ≤ x3.2, (x8.1.map eI)[(Int.toNat x3.2)]? = some [.raw (.int .i64 v12)], getRow [[.sl (some 3) (x8.1.map eI)]] [(0, 0), ((Int.toNat x3.2), 0)] = some [.raw (.int .i64 v12)], (SV.ov false [.sl (some 3) (setL (x8.1.map eI) [((Int.toNat x3.2), 0)] [.raw (.int .i64 (w64 (v12 + (w64 (v11 * v13)))))])] : SV) = .ov false [.sl (some 3) ((x8.1.set (Int.toNat x3.2) (w64 (v12 + (w64 (v11 * v13))))).map eI)]] (by kernel_rfl) ⟨(idxO_some hv12).1, (map_get eI (idxO_some hv12).2), ((gr0 rfl).trans (gre (map_get eI (idxO_some hv12).2))), (idxO_some hv13).1, (map_get eI (idxO_some hv13).2), (idxO_some hv12).1, (map_get eI (idxO_some hv12).2), ((gr0 rfl).trans (gre (map_get eI (idxO_some hv12).2))), (congrArg (fun z => SV.ov false [.sl (some 3) z]) (set1 (f := eI) (y := (w64 (v12 + (w64 (v11 * v13))))) (idxO_some hv12).2 rfl)), trivial⟩) ?_
          refine b_n ?_
          refine q_n ?_
          refine k_reg (r_go [(1, .d false [.sl none (a1.map eI)]), (5, .ov false [.sl (some 3) ((x8.1.set (Int.toNat x3.2) (w64 (v12 + (w64 (v11 * v13))))).map eI)]), (6, .p (.int .i64 x3.2)), (13, .d false [.sl none (a0.map (eF eI))]), (14, .p (.int .i64 (a0.length : Int))), (15, .p (.int .i64 x3.2)), (20, .d false [.sl none (v7.map eI)]), (21, .p (.int .i64 (v7.length : Int))), (22, .p (.int .i64 (w64 (x8.2 + 1))))] [] [] (by kernel_rfl) trivial) ?_
          exact lq_n ((x8.1.set (Int.toNat x3.2) (w64 (v12 + (w64 (v11 * v13))))), (w64 (x8.2 + 1))) (Option.some.inj h).symm (wk_of (by kernel_rfl) (by kernel_rfl))
        · replace h := ite_f hc9_9 h
          refine k_exit ?_
          refine q_x ?_
          refine lq_x ?_
          refine b_x ?_
          refine b_n ?_
          have hyy := hy_x8 _ (Option.some.inj h).symm
          subst hyy
          have h := hk_x8
          refine q_n ?_
          exact ⟨x8.1, h, (wk_of (by kernel_rfl) (by kernel_rfl))⟩
    · replace h := ite_f hc5_4 h
      refine k_exit ?_
      refine q_x ?_
      refine lq_x ?_
      refine b_x ?_
      have hyy := hy_x3 _ (Option.some.inj h).symm
      subst hyy
      have h := hk_x3
      refine q_n ?_
      exact ⟨x3.1, h, (wk_of (by kernel_rfl) (by kernel_rfl))⟩
theorem wk_impl_RowSums {a0 : (List (List Int))}  {r : ((List Int) × Bool)} (h : impl_RowSums a0 = some r) : Meets Try.prog 34 [.d false [.sl none (a0.map (eF eI))]] { vals := [.ov false [.sl (some 3) (r.1.map eI)], .p (.bool r.2)] } := by
  refine Meets_ofL (by kernel_rfl) Try.func34 rfl (by kernel_rfl) (l0 := [(0, .d false [.sl none (a0.map (eF eI))])]) (by kernel_rfl) ?_
  unfold impl_RowSums at h
  refine k_sreg (r_go [(0, .d false [.sl none (a0.map (eF eI))])] [] [] (by kernel_rfl) trivial) ?_
  refine k_seq ?_
  replace h := bind_some' h
  obtain ⟨v1, hv1, h⟩ := h
  refine k_sreg (r_go [(0, .d false [.sl none (a0.map (eF eI))]), (6, .p (.bool (!v1)))] [(1, {call := some ([.d false [.sl none (a0.map (eF eI))]], [.p (.bool v1)], true)})] [([.d false [.sl none (a0.map (eF eI))]] : List Arg) = [.d false [.sl none (a0.map (eF eI))]], Meets Try.prog 68 ([.d false [.sl none (a0.map (eF eI))]] ++ []) { vals := [.p (.bool v1)] }, (!true || List.all [.p (.bool v1)] simpleR) = true] (by kernel_rfl) ⟨rfl, (wk_impl_isGraph hv1), (bt rfl), trivial⟩) ?_
  refine k_cond (b := (!v1)) (by kernel_rfl) (fun hc2_1 => ?_) (fun hc2_1 => ?_)
  · replace h := ite_t hc2_1 h
    refine k_sreg (r_go [(2, .ov false [.sl (some 3) []]), (3, .p (.bool false))] [] [] (by kernel_rfl) trivial) ?_
    refine k_ret ?_
    refine q_r ?_
    obtain rfl := Option.some.inj h
    exact e_ret (ls := [(.ov false [.sl (some 3) []], 2), (.p (.bool false), 3)]) (by kernel_rfl) rfl (by kernel_rfl) rfl
  · replace h := ite_f hc2_1 h
    refine k_skip ?_
    refine q_n ?_
    replace h := bind_some' h
    obtain ⟨v3, hv3, h⟩ := h
    replace h := bind_some' h
    obtain ⟨v4, hv4, h⟩ := h
    refine k_sreg (r_go [(2, .ov false [.sl (some 3) (v4.map eI)]), (3, .p (.bool true))] [(3, {n := some a0.length}), (4, {call := some ([.d false [.sl none (([1]).map eI)], .v (.int .i64 (a0.length : Int))], [.ov false [.sl (some 3) (v3.map eI)]], true)}), (5, {call := some ([.d false [.sl none (a0.map (eF eI))], .d false [.sl none (v3.map eI)]], [.ov false [.sl (some 3) (v4.map eI)]], true)})] [(a0.map (eF eI)).length = a0.length, ([.d false [.sl none (eraL (([1]).map eI))], .v (.int .i64 (a0.length : Int))] : List Arg) = [.d false [.sl none (([1]).map eI)], .v (.int .i64 (a0.length : Int))], Meets Try.prog 69 ([.d false [.sl none (([1]).map eI)], .v (.int .i64 (a0.length : Int))] ++ []) { vals := [.ov false [.sl (some 3) (v3.map eI)]] }, (!true || List.all [.ov false [.sl (some 3) (v3.map eI)]] simpleR) = true, ([.d false [.sl none (a0.map (eF eI))], .d false [.sl none (eraL (v3.map eI))]] : List Arg) = [.d false [.sl none (a0.map (eF eI))], .d false [.sl none (v3.map eI)]], Meets Try.prog 62 ([.d false [.sl none (a0.map (eF eI))], .d false [.sl none (v3.map eI)]] ++ []) { vals := [.ov false [.sl (some 3) (v4.map eI)]] }, (!true || List.all [.ov false [.sl (some 3) (v4.map eI)]] simpleR) = true] (by kernel_rfl) ⟨(List.length_map ..), (by simp only [eraL_enc (h := eI) er_I]), (wk_slices_Repeat_Lint_int hv3), (bt (sa_o (wnR1 (wnL_enc wn_I) rfl) rfl)), (by simp only [eraL_enc (h := eI) er_I]), (wk_impl_times hv4), (bt (sa_o (wnR1 (wnL_enc wn_I) rfl) rfl)), trivial⟩) ?_
    refine k_ret ?_
    obtain rfl := Option.some.inj h
    exact e_ret (ls := [(.ov false [.sl (some 3) (v4.map eI)], 2), (.p (.bool true), 3)]) (by kernel_rfl) rfl (by kernel_rfl) rfl
theorem wk_laws_eqIntS {a0 : (List Int)} {a1 : (List Int)}  {r : Bool} (h : laws_eqIntS a0 a1 = some r) : Meets Try.prog 18 [.d false [.sl none (a0.map eI)], .d false [.sl none (a1.map eI)]] { vals := [.p (.bool r)] } := by
  refine Meets_ofL (by kernel_rfl) Try.func18 rfl (by kernel_rfl) (l0 := [(0, .d false [.sl none (a0.map eI)]), (1, .d false [.sl none (a1.map eI)])]) (by kernel_rfl) ?_
  unfold laws_eqIntS at h
  refine k_sreg (r_go [(0, .d false [.sl none (a0.map eI)]), (1, .d false [.sl none (a1.map eI)])] [] [] (by kernel_rfl) trivial) ?_
  refine k_seq ?_
  refine k_sreg (r_go [(0, .d false [.sl none (a0.map eI)]), (1, .d false [.sl none (a1.map eI)]), (10, .p (.bool ((a0.length : Int) != (a1.length : Int))))] [(1, {n := some a0.length}), (3, {n := some a1.length})] [(a0.map eI).length = a0.length, (a1.map eI).length = a1.length] (by kernel_rfl) ⟨(List.length_map ..), (List.length_map ..), trivial⟩) ?_
  refine k_cond (b := ((a0.length : Int) != (a1.length : Int))) (by kernel_rfl) (fun hc2_0 => ?_) (fun hc2_0 => ?_)
  · replace h := ite_t hc2_0 h
    refine k_sreg (r_go [(4, .p (.bool false))] [] [] (by kernel_rfl) trivial) ?_
    refine k_ret ?_
    refine q_r ?_
    obtain rfl := Option.some.inj h
    exact e_ret (ls := [(.p (.bool false), 4)]) (by kernel_rfl) rfl (by kernel_rfl) rfl
  · replace h := ite_f hc2_0 h
    refine k_skip ?_
    refine q_n ?_
    refine k_join (J := fun (x : Unit) => []) (K := fun x => laws_eqIntS_k1 x = some r) (fun x2 h => ?_) ?_
    · unfold laws_eqIntS_k1 at h
      refine k_sreg (r_go [(4, .p (.bool true))] [] [] (by kernel_rfl) trivial) ?_
      refine k_ret ?_
      obtain rfl := Option.some.inj h
      exact e_ret (ls := [(.p (.bool true), 4)]) (by kernel_rfl) rfl (by kernel_rfl) rfl
    · refine k_sreg (r_go [(0, .d false [.sl none (a0.map eI)]), (1, .d false [.sl none (a1.map eI)]), (5, .p (.int .i64 0))] [] [] (by kernel_rfl) trivial) ?_
      refine k_block ?_
      obtain ⟨y4, hl_x3, hk_x3⟩ := bind_some' h
      clear h
      refine k_loop (J := fun (x : Int) => [(0, .d false [.sl none (a0.map eI)]), (1, .d false [.sl none (a1.map eI)]), (5, .p (.int .i64 x))]) hl_x3 (wk_of (by kernel_rfl) (by kernel_rfl)) (fun x3 o_x3 h hy_x3 => ?_)
      unfold laws_eqIntS_b1 at h
      refine k_seq ?_
      refine k_sreg (r_go [(0, .d false [.sl none (a0.map eI)]), (1, .d false [.sl none (a1.map eI)]), (5, .p (.int .i64 x3)), (14, .p (.bool (decide (x3 < (a0.length : Int)))))] [(2, {n := some a0.length})] [(a0.map eI).length = a0.length] (by kernel_rfl) ⟨(List.length_map ..), trivial⟩) ?_
      refine k_cond (b := (decide (x3 < (a0.length : Int)))) (by kernel_rfl) (fun hc5_4 => ?_) (fun hc5_4 => ?_)
      · replace h := ite_t hc5_4 h
        refine k_skip ?_
        refine q_n ?_
        refine k_seq ?_
        refine k_block ?_
        replace h := bind_some' h
        obtain ⟨v6, hv6, h⟩ := h
        replace h := bind_some' h
        obtain ⟨v7, hv7, h⟩ := h
        refine k_sreg (r_draw Try_mixed 8 [] [(0, .d false [.sl none (a0.map eI)]), (1, .d false [.sl none (a1.map eI)]), (5, .p (.int .i64 x3)), (25, .p (.bool (v6 != v7)))] [(2, {row := some [.raw (.int .i64 v6)]}), (6, {row := some [.raw (.int .i64 v7)]})] [0 ≤ x3, (a0.map eI)[(Int.toNat x3)]? = some [.raw (.int .i64 v6)], 0 ≤ x3, (a1.map eI)[(Int.toNat x3)]? = some [.raw (.int .i64 v7)]] (by kernel_rfl) ⟨(idxO_some hv6).1, (map_get eI (idxO_some hv6).2), (idxO_some hv7).1, (map_get eI (idxO_some hv7).2), trivial⟩) ?_
        refine k_cond (b := (v6 != v7)) (by kernel_rfl) (fun hc6_7 => ?_) (fun hc6_7 => ?_)
        · replace h := ite_t hc6_7 h
          refine k_sreg (r_go [(4, .p (.bool false))] [] [] (by kernel_rfl) trivial) ?_
          refine k_ret ?_
          refine b_r ?_
          refine q_r ?_
          refine lq_r ?_
          refine b_r ?_
          refine q_r ?_
          have hyy := hy_x3 _ (Option.some.inj h).symm
          subst hyy
          have h := hk_x3
          dsimp only [Sum.elim] at h
          obtain rfl := Option.some.inj h
          exact e_ret (ls := [(.p (.bool false), 4)]) (by kernel_rfl) rfl (by kernel_rfl) rfl
        · replace h := ite_f hc6_7 h
          refine k_skip ?_
          refine b_n ?_
          refine q_n ?_
          refine k_reg (r_go [(0, .d false [.sl none (a0.map eI)]), (1, .d false [.sl none (a1.map eI)]), (5, .p (.int .i64 (w64 (x3 + 1))))] [] [] (by kernel_rfl) trivial) ?_
          exact lq_n (w64 (x3 + 1)) (Option.some.inj h).symm (wk_of (by kernel_rfl) (by kernel_rfl))
      · replace h := ite_f hc5_4 h
        refine k_exit ?_
        refine q_x ?_
        refine lq_x ?_
        refine b_x ?_
        have hyy := hy_x3 _ (Option.some.inj h).symm
        subst hyy
        have h := hk_x3
        dsimp only [Sum.elim] at h
        refine q_n ?_
        exact ⟨(), h, (wk_of (by kernel_rfl) (by kernel_rfl))⟩
theorem wk_laws_eqIntSS {a0 : (List (List Int))} {a1 : (List (List Int))}  {r : Bool} (h : laws_eqIntSS a0 a1 = some r) : Meets Try.prog 27 [.d false [.sl none (a0.map (eF eI))], .d false [.sl none (a1.map (eF eI))]] { vals := [.p (.bool r)] } := by
  refine Meets_ofL (by kernel_rfl) Try.func27 rfl (by kernel_rfl) (l0 := [(0, .d false [.sl none (a0.map (eF eI))]), (1, .d false [.sl none (a1.map (eF eI))])]) (by kernel_rfl) ?_
  unfold laws_eqIntSS at h
  refine k_sreg (r_go [(0, .d false [.sl none (a0.map (eF eI))]), (1, .d false [.sl none (a1.map (eF eI))])] [] [] (by kernel_rfl) trivial) ?_
  refine k_seq ?_
  refine k_sreg (r_go [(0, .d false [.sl none (a0.map (eF eI))]), (1, .d false [.sl none (a1.map (eF eI))]), (10, .p (.bool ((a0.length : Int) != (a1.length : Int))))] [(1, {n := some a0.length}), (3, {n := some a1.length})] [(a0.map (eF eI)).length = a0.length, (a1.map (eF eI)).length = a1.length] (by kernel_rfl) ⟨(List.length_map ..), (List.length_map ..), trivial⟩) ?_
  refine k_cond (b := ((a0.length : Int) != (a1.length : Int))) (by kernel_rfl) (fun hc2_0 => ?_) (fun hc2_0 => ?_)
  · replace h := ite_t hc2_0 h
    refine k_sreg (r_go [(4, .p (.bool false))] [] [] (by kernel_rfl) trivial) ?_
    refine k_ret ?_
    refine q_r ?_
    obtain rfl := Option.some.inj h
    exact e_ret (ls := [(.p (.bool false), 4)]) (by kernel_rfl) rfl (by kernel_rfl) rfl
  · replace h := ite_f hc2_0 h
    refine k_skip ?_
    refine q_n ?_
    refine k_join (J := fun (x : Unit) => []) (K := fun x => laws_eqIntSS_k1 x = some r) (fun x2 h => ?_) ?_
    · unfold laws_eqIntSS_k1 at h
      refine k_sreg (r_go [(4, .p (.bool true))] [] [] (by kernel_rfl) trivial) ?_
      refine k_ret ?_
      obtain rfl := Option.some.inj h
      exact e_ret (ls := [(.p (.bool true), 4)]) (by kernel_rfl) rfl (by kernel_rfl) rfl
    · refine k_sreg (r_go [(0, .d false [.sl none (a0.map (eF eI))]), (1, .d false [.sl none (a1.map (eF eI))]), (5, .p (.int .i64 0))] [] [] (by kernel_rfl) trivial) ?_
      refine k_block ?_
      obtain ⟨y4, hl_x3, hk_x3⟩ := bind_some' h
      clear h
      refine k_loop (J := fun (x : Int) => [(0, .d false [.sl none (a0.map (eF eI))]), (1, .d false [.sl none (a1.map (eF eI))]), (5, .p (.int .i64 x))]) hl_x3 (wk_of (by kernel_rfl) (by kernel_rfl)) (fun x3 o_x3 h hy_x3 => ?_)
      unfold laws_eqIntSS_b1 at h
      refine k_seq ?_
      refine k_sreg (r_go [(0, .d false [.sl none (a0.map (eF eI))]), (1, .d false [.sl none (a1.map (eF eI))]), (5, .p (.int .i64 x3)), (14, .p (.bool (decide (x3 < (a0.length : Int)))))] [(2, {n := some a0.length})] [(a0.map (eF eI)).length = a0.length] (by kernel_rfl) ⟨(List.length_map ..), trivial⟩) ?_
      refine k_cond (b := (decide (x3 < (a0.length : Int)))) (by kernel_rfl) (fun hc5_4 => ?_) (fun hc5_4 => ?_)
      · replace h := ite_t hc5_4 h
        refine k_skip ?_
        refine q_n ?_
        refine k_seq ?_
        refine k_block ?_
        replace h := bind_some' h
        obtain ⟨v6, hv6, h⟩ := h
        replace h := bind_some' h
        obtain ⟨v7, hv7, h⟩ := h
        replace h := bind_some' h
        obtain ⟨v8, hv8, h⟩ := h
        refine k_sreg (r_draw Try_mixed 8 [] [(0, .d false [.sl none (a0.map (eF eI))]), (1, .d false [.sl none (a1.map (eF eI))]), (5, .p (.int .i64 x3)), (26, .p (.bool (!v8)))] [(2, {row := some [.sl none (v6.map eI)]}), (6, {row := some [.sl none (v7.map eI)]}), (8, {call := some ([.d false [.sl none (v6.map eI)], .d false [.sl none (v7.map eI)]], [.p (.bool v8)], true)})] [0 ≤ x3, (a0.map (eF eI))[(Int.toNat x3)]? = some [.sl none (v6.map eI)], 0 ≤ x3, (a1.map (eF eI))[(Int.toNat x3)]? = some [.sl none (v7.map eI)], ([.d false [.sl none (v6.map eI)], .d false [.sl none (v7.map eI)]] : List Arg) = [.d false [.sl none (v6.map eI)], .d false [.sl none (v7.map eI)]], Meets Try.prog 18 ([.d false [.sl none (v6.map eI)], .d false [.sl none (v7.map eI)]] ++ []) { vals := [.p (.bool v8)] }, (!true || List.all [.p (.bool v8)] simpleR) = true] (by kernel_rfl) ⟨(idxO_some hv6).1, (map_get (eF eI) (idxO_some hv6).2), (idxO_some hv7).1, (map_get (eF eI) (idxO_some hv7).2), rfl, (wk_laws_eqIntS hv8), (bt rfl), trivial⟩) ?_
        refine k_cond (b := (!v8)) (by kernel_rfl) (fun hc6_8 => ?_) (fun hc6_8 => ?_)
        · replace h := ite_t hc6_8 h
          refine k_sreg (r_go [(4, .p (.bool false))] [] [] (by kernel_rfl) trivial) ?_
          refine k_ret ?_
          refine b_r ?_
          refine q_r ?_
          refine lq_r ?_
          refine b_r ?_
          refine q_r ?_
          have hyy := hy_x3 _ (Option.some.inj h).symm
          subst hyy
          have h := hk_x3
          dsimp only [Sum.elim] at h
          obtain rfl := Option.some.inj h
          exact e_ret (ls := [(.p (.bool false), 4)]) (by kernel_rfl) rfl (by kernel_rfl) rfl
        · replace h := ite_f hc6_8 h
          refine k_skip ?_
          refine b_n ?_
          refine q_n ?_
          refine k_reg (r_go [(0, .d false [.sl none (a0.map (eF eI))]), (1, .d false [.sl none (a1.map (eF eI))]), (5, .p (.int .i64 (w64 (x3 + 1))))] [] [] (by kernel_rfl) trivial) ?_
          exact lq_n (w64 (x3 + 1)) (Option.some.inj h).symm (wk_of (by kernel_rfl) (by kernel_rfl))
      · replace h := ite_f hc5_4 h
        refine k_exit ?_
        refine q_x ?_
        refine lq_x ?_
        refine b_x ?_
        have hyy := hy_x3 _ (Option.some.inj h).symm
        subst hyy
        have h := hk_x3
        dsimp only [Sum.elim] at h
        refine q_n ?_
        exact ⟨(), h, (wk_of (by kernel_rfl) (by kernel_rfl))⟩
theorem wk_laws_markIntS {a0 : (List Int)} {a1 : Int}  {r : (Int × (List Int))} (h : laws_markIntS a0 a1 = some r) : MeetsB Try.prog 29 (.ov false [.sl (some 3) (a0.map eI)]) [.v (.int .i64 a1)] [.p (.int .i64 r.1)] (.ov false [.sl (some 3) (r.2.map eI)]) := by
  refine MeetsB_ofL (by kernel_rfl) Try.func29 rfl (by kernel_rfl) rfl (l0 := [(0, .ov false [.sl (some 3) (a0.map eI)]), (1, .p (.int .i64 a1))]) (by kernel_rfl) ?_
  unfold laws_markIntS at h
  refine k_sreg (r_go [(0, .ov false [.sl (some 3) (a0.map eI)]), (1, .p (.int .i64 a1))] [] [] (by kernel_rfl) trivial) ?_
  refine k_join (J := fun (x : ((List Int) × Int)) => [(0, .ov false [.sl (some 3) (x.1.map eI)]), (1, .p (.int .i64 x.2))]) (K := fun x => laws_markIntS_k1 x = some r) (fun x1 h => ?_) ?_
  · unfold laws_markIntS_k1 at h
    refine k_sreg (r_go [(0, .ov false [.sl (some 3) (x1.1.map eI)]), (4, .p (.int .i64 x1.2))] [] [] (by kernel_rfl) trivial) ?_
    refine k_ret ?_
    obtain rfl := Option.some.inj h
    exact eb_ret (ls := [(.p (.int .i64 x1.2), 4)]) (by kernel_rfl) rfl rfl (by kernel_rfl) (by kernel_rfl)
  · refine k_sreg (r_go [(0, .ov false [.sl (some 3) (a0.map eI)]), (1, .p (.int .i64 a1)), (5, .p (.int .i64 0))] [] [] (by kernel_rfl) trivial) ?_
    refine k_block ?_
    obtain ⟨y3, hl_x2, hk_x2⟩ := bind_some' h
    clear h
    refine k_loop (J := fun (x : ((List Int) × Int × Int)) => [(0, .ov false [.sl (some 3) (x.1.map eI)]), (1, .p (.int .i64 x.2.1)), (5, .p (.int .i64 x.2.2))]) hl_x2 (wk_of (by kernel_rfl) (by kernel_rfl)) (fun x2 o_x2 h hy_x2 => ?_)
    unfold laws_markIntS_b1 at h
    refine k_seq ?_
    refine k_sreg (r_go [(0, .ov false [.sl (some 3) (x2.1.map eI)]), (1, .p (.int .i64 x2.2.1)), (5, .p (.int .i64 x2.2.2)), (9, .p (.bool (decide (x2.2.2 < (x2.1.length : Int)))))] [(2, {n := some x2.1.length})] [(x2.1.map eI).length = x2.1.length] (by kernel_rfl) ⟨(List.length_map ..), trivial⟩) ?_
    refine k_cond (b := (decide (x2.2.2 < (x2.1.length : Int)))) (by kernel_rfl) (fun hc5_3 => ?_) (fun hc5_3 => ?_)
    · replace h := ite_t hc5_3 h
      refine k_skip ?_
      refine q_n ?_
      refine k_seq ?_
      refine k_block ?_
      replace h := bind_some' h
      obtain ⟨v5, hv5, h⟩ := h
      refine k_sreg (r_go [(0, .ov false [.sl (some 3) ((x2.1.set (Int.toNat x2.2.2) x2.2.1).map eI)]), (1, .p (.int .i64 x2.2.1)), (5, .p (.int .i64 x2.2.2))] [(3, {row := some [.raw (.int .i64 v5)]}), (4, {row := some [.raw (.int .i64 v5)], fix := some (0, .ov false [.sl (some 3) ((x2.1.set (Int.toNat x2.2.2) x2.2.1).map eI)])})] [0 ≤ x2.2.2, (x2.1.map eI)[(Int.toNat x2.2.2)]? = some [.raw (.int .i64 v5)], getRow [[.sl (some 3) (x2.1.map eI)]] [(0, 0), ((Int.toNat x2.2.2), 0)] = some [.raw (.int .i64 v5)], (SV.ov false [.sl (some 3) (setL (x2.1.map eI) [((Int.toNat x2.2.2), 0)] [.raw (.int .i64 x2.2.1)])] : SV) = .ov false [.sl (some 3) ((x2.1.set (Int.toNat x2.2.2) x2.2.1).map eI)]] (by kernel_rfl) ⟨(idxO_some hv5).1, (map_get eI (idxO_some hv5).2), ((gr0 rfl).trans (gre (map_get eI (idxO_some hv5).2))), (congrArg (fun z => SV.ov false [.sl (some 3) z]) (set1 (f := eI) (y := x2.2.1) (idxO_some hv5).2 rfl)), trivial⟩) ?_
      refine k_reg (r_go [(0, .ov false [.sl (some 3) ((x2.1.set (Int.toNat x2.2.2) x2.2.1).map eI)]), (1, .p (.int .i64 (w64 (x2.2.1 + 1)))), (5, .p (.int .i64 x2.2.2))] [] [] (by kernel_rfl) trivial) ?_
      refine b_n ?_
      refine q_n ?_
      refine k_reg (r_go [(0, .ov false [.sl (some 3) ((x2.1.set (Int.toNat x2.2.2) x2.2.1).map eI)]), (1, .p (.int .i64 (w64 (x2.2.1 + 1)))), (5, .p (.int .i64 (w64 (x2.2.2 + 1))))] [] [] (by kernel_rfl) trivial) ?_
      exact lq_n ((x2.1.set (Int.toNat x2.2.2) x2.2.1), (w64 (x2.2.1 + 1)), (w64 (x2.2.2 + 1))) (Option.some.inj h).symm (wk_of (by kernel_rfl) (by kernel_rfl))
    · replace h := ite_f hc5_3 h
      refine k_exit ?_
      refine q_x ?_
      refine lq_x ?_
      refine b_x ?_
      have hyy := hy_x2 _ (Option.some.inj h).symm
      subst hyy
      have h := hk_x2
      refine q_n ?_
      exact ⟨(x2.1, x2.2.1), h, (wk_of (by kernel_rfl) (by kernel_rfl))⟩
theorem wk_laws_markIntSS {a0 : (List (List Int))} {a1 : Int}  {r : (Int × (List (List Int)))} (h : laws_markIntSS a0 a1 = some r) : MeetsB Try.prog 28 (.ov false [.sl (some 22) (a0.map (eO 3 eI))]) [.v (.int .i64 a1)] [.p (.int .i64 r.1)] (.ov false [.sl (some 22) (r.2.map (eO 3 eI))]) := by
  refine MeetsB_ofL (by kernel_rfl) Try.func28 rfl (by kernel_rfl) rfl (l0 := [(0, .ov false [.sl (some 22) (a0.map (eO 3 eI))]), (1, .p (.int .i64 a1))]) (by kernel_rfl) ?_
  unfold laws_markIntSS at h
  refine k_sreg (r_go [(0, .ov false [.sl (some 22) (a0.map (eO 3 eI))]), (1, .p (.int .i64 a1))] [] [] (by kernel_rfl) trivial) ?_
  refine k_join (J := fun (x : ((List (List Int)) × Int)) => [(0, .ov false [.sl (some 22) (x.1.map (eO 3 eI))]), (1, .p (.int .i64 x.2))]) (K := fun x => laws_markIntSS_k1 x = some r) (fun x1 h => ?_) ?_
  · unfold laws_markIntSS_k1 at h
    refine k_sreg (r_go [(0, .ov false [.sl (some 22) (x1.1.map (eO 3 eI))]), (4, .p (.int .i64 x1.2))] [] [] (by kernel_rfl) trivial) ?_
    refine k_ret ?_
    obtain rfl := Option.some.inj h
    exact eb_ret (ls := [(.p (.int .i64 x1.2), 4)]) (by kernel_rfl) rfl rfl (by kernel_rfl) (by kernel_rfl)
  · refine k_sreg (r_go [(0, .ov false [.sl (some 22) (a0.map (eO 3 eI))]), (1, .p (.int .i64 a1)), (5, .p (.int .i64 0))] [] [] (by kernel_rfl) trivial) ?_
    refine k_block ?_
    obtain ⟨y3, hl_x2, hk_x2⟩ := bind_some' h
    clear h
    refine k_loop (J := fun (x : ((List (List Int)) × Int × Int)) => [(0, .ov false [.sl (some 22) (x.1.map (eO 3 eI))]), (1, .p (.int .i64 x.2.1)), (5, .p (.int .i64 x.2.2))]) hl_x2 (wk_of (by kernel_rfl) (by kernel_rfl)) (fun x2 o_x2 h hy_x2 => ?_)
    unfold laws_markIntSS_b1 at h
    refine k_seq ?_
    refine k_sreg (r_go [(0, .ov false [.sl (some 22) (x2.1.map (eO 3 eI))]), (1, .p (.int .i64 x2.2.1)), (5, .p (.int .i64 x2.2.2)), (9, .p (.bool (decide (x2.2.2 < (x2.1.length : Int)))))] [(2, {n := some x2.1.length})] [(x2.1.map (eO 3 eI)).length = x2.1.length] (by kernel_rfl) ⟨(List.length_map ..), trivial⟩) ?_
    refine k_cond (b := (decide (x2.2.2 < (x2.1.length : Int)))) (by kernel_rfl) (fun hc5_3 => ?_) (fun hc5_3 => ?_)
    · replace h := ite_t hc5_3 h
      refine k_skip ?_
      refine q_n ?_
      refine k_seq ?_
      refine k_block ?_
      replace h := bind_some' h
      obtain ⟨v5, hv5, h⟩ := h
      replace h := bind_some' h
      obtain ⟨v6, hv6, h⟩ := h
      refine k_reg (r_go [(0, .ov false [.sl (some 22) ((x2.1.set (Int.toNat x2.2.2) v6.2).map (eO 3 eI))]), (1, .p (.int .i64 v6.1)), (5, .p (.int .i64 x2.2.2))] [(2, {row := some [.sl (some 3) (v5.map eI)]}), (3, {row := some [.sl (some 3) (v5.map eI)]}), (5, {lend := some ([.v (.int .i64 x2.2.1)], [.p (.int .i64 v6.1)], .ov false [.sl (some 3) (v6.2.map eI)], true), deep := some [.sl (some 3) (v5.map eI)], fix := some (0, .ov false [.sl (some 22) ((x2.1.set (Int.toNat x2.2.2) v6.2).map (eO 3 eI))])})] [0 ≤ x2.2.2, (x2.1.map (eO 3 eI))[(Int.toNat x2.2.2)]? = some [.sl (some 3) (v5.map eI)], frR [.sl (some 3) (v5.map eI)] = false, getRow [[.sl (some 22) (x2.1.map (eO 3 eI))]] [(0, 0), ((Int.toNat x2.2.2), 0)] = some [.sl (some 3) (v5.map eI)], ([.v (.int .i64 x2.2.1)] : List Arg) = [.v (.int .i64 x2.2.1)], MeetsB Try.prog 29 (.ov false [.sl (some 3) (v5.map eI)]) [.v (.int .i64 x2.2.1)] [.p (.int .i64 v6.1)] (.ov false [.sl (some 3) (v6.2.map eI)]), (!true || (List.all [.p (.int .i64 v6.1)] simpleR && wnS (.ov false [.sl (some 3) (v6.2.map eI)]))) = true, getRow [[.sl (some 22) (x2.1.map (eO 3 eI))]] [(0, 0), ((Int.toNat x2.2.2), 0)] = some [.sl (some 3) (v5.map eI)], (SV.ov false [.sl (some 22) (setL (x2.1.map (eO 3 eI)) [((Int.toNat x2.2.2), 0)] [.sl (some 3) (v6.2.map eI)])] : SV) = .ov false [.sl (some 22) ((x2.1.set (Int.toNat x2.2.2) v6.2).map (eO 3 eI))]] (by kernel_rfl) ⟨(idxO_some hv5).1, (map_get (eO 3 eI) (idxO_some hv5).2), rfl, ((gr0 rfl).trans (gre (map_get (eO 3 eI) (idxO_some hv5).2))), rfl, (wk_laws_markIntS hv6), (bt (ls_t rfl (wnR1 (wnL_enc wn_I) rfl))), ((gr0 rfl).trans (gre (map_get (eO 3 eI) (idxO_some hv5).2))), (congrArg (fun z => SV.ov false [.sl (some 22) z]) (set1 (f := (eO 3 eI)) (y := v6.2) (idxO_some hv5).2 rfl)), trivial⟩) ?_
      refine b_n ?_
      refine q_n ?_
      refine k_reg (r_go [(0, .ov false [.sl (some 22) ((x2.1.set (Int.toNat x2.2.2) v6.2).map (eO 3 eI))]), (1, .p (.int .i64 v6.1)), (5, .p (.int .i64 (w64 (x2.2.2 + 1))))] [] [] (by kernel_rfl) trivial) ?_
      exact lq_n ((x2.1.set (Int.toNat x2.2.2) v6.2), v6.1, (w64 (x2.2.2 + 1))) (Option.some.inj h).symm (wk_of (by kernel_rfl) (by kernel_rfl))
    · replace h := ite_f hc5_3 h
      refine k_exit ?_
      refine q_x ?_
      refine lq_x ?_
      refine b_x ?_
      have hyy := hy_x2 _ (Option.some.inj h).symm
      subst hyy
      have h := hk_x2
      refine q_n ?_
      exact ⟨(x2.1, x2.2.1), h, (wk_of (by kernel_rfl) (by kernel_rfl))⟩
theorem wk_laws_heldIntS {a0 : (List Int)} {a1 : Int}  {r : Int} (h : laws_heldIntS a0 a1 = some r) : Meets Try.prog 30 [.d false [.sl none (a0.map eI)], .v (.int .i64 a1)] { vals := [.p (.int .i64 r)] } := by
  refine Meets_ofL (by kernel_rfl) Try.func30 rfl (by kernel_rfl) (l0 := [(0, .d false [.sl none (a0.map eI)]), (1, .p (.int .i64 a1))]) (by kernel_rfl) ?_
  unfold laws_heldIntS at h
  refine k_sreg (r_go [(0, .d false [.sl none (a0.map eI)]), (1, .p (.int .i64 a1))] [] [] (by kernel_rfl) trivial) ?_
  refine k_join (J := fun (x : Int) => [(1, .p (.int .i64 x))]) (K := fun x => laws_heldIntS_k1 x = some r) (fun x1 h => ?_) ?_
  · unfold laws_heldIntS_k1 at h
    refine k_sreg (r_go [(4, .p (.int .i64 x1))] [] [] (by kernel_rfl) trivial) ?_
    refine k_ret ?_
    obtain rfl := Option.some.inj h
    exact e_ret (ls := [(.p (.int .i64 x1), 4)]) (by kernel_rfl) rfl (by kernel_rfl) rfl
  · refine k_sreg (r_go [(0, .d false [.sl none (a0.map eI)]), (1, .p (.int .i64 a1)), (5, .p (.int .i64 0))] [] [] (by kernel_rfl) trivial) ?_
    refine k_block ?_
    obtain ⟨y3, hl_x2, hk_x2⟩ := bind_some' h
    clear h
    refine k_loop (J := fun (x : (Int × Int)) => [(0, .d false [.sl none (a0.map eI)]), (1, .p (.int .i64 x.1)), (5, .p (.int .i64 x.2))]) hl_x2 (wk_of (by kernel_rfl) (by kernel_rfl)) (fun x2 o_x2 h hy_x2 => ?_)
    unfold laws_heldIntS_b1 at h
    refine k_seq ?_
    refine k_sreg (r_go [(0, .d false [.sl none (a0.map eI)]), (1, .p (.int .i64 x2.1)), (5, .p (.int .i64 x2.2)), (9, .p (.bool (decide (x2.2 < (a0.length : Int)))))] [(2, {n := some a0.length})] [(a0.map eI).length = a0.length] (by kernel_rfl) ⟨(List.length_map ..), trivial⟩) ?_
    refine k_cond (b := (decide (x2.2 < (a0.length : Int)))) (by kernel_rfl) (fun hc5_3 => ?_) (fun hc5_3 => ?_)
    · replace h := ite_t hc5_3 h
      refine k_skip ?_
      refine q_n ?_
      refine k_seq ?_
      refine k_block ?_
      refine k_seq ?_
      replace h := bind_some' h
      obtain ⟨v5, hv5, h⟩ := h
      refine k_sreg (r_go [(0, .d false [.sl none (a0.map eI)]), (1, .p (.int .i64 x2.1)), (5, .p (.int .i64 x2.2)), (17, .p (.bool (v5 != x2.1)))] [(2, {row := some [.raw (.int .i64 v5)]})] [0 ≤ x2.2, (a0.map eI)[(Int.toNat x2.2)]? = some [.raw (.int .i64 v5)]] (by kernel_rfl) ⟨(idxO_some hv5).1, (map_get eI (idxO_some hv5).2), trivial⟩) ?_
      refine k_cond (b := (v5 != x2.1)) (by kernel_rfl) (fun hc7_5 => ?_) (fun hc7_5 => ?_)
      · replace h := ite_t hc7_5 h
        refine k_sreg (r_go [(4, .p (.int .i64 (-1)))] [] [] (by kernel_rfl) trivial) ?_
        refine k_ret ?_
        refine q_r ?_
        refine b_r ?_
        refine q_r ?_
        refine lq_r ?_
        refine b_r ?_
        refine q_r ?_
        have hyy := hy_x2 _ (Option.some.inj h).symm
        subst hyy
        have h := hk_x2
        dsimp only [Sum.elim] at h
        obtain rfl := Option.some.inj h
        exact e_ret (ls := [(.p (.int .i64 (-1)), 4)]) (by kernel_rfl) rfl (by kernel_rfl) rfl
      · replace h := ite_f hc7_5 h
        refine k_skip ?_
        refine q_n ?_
        refine k_reg (r_go [(0, .d false [.sl none (a0.map eI)]), (1, .p (.int .i64 (w64 (x2.1 + 1)))), (5, .p (.int .i64 x2.2))] [] [] (by kernel_rfl) trivial) ?_
        refine b_n ?_
        refine q_n ?_
        refine k_reg (r_go [(0, .d false [.sl none (a0.map eI)]), (1, .p (.int .i64 (w64 (x2.1 + 1)))), (5, .p (.int .i64 (w64 (x2.2 + 1))))] [] [] (by kernel_rfl) trivial) ?_
        exact lq_n ((w64 (x2.1 + 1)), (w64 (x2.2 + 1))) (Option.some.inj h).symm (wk_of (by kernel_rfl) (by kernel_rfl))
    · replace h := ite_f hc5_3 h
      refine k_exit ?_
      refine q_x ?_
      refine lq_x ?_
      refine b_x ?_
      have hyy := hy_x2 _ (Option.some.inj h).symm
      subst hyy
      have h := hk_x2
      dsimp only [Sum.elim] at h
      refine q_n ?_
      exact ⟨x2.1, h, (wk_of (by kernel_rfl) (by kernel_rfl))⟩
theorem wk_laws_FnExactRowSums {a0 : (List (List Int))}  {r : Bool} (h : laws_FnExactRowSums a0 = some r) : Meets Try.prog 7 [.d false [.sl none (a0.map (eF eI))]] { vals := [.p (.bool r)] } := by
  refine Meets_ofL (by kernel_rfl) Try.func7 rfl (by kernel_rfl) (l0 := [(0, .d false [.sl none (a0.map (eF eI))])]) (by kernel_rfl) ?_
  unfold laws_FnExactRowSums at h
  refine k_sreg (r_go [(0, .d false [.sl none (a0.map (eF eI))])] [] [] (by kernel_rfl) trivial) ?_
  refine k_sreg (r_go [(0, .d false [.sl none (a0.map (eF eI))]), (3, .p (.int .i64 1048576))] [] [] (by kernel_rfl) trivial) ?_
  replace h := bind_some' h
  obtain ⟨v1, hv1, h⟩ := h
  refine k_sreg (r_go [(0, .d false [.sl none (a0.map (eF eI))]), (3, .p (.int .i64 v1))] [(2, {call := some ([.d false [.sl none (a0.map (eF eI))], .v (.int .i64 1048576)], [.p (.int .i64 v1)], true)})] [([.d false [.sl none (a0.map (eF eI))], .v (.int .i64 1048576)] : List Arg) = [.d false [.sl none (a0.map (eF eI))], .v (.int .i64 1048576)], Meets Try.prog 23 ([.d false [.sl none (a0.map (eF eI))], .v (.int .i64 1048576)] ++ []) { vals := [.p (.int .i64 v1)] }, (!true || List.all [.p (.int .i64 v1)] simpleR) = true] (by kernel_rfl) ⟨rfl, (wk_laws_szIntSS hv1), (bt rfl), trivial⟩) ?_
  refine k_seq ?_
  refine k_sreg (r_go [(0, .d false [.sl none (a0.map (eF eI))]), (18, .p (.bool (decide (v1 < 0))))] [] [] (by kernel_rfl) trivial) ?_
  refine k_cond (b := (decide (v1 < 0))) (by kernel_rfl) (fun hc2_1 => ?_) (fun hc2_1 => ?_)
  · replace h := ite_t hc2_1 h
    refine k_sreg (r_go [(2, .p (.bool true))] [] [] (by kernel_rfl) trivial) ?_
    refine k_ret ?_
    refine q_r ?_
    obtain rfl := Option.some.inj h
    exact e_ret (ls := [(.p (.bool true), 2)]) (by kernel_rfl) rfl (by kernel_rfl) rfl
  · replace h := ite_f hc2_1 h
    refine k_skip ?_
    refine q_n ?_
    replace h := bind_some' h
    obtain ⟨v3, hv3, h⟩ := h
    replace h := bind_some' h
    obtain ⟨v4, hv4, h⟩ := h
    refine k_sreg (r_go [(0, .d false [.sl none (a0.map (eF eI))]), (4, .ov false [.sl (some 3) (v4.1.map eI)]), (5, .p (.bool v4.2))] [(1, {call := some ([.d false [.sl none (a0.map (eF eI))]], [.ov false [.sl (some 22) (v3.map (eO 3 eI))]], true)}), (2, {call := some ([.d false [.sl none (v3.map (eF eI))]], [.ov false [.sl (some 3) (v4.1.map eI)], .p (.bool v4.2)], true)})] [([.d false [.sl none (a0.map (eF eI))]] : List Arg) = [.d false [.sl none (a0.map (eF eI))]], Meets Try.prog 25 ([.d false [.sl none (a0.map (eF eI))]] ++ []) { vals := [.ov false [.sl (some 22) (v3.map (eO 3 eI))]] }, (!true || List.all [.ov false [.sl (some 22) (v3.map (eO 3 eI))]] simpleR) = true, ([.d false [.sl none (eraL (v3.map (eO 3 eI)))]] : List Arg) = [.d false [.sl none (v3.map (eF eI))]], Meets Try.prog 33 ([.d false [.sl none (v3.map (eF eI))]] ++ []) { vals := [.ov false [.sl (some 3) (v4.1.map eI)], .p (.bool v4.2)] }, (!true || List.all [.ov false [.sl (some 3) (v4.1.map eI)], .p (.bool v4.2)] simpleR) = true] (by kernel_rfl) ⟨rfl, (wk_laws_toIntSS hv3), (bt (sa_o (wnR1 (wnL_enc (wn_O wn_I)) rfl) rfl)), (by simp only [eraL_enc (h := (eF eI)) (era_O er_I)]), (wk_spec_RowSums hv4), (bt (sa_o (wnR1 (wnL_enc wn_I) rfl) (sa_p rfl))), trivial⟩) ?_
    replace h := bind_some' h
    obtain ⟨v5, hv5, h⟩ := h
    refine k_sreg (r_go [(0, .d false [.sl none (a0.map (eF eI))]), (4, .ov false [.sl (some 3) (v4.1.map eI)]), (5, .p (.bool v4.2)), (6, .ov false [.sl (some 22) (v5.map (eO 3 eI))])] [(1, {call := some ([.d false [.sl none (a0.map (eF eI))]], [.ov false [.sl (some 22) (v5.map (eO 3 eI))]], true)})] [([.d false [.sl none (a0.map (eF eI))]] : List Arg) = [.d false [.sl none (a0.map (eF eI))]], Meets Try.prog 25 ([.d false [.sl none (a0.map (eF eI))]] ++ []) { vals := [.ov false [.sl (some 22) (v5.map (eO 3 eI))]] }, (!true || List.all [.ov false [.sl (some 22) (v5.map (eO 3 eI))]] simpleR) = true] (by kernel_rfl) ⟨rfl, (wk_laws_toIntSS hv5), (bt (sa_o (wnR1 (wnL_enc (wn_O wn_I)) rfl) rfl)), trivial⟩) ?_
    replace h := bind_some' h
    obtain ⟨v6, hv6, h⟩ := h
    refine k_sreg (r_go [(0, .d false [.sl none (a0.map (eF eI))]), (4, .ov false [.sl (some 3) (v4.1.map eI)]), (5, .p (.bool v4.2)), (6, .ov false [.sl (some 22) (v5.map (eO 3 eI))]), (7, .ov false [.sl (some 3) (v6.1.map eI)]), (8, .p (.bool v6.2))] [(1, {call := some ([.d false [.sl none (v5.map (eF eI))]], [.ov false [.sl (some 3) (v6.1.map eI)], .p (.bool v6.2)], true)})] [([.d false [.sl none (eraL (v5.map (eO 3 eI)))]] : List Arg) = [.d false [.sl none (v5.map (eF eI))]], Meets Try.prog 34 ([.d false [.sl none (v5.map (eF eI))]] ++ []) { vals := [.ov false [.sl (some 3) (v6.1.map eI)], .p (.bool v6.2)] }, (!true || List.all [.ov false [.sl (some 3) (v6.1.map eI)], .p (.bool v6.2)] simpleR) = true] (by kernel_rfl) ⟨(by simp only [eraL_enc (h := (eF eI)) (era_O er_I)]), (wk_impl_RowSums hv6), (bt (sa_o (wnR1 (wnL_enc wn_I) rfl) (sa_p rfl))), trivial⟩) ?_
    refine k_seq ?_
    replace h := bind_some' h
    obtain ⟨v7, hv7, h⟩ := h
    refine k_sreg (l1 := [(0, .d false [.sl none (a0.map (eF eI))]), (4, .ov false [.sl (some 3) (v4.1.map eI)]), (5, .p (.bool v4.2)), (6, .ov false [.sl (some 22) (v5.map (eO 3 eI))]), (7, .ov false [.sl (some 3) (v6.1.map eI)]), (8, .p (.bool v6.2)), (40, .p (.bool ((!v7) || (!(v6.2 == v4.2)))))]) ?_ ?_
    · rcases Bool.eq_false_or_eq_true (!v7) with ha1 | ha1
      · exact RegOk.of_eq (l2 := [(0, .d false [.sl none (a0.map (eF eI))]), (4, .ov false [.sl (some 3) (v4.1.map eI)]), (5, .p (.bool v4.2)), (6, .ov false [.sl (some 22) (v5.map (eO 3 eI))]), (7, .ov false [.sl (some 3) (v6.1.map eI)]), (8, .p (.bool v6.2)), (40, .p (.bool ((!v7) || (!(v6.2 == v4.2)))))]) (r_go [(0, .d false [.sl none (a0.map (eF eI))]), (4, .ov false [.sl (some 3) (v4.1.map eI)]), (5, .p (.bool v4.2)), (6, .ov false [.sl (some 22) (v5.map (eO 3 eI))]), (7, .ov false [.sl (some 3) (v6.1.map eI)]), (8, .p (.bool v6.2)), (40, .p (.bool true))] [(2, {call := some ([.d false [.sl none (v6.1.map eI)], .d false [.sl none (v4.1.map eI)]], [.p (.bool v7)], true)}), (5, {g := some true}), (6, {g := some true}), (7, {g := some true}), (8, {b := some true})] [([.d false [.sl none (eraL (v6.1.map eI))], .d false [.sl none (eraL (v4.1.map eI))]] : List Arg) = [.d false [.sl none (v6.1.map eI)], .d false [.sl none (v4.1.map eI)]], Meets Try.prog 18 ([.d false [.sl none (v6.1.map eI)], .d false [.sl none (v4.1.map eI)]] ++ []) { vals := [.p (.bool v7)] }, (!true || List.all [.p (.bool v7)] simpleR) = true, (!v7) = true, (!v7) = true, (!v7) = true, (!v7) = true] (by kernel_rfl) ⟨(by simp only [eraL_enc (h := eI) er_I, eraL_enc (h := eI) er_I]), (wk_laws_eqIntS hv7), (bt rfl), ha1, ha1, ha1, ha1, trivial⟩) (by simp [ha1])
      · exact RegOk.of_eq (l2 := [(0, .d false [.sl none (a0.map (eF eI))]), (4, .ov false [.sl (some 3) (v4.1.map eI)]), (5, .p (.bool v4.2)), (6, .ov false [.sl (some 22) (v5.map (eO 3 eI))]), (7, .ov false [.sl (some 3) (v6.1.map eI)]), (8, .p (.bool v6.2)), (40, .p (.bool ((!v7) || (!(v6.2 == v4.2)))))]) (r_go [(0, .d false [.sl none (a0.map (eF eI))]), (4, .ov false [.sl (some 3) (v4.1.map eI)]), (5, .p (.bool v4.2)), (6, .ov false [.sl (some 22) (v5.map (eO 3 eI))]), (7, .ov false [.sl (some 3) (v6.1.map eI)]), (8, .p (.bool v6.2)), (40, .p (.bool (!(v6.2 == v4.2))))] [(2, {call := some ([.d false [.sl none (v6.1.map eI)], .d false [.sl none (v4.1.map eI)]], [.p (.bool v7)], true)}), (5, {g := some false}), (6, {g := some false}), (7, {g := some false}), (8, {b := some false})] [([.d false [.sl none (eraL (v6.1.map eI))], .d false [.sl none (eraL (v4.1.map eI))]] : List Arg) = [.d false [.sl none (v6.1.map eI)], .d false [.sl none (v4.1.map eI)]], Meets Try.prog 18 ([.d false [.sl none (v6.1.map eI)], .d false [.sl none (v4.1.map eI)]] ++ []) { vals := [.p (.bool v7)] }, (!true || List.all [.p (.bool v7)] simpleR) = true, (!v7) = false, (!v7) = false, (!v7) = false, (!v7) = false] (by kernel_rfl) ⟨(by simp only [eraL_enc (h := eI) er_I, eraL_enc (h := eI) er_I]), (wk_laws_eqIntS hv7), (bt rfl), ha1, ha1, ha1, ha1, trivial⟩) (by simp [ha1])
    · refine k_cond (b := ((!v7) || (!(v6.2 == v4.2)))) (by kernel_rfl) (fun hc2_7 => ?_) (fun hc2_7 => ?_)
      · replace h := ite_t hc2_7 h
        refine k_sreg (r_go [(2, .p (.bool false))] [] [] (by kernel_rfl) trivial) ?_
        refine k_ret ?_
        refine q_r ?_
        obtain rfl := Option.some.inj h
        exact e_ret (ls := [(.p (.bool false), 2)]) (by kernel_rfl) rfl (by kernel_rfl) rfl
      · replace h := ite_f hc2_7 h
        refine k_skip ?_
        refine q_n ?_
        refine k_seq ?_
        replace h := bind_some' h
        obtain ⟨v9, hv9, h⟩ := h
        replace h := bind_some' h
        obtain ⟨v10, hv10, h⟩ := h
        refine k_sreg (r_go [(0, .d false [.sl none (a0.map (eF eI))]), (4, .ov false [.sl (some 3) (v4.1.map eI)]), (5, .p (.bool v4.2)), (6, .ov false [.sl (some 22) (v5.map (eO 3 eI))]), (7, .ov false [.sl (some 3) (v6.1.map eI)]), (8, .p (.bool v6.2)), (45, .p (.bool (!v10)))] [(2, {call := some ([.d false [.sl none (a0.map (eF eI))]], [.ov false [.sl (some 22) (v9.map (eO 3 eI))]], true)}), (3, {call := some ([.d false [.sl none (v5.map (eF eI))], .d false [.sl none (v9.map (eF eI))]], [.p (.bool v10)], true)})] [([.d false [.sl none (a0.map (eF eI))]] : List Arg) = [.d false [.sl none (a0.map (eF eI))]], Meets Try.prog 25 ([.d false [.sl none (a0.map (eF eI))]] ++ []) { vals := [.ov false [.sl (some 22) (v9.map (eO 3 eI))]] }, (!true || List.all [.ov false [.sl (some 22) (v9.map (eO 3 eI))]] simpleR) = true, ([.d false [.sl none (eraL (v5.map (eO 3 eI)))], .d false [.sl none (eraL (v9.map (eO 3 eI)))]] : List Arg) = [.d false [.sl none (v5.map (eF eI))], .d false [.sl none (v9.map (eF eI))]], Meets Try.prog 27 ([.d false [.sl none (v5.map (eF eI))], .d false [.sl none (v9.map (eF eI))]] ++ []) { vals := [.p (.bool v10)] }, (!true || List.all [.p (.bool v10)] simpleR) = true] (by kernel_rfl) ⟨rfl, (wk_laws_toIntSS hv9), (bt (sa_o (wnR1 (wnL_enc (wn_O wn_I)) rfl) rfl)), (by simp only [eraL_enc (h := (eF eI)) (era_O er_I), eraL_enc (h := (eF eI)) (era_O er_I)]), (wk_laws_eqIntSS hv10), (bt rfl), trivial⟩) ?_
        refine k_cond (b := (!v10)) (by kernel_rfl) (fun hc2_10 => ?_) (fun hc2_10 => ?_)
        · replace h := ite_t hc2_10 h
          refine k_sreg (r_go [(2, .p (.bool false))] [] [] (by kernel_rfl) trivial) ?_
          refine k_ret ?_
          refine q_r ?_
          obtain rfl := Option.some.inj h
          exact e_ret (ls := [(.p (.bool false), 2)]) (by kernel_rfl) rfl (by kernel_rfl) rfl
        · replace h := ite_f hc2_10 h
          refine k_skip ?_
          refine q_n ?_
          refine k_sreg (r_go [(0, .d false [.sl none (a0.map (eF eI))]), (4, .ov false [.sl (some 3) (v4.1.map eI)]), (5, .p (.bool v4.2)), (6, .ov false [.sl (some 22) (v5.map (eO 3 eI))]), (7, .ov false [.sl (some 3) (v6.1.map eI)]), (8, .p (.bool v6.2)), (9, .p (.int .i64 1))] [] [] (by kernel_rfl) trivial) ?_
          replace h := bind_some' h
          obtain ⟨v12, hv12, h⟩ := h
          refine k_sreg (r_go [(0, .d false [.sl none (a0.map (eF eI))]), (4, .ov false [.sl (some 3) (v4.1.map eI)]), (5, .p (.bool v4.2)), (7, .ov false [.sl (some 3) (v6.1.map eI)]), (8, .p (.bool v6.2)), (9, .p (.int .i64 v12.1))] [(2, {lend := some ([.v (.int .i64 1)], [.p (.int .i64 v12.1)], .ov false [.sl (some 22) (v12.2.map (eO 3 eI))], true)})] [([.v (.int .i64 1)] : List Arg) = [.v (.int .i64 1)], MeetsB Try.prog 28 (.ov false [.sl (some 22) (v5.map (eO 3 eI))]) [.v (.int .i64 1)] [.p (.int .i64 v12.1)] (.ov false [.sl (some 22) (v12.2.map (eO 3 eI))]), (!true || (List.all [.p (.int .i64 v12.1)] simpleR && wnS (.ov false [.sl (some 22) (v12.2.map (eO 3 eI))]))) = true] (by kernel_rfl) ⟨rfl, (wk_laws_markIntSS hv12), (bt (ls_t rfl (wnR1 (wnL_enc (wn_O wn_I)) rfl))), trivial⟩) ?_
          refine k_seq ?_
          replace h := bind_some' h
          obtain ⟨w14, hw14, h⟩ := h
          refine k_sreg (l1 := [(0, .d false [.sl none (a0.map (eF eI))]), (4, .ov false [.sl (some 3) (v4.1.map eI)]), (5, .p (.bool v4.2)), (7, .ov false [.sl (some 3) (v6.1.map eI)]), (61, .p (.bool w14))]) ?_ ?_
          · clear h
            rcases Bool.eq_false_or_eq_true (decide (v12.1 < 0)) with ha3 | ha3
            · replace hw14 := ite_t ha3 hw14
              have hw14 := Option.some.inj hw14
              subst hw14
              exact (r_go [(0, .d false [.sl none (a0.map (eF eI))]), (4, .ov false [.sl (some 3) (v4.1.map eI)]), (5, .p (.bool v4.2)), (7, .ov false [.sl (some 3) (v6.1.map eI)]), (61, .p (.bool true))] [(3, {g := some true}), (4, {g := some true}), (5, {g := some true}), (6, {g := some true}), (7, {b := some true}), (9, {g := some true}), (10, {g := some true}), (11, {g := some true}), (12, {b := some true})] [(decide (v12.1 < 0)) = true, (decide (v12.1 < 0)) = true, (decide (v12.1 < 0)) = true, (decide (v12.1 < 0)) = true, (decide (v12.1 < 0)) = true, true = true, true = true, true = true, true = true] (by kernel_rfl) ⟨ha3, ha3, ha3, ha3, ha3, rfl, rfl, rfl, rfl, trivial⟩)
            · replace hw14 := ite_f ha3 hw14
              replace hw14 := bind_some' hw14
              obtain ⟨v13, hv13, hw14⟩ := hw14
              rcases Bool.eq_false_or_eq_true (!v13) with ha4 | ha4
              · replace hw14 := ite_t ha4 hw14
                have hw14 := Option.some.inj hw14
                subst hw14
                exact (r_go [(0, .d false [.sl none (a0.map (eF eI))]), (4, .ov false [.sl (some 3) (v4.1.map eI)]), (5, .p (.bool v4.2)), (7, .ov false [.sl (some 3) (v6.1.map eI)]), (61, .p (.bool true))] [(3, {g := some false}), (4, {g := some false}), (5, {g := some false, call := some ([.d false [.sl none (v6.1.map eI)], .d false [.sl none (v4.1.map eI)]], [.p (.bool v13)], true)}), (6, {g := some false}), (7, {b := some false}), (9, {g := some true}), (10, {g := some true}), (11, {g := some true}), (12, {b := some true})] [(decide (v12.1 < 0)) = false, (decide (v12.1 < 0)) = false, (decide (v12.1 < 0)) = false, ([.d false [.sl none (eraL (v6.1.map eI))], .d false [.sl none (eraL (v4.1.map eI))]] : List Arg) = [.d false [.sl none (v6.1.map eI)], .d false [.sl none (v4.1.map eI)]], Meets Try.prog 18 ([.d false [.sl none (v6.1.map eI)], .d false [.sl none (v4.1.map eI)]] ++ []) { vals := [.p (.bool v13)] }, (!true || List.all [.p (.bool v13)] simpleR) = true, (decide (v12.1 < 0)) = false, (decide (v12.1 < 0)) = false, (!v13) = true, (!v13) = true, (!v13) = true, (!v13) = true] (by kernel_rfl) ⟨ha3, ha3, ha3, (by simp only [eraL_enc (h := eI) er_I, eraL_enc (h := eI) er_I]), (wk_laws_eqIntS hv13), (bt rfl), ha3, ha3, ha4, ha4, ha4, ha4, trivial⟩)
              · replace hw14 := ite_f ha4 hw14
                have hw14 := Option.some.inj hw14
                subst hw14
                exact (r_go [(0, .d false [.sl none (a0.map (eF eI))]), (4, .ov false [.sl (some 3) (v4.1.map eI)]), (5, .p (.bool v4.2)), (7, .ov false [.sl (some 3) (v6.1.map eI)]), (61, .p (.bool (!(v6.2 == v4.2))))] [(3, {g := some false}), (4, {g := some false}), (5, {g := some false, call := some ([.d false [.sl none (v6.1.map eI)], .d false [.sl none (v4.1.map eI)]], [.p (.bool v13)], true)}), (6, {g := some false}), (7, {b := some false}), (9, {g := some false}), (10, {g := some false}), (11, {g := some false}), (12, {b := some false})] [(decide (v12.1 < 0)) = false, (decide (v12.1 < 0)) = false, (decide (v12.1 < 0)) = false, ([.d false [.sl none (eraL (v6.1.map eI))], .d false [.sl none (eraL (v4.1.map eI))]] : List Arg) = [.d false [.sl none (v6.1.map eI)], .d false [.sl none (v4.1.map eI)]], Meets Try.prog 18 ([.d false [.sl none (v6.1.map eI)], .d false [.sl none (v4.1.map eI)]] ++ []) { vals := [.p (.bool v13)] }, (!true || List.all [.p (.bool v13)] simpleR) = true, (decide (v12.1 < 0)) = false, (decide (v12.1 < 0)) = false, (!v13) = false, (!v13) = false, (!v13) = false, (!v13) = false] (by kernel_rfl) ⟨ha3, ha3, ha3, (by simp only [eraL_enc (h := eI) er_I, eraL_enc (h := eI) er_I]), (wk_laws_eqIntS hv13), (bt rfl), ha3, ha3, ha4, ha4, ha4, ha4, trivial⟩)
          · refine k_cond (b := w14) (by kernel_rfl) (fun hc2_14 => ?_) (fun hc2_14 => ?_)
            · replace h := ite_t hc2_14 h
              refine k_sreg (r_go [(2, .p (.bool false))] [] [] (by kernel_rfl) trivial) ?_
              refine k_ret ?_
              refine q_r ?_
              obtain rfl := Option.some.inj h
              exact e_ret (ls := [(.p (.bool false), 2)]) (by kernel_rfl) rfl (by kernel_rfl) rfl
            · replace h := ite_f hc2_14 h
              refine k_skip ?_
              refine q_n ?_
              refine k_sreg (r_go [(0, .d false [.sl none (a0.map (eF eI))]), (4, .ov false [.sl (some 3) (v4.1.map eI)]), (5, .p (.bool v4.2)), (7, .ov false [.sl (some 3) (v6.1.map eI)]), (10, .p (.int .i64 1))] [] [] (by kernel_rfl) trivial) ?_
              replace h := bind_some' h
              obtain ⟨v16, hv16, h⟩ := h
              refine k_sreg (r_go [(0, .d false [.sl none (a0.map (eF eI))]), (4, .ov false [.sl (some 3) (v4.1.map eI)]), (5, .p (.bool v4.2)), (7, .ov false [.sl (some 3) (v16.2.map eI)]), (10, .p (.int .i64 v16.1))] [(2, {lend := some ([.v (.int .i64 1)], [.p (.int .i64 v16.1)], .ov false [.sl (some 3) (v16.2.map eI)], true)})] [([.v (.int .i64 1)] : List Arg) = [.v (.int .i64 1)], MeetsB Try.prog 29 (.ov false [.sl (some 3) (v6.1.map eI)]) [.v (.int .i64 1)] [.p (.int .i64 v16.1)] (.ov false [.sl (some 3) (v16.2.map eI)]), (!true || (List.all [.p (.int .i64 v16.1)] simpleR && wnS (.ov false [.sl (some 3) (v16.2.map eI)]))) = true] (by kernel_rfl) ⟨rfl, (wk_laws_markIntS hv16), (bt (ls_t rfl (wnR1 (wnL_enc wn_I) rfl))), trivial⟩) ?_
              refine k_sreg (r_go [(0, .d false [.sl none (a0.map (eF eI))]), (4, .ov false [.sl (some 3) (v4.1.map eI)]), (5, .p (.bool v4.2)), (7, .ov false [.sl (some 3) (v16.2.map eI)]), (10, .p (.int .i64 v16.1)), (11, .p (.int .i64 1))] [] [] (by kernel_rfl) trivial) ?_
              replace h := bind_some' h
              obtain ⟨v17, hv17, h⟩ := h
              refine k_sreg (r_go [(0, .d false [.sl none (a0.map (eF eI))]), (4, .ov false [.sl (some 3) (v4.1.map eI)]), (5, .p (.bool v4.2)), (7, .ov false [.sl (some 3) (v16.2.map eI)]), (10, .p (.int .i64 v16.1)), (11, .p (.int .i64 v17))] [(2, {call := some ([.d false [.sl none (v16.2.map eI)], .v (.int .i64 1)], [.p (.int .i64 v17)], true)})] [([.d false [.sl none (eraL (v16.2.map eI))], .v (.int .i64 1)] : List Arg) = [.d false [.sl none (v16.2.map eI)], .v (.int .i64 1)], Meets Try.prog 30 ([.d false [.sl none (v16.2.map eI)], .v (.int .i64 1)] ++ []) { vals := [.p (.int .i64 v17)] }, (!true || List.all [.p (.int .i64 v17)] simpleR) = true] (by kernel_rfl) ⟨(by simp only [eraL_enc (h := eI) er_I]), (wk_laws_heldIntS hv17), (bt rfl), trivial⟩) ?_
              refine k_seq ?_
              refine k_sreg (r_go [(0, .d false [.sl none (a0.map (eF eI))]), (4, .ov false [.sl (some 3) (v4.1.map eI)]), (5, .p (.bool v4.2)), (7, .ov false [.sl (some 3) (v16.2.map eI)]), (10, .p (.int .i64 v16.1)), (11, .p (.int .i64 v17)), (69, .p (.bool (decide (v17 < 0))))] [] [] (by kernel_rfl) trivial) ?_
              refine k_cond (b := (decide (v17 < 0))) (by kernel_rfl) (fun hc2_17 => ?_) (fun hc2_17 => ?_)
              · replace h := ite_t hc2_17 h
                refine k_sreg (r_go [(2, .p (.bool false))] [] [] (by kernel_rfl) trivial) ?_
                refine k_ret ?_
                refine q_r ?_
                obtain rfl := Option.some.inj h
                exact e_ret (ls := [(.p (.bool false), 2)]) (by kernel_rfl) rfl (by kernel_rfl) rfl
              · replace h := ite_f hc2_17 h
                refine k_skip ?_
                refine q_n ?_
                refine k_seq ?_
                refine k_sreg (r_go [(0, .d false [.sl none (a0.map (eF eI))]), (4, .ov false [.sl (some 3) (v4.1.map eI)]), (5, .p (.bool v4.2)), (7, .ov false [.sl (some 3) (v16.2.map eI)]), (10, .p (.int .i64 v16.1)), (72, .p (.bool (v17 != v16.1)))] [] [] (by kernel_rfl) trivial) ?_
                refine k_cond (b := (v17 != v16.1)) (by kernel_rfl) (fun hc2_18 => ?_) (fun hc2_18 => ?_)
                · replace h := ite_t hc2_18 h
                  refine k_sreg (r_go [(2, .p (.bool false))] [] [] (by kernel_rfl) trivial) ?_
                  refine k_ret ?_
                  refine q_r ?_
                  obtain rfl := Option.some.inj h
                  exact e_ret (ls := [(.p (.bool false), 2)]) (by kernel_rfl) rfl (by kernel_rfl) rfl
                · replace h := ite_f hc2_18 h
                  refine k_skip ?_
                  refine q_n ?_
                  replace h := bind_some' h
                  obtain ⟨v20, hv20, h⟩ := h
                  replace h := bind_some' h
                  obtain ⟨v21, hv21, h⟩ := h
                  refine k_sreg (r_go [(4, .ov false [.sl (some 3) (v4.1.map eI)]), (5, .p (.bool v4.2)), (7, .ov false [.sl (some 3) (v16.2.map eI)]), (10, .p (.int .i64 v16.1)), (12, .ov false [.sl (some 3) (v21.1.map eI)]), (13, .p (.bool v21.2))] [(1, {call := some ([.d false [.sl none (a0.map (eF eI))]], [.ov false [.sl (some 22) (v20.map (eO 3 eI))]], true)}), (2, {call := some ([.d false [.sl none (v20.map (eF eI))]], [.ov false [.sl (some 3) (v21.1.map eI)], .p (.bool v21.2)], true)})] [([.d false [.sl none (a0.map (eF eI))]] : List Arg) = [.d false [.sl none (a0.map (eF eI))]], Meets Try.prog 25 ([.d false [.sl none (a0.map (eF eI))]] ++ []) { vals := [.ov false [.sl (some 22) (v20.map (eO 3 eI))]] }, (!true || List.all [.ov false [.sl (some 22) (v20.map (eO 3 eI))]] simpleR) = true, ([.d false [.sl none (eraL (v20.map (eO 3 eI)))]] : List Arg) = [.d false [.sl none (v20.map (eF eI))]], Meets Try.prog 34 ([.d false [.sl none (v20.map (eF eI))]] ++ []) { vals := [.ov false [.sl (some 3) (v21.1.map eI)], .p (.bool v21.2)] }, (!true || List.all [.ov false [.sl (some 3) (v21.1.map eI)], .p (.bool v21.2)] simpleR) = true] (by kernel_rfl) ⟨rfl, (wk_laws_toIntSS hv20), (bt (sa_o (wnR1 (wnL_enc (wn_O wn_I)) rfl) rfl)), (by simp only [eraL_enc (h := (eF eI)) (era_O er_I)]), (wk_impl_RowSums hv21), (bt (sa_o (wnR1 (wnL_enc wn_I) rfl) (sa_p rfl))), trivial⟩) ?_
                  refine k_seq ?_
                  replace h := bind_some' h
                  obtain ⟨v22, hv22, h⟩ := h
                  refine k_sreg (l1 := [(7, .ov false [.sl (some 3) (v16.2.map eI)]), (10, .p (.int .i64 v16.1)), (87, .p (.bool ((!v22) || (!(v21.2 == v4.2)))))]) ?_ ?_
                  · rcases Bool.eq_false_or_eq_true (!v22) with ha6 | ha6
                    · exact RegOk.of_eq (l2 := [(7, .ov false [.sl (some 3) (v16.2.map eI)]), (10, .p (.int .i64 v16.1)), (87, .p (.bool ((!v22) || (!(v21.2 == v4.2)))))]) (r_go [(7, .ov false [.sl (some 3) (v16.2.map eI)]), (10, .p (.int .i64 v16.1)), (87, .p (.bool true))] [(2, {call := some ([.d false [.sl none (v21.1.map eI)], .d false [.sl none (v4.1.map eI)]], [.p (.bool v22)], true)}), (5, {g := some true}), (6, {g := some true}), (7, {g := some true}), (8, {b := some true})] [([.d false [.sl none (eraL (v21.1.map eI))], .d false [.sl none (eraL (v4.1.map eI))]] : List Arg) = [.d false [.sl none (v21.1.map eI)], .d false [.sl none (v4.1.map eI)]], Meets Try.prog 18 ([.d false [.sl none (v21.1.map eI)], .d false [.sl none (v4.1.map eI)]] ++ []) { vals := [.p (.bool v22)] }, (!true || List.all [.p (.bool v22)] simpleR) = true, (!v22) = true, (!v22) = true, (!v22) = true, (!v22) = true] (by kernel_rfl) ⟨(by simp only [eraL_enc (h := eI) er_I, eraL_enc (h := eI) er_I]), (wk_laws_eqIntS hv22), (bt rfl), ha6, ha6, ha6, ha6, trivial⟩) (by simp [ha6])
                    · exact RegOk.of_eq (l2 := [(7, .ov false [.sl (some 3) (v16.2.map eI)]), (10, .p (.int .i64 v16.1)), (87, .p (.bool ((!v22) || (!(v21.2 == v4.2)))))]) (r_go [(7, .ov false [.sl (some 3) (v16.2.map eI)]), (10, .p (.int .i64 v16.1)), (87, .p (.bool (!(v21.2 == v4.2))))] [(2, {call := some ([.d false [.sl none (v21.1.map eI)], .d false [.sl none (v4.1.map eI)]], [.p (.bool v22)], true)}), (5, {g := some false}), (6, {g := some false}), (7, {g := some false}), (8, {b := some false})] [([.d false [.sl none (eraL (v21.1.map eI))], .d false [.sl none (eraL (v4.1.map eI))]] : List Arg) = [.d false [.sl none (v21.1.map eI)], .d false [.sl none (v4.1.map eI)]], Meets Try.prog 18 ([.d false [.sl none (v21.1.map eI)], .d false [.sl none (v4.1.map eI)]] ++ []) { vals := [.p (.bool v22)] }, (!true || List.all [.p (.bool v22)] simpleR) = true, (!v22) = false, (!v22) = false, (!v22) = false, (!v22) = false] (by kernel_rfl) ⟨(by simp only [eraL_enc (h := eI) er_I, eraL_enc (h := eI) er_I]), (wk_laws_eqIntS hv22), (bt rfl), ha6, ha6, ha6, ha6, trivial⟩) (by simp [ha6])
                  · refine k_cond (b := ((!v22) || (!(v21.2 == v4.2)))) (by kernel_rfl) (fun hc2_22 => ?_) (fun hc2_22 => ?_)
                    · replace h := ite_t hc2_22 h
                      refine k_sreg (r_go [(2, .p (.bool false))] [] [] (by kernel_rfl) trivial) ?_
                      refine k_ret ?_
                      refine q_r ?_
                      obtain rfl := Option.some.inj h
                      exact e_ret (ls := [(.p (.bool false), 2)]) (by kernel_rfl) rfl (by kernel_rfl) rfl
                    · replace h := ite_f hc2_22 h
                      refine k_skip ?_
                      refine q_n ?_
                      refine k_sreg (r_go [(7, .ov false [.sl (some 3) (v16.2.map eI)]), (10, .p (.int .i64 v16.1)), (11, .p (.int .i64 1))] [] [] (by kernel_rfl) trivial) ?_
                      replace h := bind_some' h
                      obtain ⟨v24, hv24, h⟩ := h
                      refine k_sreg (r_go [(10, .p (.int .i64 v16.1)), (11, .p (.int .i64 v24))] [(2, {call := some ([.d false [.sl none (v16.2.map eI)], .v (.int .i64 1)], [.p (.int .i64 v24)], true)})] [([.d false [.sl none (eraL (v16.2.map eI))], .v (.int .i64 1)] : List Arg) = [.d false [.sl none (v16.2.map eI)], .v (.int .i64 1)], Meets Try.prog 30 ([.d false [.sl none (v16.2.map eI)], .v (.int .i64 1)] ++ []) { vals := [.p (.int .i64 v24)] }, (!true || List.all [.p (.int .i64 v24)] simpleR) = true] (by kernel_rfl) ⟨(by simp only [eraL_enc (h := eI) er_I]), (wk_laws_heldIntS hv24), (bt rfl), trivial⟩) ?_
                      refine k_seq ?_
                      refine k_sreg (r_go [(10, .p (.int .i64 v16.1)), (11, .p (.int .i64 v24)), (92, .p (.bool (decide (v24 < 0))))] [] [] (by kernel_rfl) trivial) ?_
                      refine k_cond (b := (decide (v24 < 0))) (by kernel_rfl) (fun hc2_24 => ?_) (fun hc2_24 => ?_)
                      · replace h := ite_t hc2_24 h
                        refine k_sreg (r_go [(2, .p (.bool false))] [] [] (by kernel_rfl) trivial) ?_
                        refine k_ret ?_
                        refine q_r ?_
                        obtain rfl := Option.some.inj h
                        exact e_ret (ls := [(.p (.bool false), 2)]) (by kernel_rfl) rfl (by kernel_rfl) rfl
                      · replace h := ite_f hc2_24 h
                        refine k_skip ?_
                        refine q_n ?_
                        refine k_seq ?_
                        refine k_sreg (r_go [(95, .p (.bool (v24 != v16.1)))] [] [] (by kernel_rfl) trivial) ?_
                        refine k_cond (b := (v24 != v16.1)) (by kernel_rfl) (fun hc2_25 => ?_) (fun hc2_25 => ?_)
                        · replace h := ite_t hc2_25 h
                          refine k_sreg (r_go [(2, .p (.bool false))] [] [] (by kernel_rfl) trivial) ?_
                          refine k_ret ?_
                          refine q_r ?_
                          obtain rfl := Option.some.inj h
                          exact e_ret (ls := [(.p (.bool false), 2)]) (by kernel_rfl) rfl (by kernel_rfl) rfl
                        · replace h := ite_f hc2_25 h
                          refine k_skip ?_
                          refine q_n ?_
                          refine k_sreg (r_go [(2, .p (.bool true))] [] [] (by kernel_rfl) trivial) ?_
                          refine k_ret ?_
                          obtain rfl := Option.some.inj h
                          exact e_ret (ls := [(.p (.bool true), 2)]) (by kernel_rfl) rfl (by kernel_rfl) rfl
end Go.PV

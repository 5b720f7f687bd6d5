/-
  Walks through the functions that the law reaches: each answers as its plain definition does.
  Conditions: none.
-/
import Derived.KernelRfl
import Derived.Test.YtbdedaimgddjoaaDf
import Derived.Test.YtbdedaimgddjoaaProg
open Go Go.PV Go.Proofs
set_option linter.all false
namespace Go.PV
attribute [local irreducible] pvC pvL pvD sOp seqQ blockQ Meets MeetsB Ok OkL RegOk agree endQ seqL blockL loopQ endL endLB
theorem Try_mixed : Try.prog.follows .mixedOrders = true := by kernel_rfl
theorem wk_laws_szIntS {a0 : (List Int)} {a1 : Int}  {r : Int} (h : laws_szIntS a0 a1 = some r) : Meets Try.prog 58 [.d false [.sl none (a0.map eI)], .v (.int .i64 a1)] { vals := [.p (.int .i64 r)] } := by
  refine Meets_ofL (by kernel_rfl) Try.func58 rfl (by kernel_rfl) (l0 := [(0, .d false [.sl none (a0.map eI)]), (1, .p (.int .i64 a1))]) (by kernel_rfl) ?_
  unfold laws_szIntS at h
  refine k_sreg (r_go [(0, .d false [.sl none (a0.map eI)]), (1, .p (.int .i64 a1))] [] [] (by kernel_rfl) trivial) ?_
  refine k_sreg (r_go [(1, .p (.int .i64 (w64 (a1 - (a0.length : Int)))))] [(2, {n := some a0.length})] [(a0.map eI).length = a0.length] (by kernel_rfl) ⟨(List.length_map ..), trivial⟩) ?_
  refine k_seq ?_
  refine k_sreg (r_go [(1, .p (.int .i64 (w64 (a1 - (a0.length : Int))))), (10, .p (.bool (decide ((w64 (a1 - (a0.length : Int))) < 0))))] [] [] (by kernel_rfl) trivial) ?_
  refine k_cond (b := (decide ((w64 (a1 - (a0.length : Int))) < 0))) (by kernel_rfl) (fun hc2_0 => ?_) (fun hc2_0 => ?_)
  · replace h := ite_t hc2_0 h
    refine k_sreg (r_go [(4, .p (.int .i64 (-1)))] [] [] (by kernel_rfl) trivial) ?_
    refine k_ret ?_
    refine q_r ?_
    obtain rfl := Option.some.inj h
    exact e_ret (ls := [(.p (.int .i64 (-1)), 4)]) (by kernel_rfl) rfl (by kernel_rfl) rfl
  · replace h := ite_f hc2_0 h
    refine k_skip ?_
    refine q_n ?_
    refine k_sreg (r_go [(4, .p (.int .i64 (w64 (a1 - (a0.length : Int)))))] [] [] (by kernel_rfl) trivial) ?_
    refine k_ret ?_
    obtain rfl := Option.some.inj h
    exact e_ret (ls := [(.p (.int .i64 (w64 (a1 - (a0.length : Int)))), 4)]) (by kernel_rfl) rfl (by kernel_rfl) rfl
theorem wk_laws_szIntSS {a0 : (List (List Int))} {a1 : Int}  {r : Int} (h : laws_szIntSS a0 a1 = some r) : Meets Try.prog 23 [.d false [.sl none (a0.map (eF eI))], .v (.int .i64 a1)] { vals := [.p (.int .i64 r)] } := by
  refine Meets_ofL (by kernel_rfl) Try.func23 rfl (by kernel_rfl) (l0 := [(0, .d false [.sl none (a0.map (eF eI))]), (1, .p (.int .i64 a1))]) (by kernel_rfl) ?_
  unfold laws_szIntSS at h
  refine k_sreg (r_go [(0, .d false [.sl none (a0.map (eF eI))]), (1, .p (.int .i64 a1))] [] [] (by kernel_rfl) trivial) ?_
  refine k_sreg (r_go [(0, .d false [.sl none (a0.map (eF eI))]), (1, .p (.int .i64 (w64 (a1 - (a0.length : Int)))))] [(2, {n := some a0.length})] [(a0.map (eF eI)).length = a0.length] (by kernel_rfl) ⟨(List.length_map ..), trivial⟩) ?_
  refine k_seq ?_
  refine k_sreg (r_go [(0, .d false [.sl none (a0.map (eF eI))]), (1, .p (.int .i64 (w64 (a1 - (a0.length : Int))))), (11, .p (.bool (decide ((w64 (a1 - (a0.length : Int))) < 0))))] [] [] (by kernel_rfl) trivial) ?_
  refine k_cond (b := (decide ((w64 (a1 - (a0.length : Int))) < 0))) (by kernel_rfl) (fun hc2_0 => ?_) (fun hc2_0 => ?_)
  · replace h := ite_t hc2_0 h
    refine k_sreg (r_go [(4, .p (.int .i64 (-1)))] [] [] (by kernel_rfl) trivial) ?_
    refine k_ret ?_
    refine q_r ?_
    obtain rfl := Option.some.inj h
    exact e_ret (ls := [(.p (.int .i64 (-1)), 4)]) (by kernel_rfl) rfl (by kernel_rfl) rfl
  · replace h := ite_f hc2_0 h
    refine k_skip ?_
    refine q_n ?_
    refine k_join (J := fun (x : Int) => [(1, .p (.int .i64 x))]) (K := fun x => laws_szIntSS_k1 x = some r) (fun x2 h => ?_) ?_
    · unfold laws_szIntSS_k1 at h
      refine k_sreg (r_go [(4, .p (.int .i64 x2))] [] [] (by kernel_rfl) trivial) ?_
      refine k_ret ?_
      obtain rfl := Option.some.inj h
      exact e_ret (ls := [(.p (.int .i64 x2), 4)]) (by kernel_rfl) rfl (by kernel_rfl) rfl
    · refine k_sreg (r_go [(0, .d false [.sl none (a0.map (eF eI))]), (1, .p (.int .i64 (w64 (a1 - (a0.length : Int))))), (5, .p (.int .i64 0))] [] [] (by kernel_rfl) trivial) ?_
      refine k_block ?_
      obtain ⟨y4, hl_x3, hk_x3⟩ := bind_some' h
      clear h
      refine k_loop (J := fun (x : (Int × Int)) => [(0, .d false [.sl none (a0.map (eF eI))]), (1, .p (.int .i64 x.1)), (5, .p (.int .i64 x.2))]) hl_x3 (wk_of (by kernel_rfl) (by kernel_rfl)) (fun x3 o_x3 h hy_x3 => ?_)
      unfold laws_szIntSS_b1 at h
      refine k_seq ?_
      refine k_sreg (r_go [(0, .d false [.sl none (a0.map (eF eI))]), (1, .p (.int .i64 x3.1)), (5, .p (.int .i64 x3.2)), (15, .p (.bool (decide (x3.2 < (a0.length : Int)))))] [(2, {n := some a0.length})] [(a0.map (eF eI)).length = a0.length] (by kernel_rfl) ⟨(List.length_map ..), trivial⟩) ?_
      refine k_cond (b := (decide (x3.2 < (a0.length : Int)))) (by kernel_rfl) (fun hc5_4 => ?_) (fun hc5_4 => ?_)
      · replace h := ite_t hc5_4 h
        refine k_skip ?_
        refine q_n ?_
        refine k_seq ?_
        refine k_block ?_
        replace h := bind_some' h
        obtain ⟨v6, hv6, h⟩ := h
        replace h := bind_some' h
        obtain ⟨v7, hv7, h⟩ := h
        refine k_sreg (r_go [(0, .d false [.sl none (a0.map (eF eI))]), (1, .p (.int .i64 v7)), (5, .p (.int .i64 x3.2))] [(2, {row := some [.sl none (v6.map eI)]}), (5, {call := some ([.d false [.sl none (v6.map eI)], .v (.int .i64 x3.1)], [.p (.int .i64 v7)], true)})] [0 ≤ x3.2, (a0.map (eF eI))[(Int.toNat x3.2)]? = some [.sl none (v6.map eI)], ([.d false [.sl none (v6.map eI)], .v (.int .i64 x3.1)] : List Arg) = [.d false [.sl none (v6.map eI)], .v (.int .i64 x3.1)], Meets Try.prog 58 ([.d false [.sl none (v6.map eI)], .v (.int .i64 x3.1)] ++ []) { vals := [.p (.int .i64 v7)] }, List.all [.p (.int .i64 v7)] simpleR = true] (by kernel_rfl) ⟨(idxO_some hv6).1, (map_get (eF eI) (idxO_some hv6).2), rfl, (wk_laws_szIntS hv7), rfl, trivial⟩) ?_
        refine k_sreg (r_go [(0, .d false [.sl none (a0.map (eF eI))]), (1, .p (.int .i64 v7)), (5, .p (.int .i64 x3.2)), (25, .p (.bool (decide (v7 < 0))))] [] [] (by kernel_rfl) trivial) ?_
        refine k_cond (b := (decide (v7 < 0))) (by kernel_rfl) (fun hc6_7 => ?_) (fun hc6_7 => ?_)
        · replace h := ite_t hc6_7 h
          refine k_sreg (r_go [(4, .p (.int .i64 (-1)))] [] [] (by kernel_rfl) trivial) ?_
          refine k_ret ?_
          refine b_r ?_
          refine q_r ?_
          refine lq_r ?_
          refine b_r ?_
          refine q_r ?_
          have hyy := hy_x3 _ (Option.some.inj h).symm
          subst hyy
          have h := hk_x3
          dsimp only [Sum.elim] at h
          obtain rfl := Option.some.inj h
          exact e_ret (ls := [(.p (.int .i64 (-1)), 4)]) (by kernel_rfl) rfl (by kernel_rfl) rfl
        · replace h := ite_f hc6_7 h
          refine k_skip ?_
          refine b_n ?_
          refine q_n ?_
          refine k_reg (r_go [(0, .d false [.sl none (a0.map (eF eI))]), (1, .p (.int .i64 v7)), (5, .p (.int .i64 (w64 (x3.2 + 1))))] [] [] (by kernel_rfl) trivial) ?_
          exact lq_n (v7, (w64 (x3.2 + 1))) (Option.some.inj h).symm (wk_of (by kernel_rfl) (by kernel_rfl))
      · replace h := ite_f hc5_4 h
        refine k_exit ?_
        refine q_x ?_
        refine lq_x ?_
        refine b_x ?_
        have hyy := hy_x3 _ (Option.some.inj h).symm
        subst hyy
        have h := hk_x3
        dsimp only [Sum.elim] at h
        refine q_n ?_
        exact ⟨x3.1, h, (wk_of (by kernel_rfl) (by kernel_rfl))⟩
theorem wk_laws_toIntS {a0 : (List Int)}  {r : (List Int)} (h : laws_toIntS a0 = some r) : Meets Try.prog 16 [.d false [.sl none (a0.map eI)]] { vals := [.ov false [.sl (some 3) (r.map eI)]] } := by
  refine Meets_ofL (by kernel_rfl) Try.func16 rfl (by kernel_rfl) (l0 := [(0, .d false [.sl none (a0.map eI)])]) (by kernel_rfl) ?_
  unfold laws_toIntS at h
  refine k_sreg (r_go [(0, .d false [.sl none (a0.map eI)])] [] [] (by kernel_rfl) trivial) ?_
  replace h := bind_some' h
  obtain ⟨u1, hu1, h⟩ := h
  refine k_sreg (r_go [(0, .d false [.sl none (a0.map eI)]), (3, .ov false [.sl (some 3) ((List.replicate (Int.toNat (a0.length : Int)) (0 : Int)).map eI)])] [(1, {n := some a0.length}), (2, {fix := some (7, .ov false [.sl (some 3) ((List.replicate (Int.toNat (a0.length : Int)) (0 : Int)).map eI)])})] [(a0.map eI).length = a0.length, (a0.length : Int) = (a0.length : Int), 0 ≤ (a0.length : Int), (a0.length : Int) ≤ 1099511627776, (SV.ov false [.sl (some 3) (List.replicate (Int.toNat (a0.length : Int)) [.raw (.int .i64 0)])] : SV) = .ov false [.sl (some 3) ((List.replicate (Int.toNat (a0.length : Int)) (0 : Int)).map eI)]] (by kernel_rfl) ⟨(List.length_map ..), rfl, (guardO_some hu1).1, (guardO_some hu1).2, (congrArg (fun z => SV.ov false [.sl (some 3) z]) (rep_fix eI (0 : Int))), trivial⟩) ?_
  refine k_join (J := fun (x : (List Int)) => [(3, .ov false [.sl (some 3) (x.map eI)])]) (K := fun x => laws_toIntS_k1 x = some r) (fun x2 h => ?_) ?_
  · unfold laws_toIntS_k1 at h
    refine k_sreg (r_go [(2, .ov false [.sl (some 3) (x2.map eI)])] [] [] (by kernel_rfl) trivial) ?_
    refine k_ret ?_
    obtain rfl := Option.some.inj h
    exact e_ret (ls := [(.ov false [.sl (some 3) (x2.map eI)], 2)]) (by kernel_rfl) rfl (by kernel_rfl) rfl
  · refine k_sreg (r_go [(0, .d false [.sl none (a0.map eI)]), (3, .ov false [.sl (some 3) ((List.replicate (Int.toNat (a0.length : Int)) (0 : Int)).map eI)]), (4, .p (.int .i64 0))] [] [] (by kernel_rfl) trivial) ?_
    refine k_block ?_
    obtain ⟨y4, hl_x3, hk_x3⟩ := bind_some' h
    clear h
    refine k_loop (J := fun (x : ((List Int) × Int)) => [(0, .d false [.sl none (a0.map eI)]), (3, .ov false [.sl (some 3) (x.1.map eI)]), (4, .p (.int .i64 x.2))]) hl_x3 (wk_of (by kernel_rfl) (by kernel_rfl)) (fun x3 o_x3 h hy_x3 => ?_)
    unfold laws_toIntS_b1 at h
    refine k_seq ?_
    refine k_sreg (r_go [(0, .d false [.sl none (a0.map eI)]), (3, .ov false [.sl (some 3) (x3.1.map eI)]), (4, .p (.int .i64 x3.2)), (11, .p (.bool (decide (x3.2 < (a0.length : Int)))))] [(2, {n := some a0.length})] [(a0.map eI).length = a0.length] (by kernel_rfl) ⟨(List.length_map ..), trivial⟩) ?_
    refine k_cond (b := (decide (x3.2 < (a0.length : Int)))) (by kernel_rfl) (fun hc5_4 => ?_) (fun hc5_4 => ?_)
    · replace h := ite_t hc5_4 h
      refine k_skip ?_
      refine q_n ?_
      refine k_seq ?_
      refine k_block ?_
      replace h := bind_some' h
      obtain ⟨v6, hv6, h⟩ := h
      replace h := bind_some' h
      obtain ⟨v7, hv7, h⟩ := h
      refine k_reg (r_go [(0, .d false [.sl none (a0.map eI)]), (3, .ov false [.sl (some 3) ((x3.1.set (Int.toNat x3.2) v6).map eI)]), (4, .p (.int .i64 x3.2))] [(4, {row := some [.raw (.int .i64 v6)]}), (6, {row := some [.raw (.int .i64 v7)]}), (7, {row := some [.raw (.int .i64 v7)], fix := some (3, .ov false [.sl (some 3) ((x3.1.set (Int.toNat x3.2) v6).map eI)])})] [0 ≤ x3.2, (a0.map eI)[(Int.toNat x3.2)]? = some [.raw (.int .i64 v6)], 0 ≤ x3.2, (x3.1.map eI)[(Int.toNat x3.2)]? = some [.raw (.int .i64 v7)], getRow [[.sl (some 3) (x3.1.map eI)]] [(0, 0), ((Int.toNat x3.2), 0)] = some [.raw (.int .i64 v7)], (SV.ov false [.sl (some 3) (setL (x3.1.map eI) [((Int.toNat x3.2), 0)] [.raw (.int .i64 v6)])] : SV) = .ov false [.sl (some 3) ((x3.1.set (Int.toNat x3.2) v6).map eI)]] (by kernel_rfl) ⟨(idxO_some hv6).1, (map_get eI (idxO_some hv6).2), (idxO_some hv7).1, (map_get eI (idxO_some hv7).2), ((gr0 rfl).trans (gre (map_get eI (idxO_some hv7).2))), (congrArg (fun z => SV.ov false [.sl (some 3) z]) (set1 (f := eI) (y := v6) (idxO_some hv7).2 rfl)), trivial⟩) ?_
      refine b_n ?_
      refine q_n ?_
      refine k_reg (r_go [(0, .d false [.sl none (a0.map eI)]), (3, .ov false [.sl (some 3) ((x3.1.set (Int.toNat x3.2) v6).map eI)]), (4, .p (.int .i64 (w64 (x3.2 + 1))))] [] [] (by kernel_rfl) trivial) ?_
      exact lq_n ((x3.1.set (Int.toNat x3.2) v6), (w64 (x3.2 + 1))) (Option.some.inj h).symm (wk_of (by kernel_rfl) (by kernel_rfl))
    · replace h := ite_f hc5_4 h
      refine k_exit ?_
      refine q_x ?_
      refine lq_x ?_
      refine b_x ?_
      have hyy := hy_x3 _ (Option.some.inj h).symm
      subst hyy
      have h := hk_x3
      refine q_n ?_
      exact ⟨x3.1, h, (wk_of (by kernel_rfl) (by kernel_rfl))⟩
theorem wk_laws_toIntSS {a0 : (List (List Int))}  {r : (List (List Int))} (h : laws_toIntSS a0 = some r) : Meets Try.prog 25 [.d false [.sl none (a0.map (eF eI))]] { vals := [.ov false [.sl (some 22) (r.map (eO 3 eI))]] } := by
  refine Meets_ofL (by kernel_rfl) Try.func25 rfl (by kernel_rfl) (l0 := [(0, .d false [.sl none (a0.map (eF eI))])]) (by kernel_rfl) ?_
  unfold laws_toIntSS at h
  refine k_sreg (r_go [(0, .d false [.sl none (a0.map (eF eI))])] [] [] (by kernel_rfl) trivial) ?_
  replace h := bind_some' h
  obtain ⟨u1, hu1, h⟩ := h
  refine k_sreg (r_go [(0, .d false [.sl none (a0.map (eF eI))]), (3, .ov false [.sl (some 22) ((List.replicate (Int.toNat (a0.length : Int)) ([] : (List Int))).map (eO 3 eI))])] [(1, {n := some a0.length}), (2, {fix := some (7, .ov false [.sl (some 22) ((List.replicate (Int.toNat (a0.length : Int)) ([] : (List Int))).map (eO 3 eI))])})] [(a0.map (eF eI)).length = a0.length, (a0.length : Int) = (a0.length : Int), 0 ≤ (a0.length : Int), (a0.length : Int) ≤ 1099511627776, (SV.ov false [.sl (some 22) (List.replicate (Int.toNat (a0.length : Int)) [.sl (some 3) []])] : SV) = .ov false [.sl (some 22) ((List.replicate (Int.toNat (a0.length : Int)) ([] : (List Int))).map (eO 3 eI))]] (by kernel_rfl) ⟨(List.length_map ..), rfl, (guardO_some hu1).1, (guardO_some hu1).2, (congrArg (fun z => SV.ov false [.sl (some 22) z]) (rep_fix (eO 3 eI) ([] : (List Int)))), trivial⟩) ?_
  refine k_join (J := fun (x : (List (List Int))) => [(3, .ov false [.sl (some 22) (x.map (eO 3 eI))])]) (K := fun x => laws_toIntSS_k1 x = some r) (fun x2 h => ?_) ?_
  · unfold laws_toIntSS_k1 at h
    refine k_sreg (r_go [(2, .ov false [.sl (some 22) (x2.map (eO 3 eI))])] [] [] (by kernel_rfl) trivial) ?_
    refine k_ret ?_
    obtain rfl := Option.some.inj h
    exact e_ret (ls := [(.ov false [.sl (some 22) (x2.map (eO 3 eI))], 2)]) (by kernel_rfl) rfl (by kernel_rfl) rfl
  · refine k_sreg (r_go [(0, .d false [.sl none (a0.map (eF eI))]), (3, .ov false [.sl (some 22) ((List.replicate (Int.toNat (a0.length : Int)) ([] : (List Int))).map (eO 3 eI))]), (4, .p (.int .i64 0))] [] [] (by kernel_rfl) trivial) ?_
    refine k_block ?_
    obtain ⟨y4, hl_x3, hk_x3⟩ := bind_some' h
    clear h
    refine k_loop (J := fun (x : ((List (List Int)) × Int)) => [(0, .d false [.sl none (a0.map (eF eI))]), (3, .ov false [.sl (some 22) (x.1.map (eO 3 eI))]), (4, .p (.int .i64 x.2))]) hl_x3 (wk_of (by kernel_rfl) (by kernel_rfl)) (fun x3 o_x3 h hy_x3 => ?_)
    unfold laws_toIntSS_b1 at h
    refine k_seq ?_
    refine k_sreg (r_go [(0, .d false [.sl none (a0.map (eF eI))]), (3, .ov false [.sl (some 22) (x3.1.map (eO 3 eI))]), (4, .p (.int .i64 x3.2)), (11, .p (.bool (decide (x3.2 < (a0.length : Int)))))] [(2, {n := some a0.length})] [(a0.map (eF eI)).length = a0.length] (by kernel_rfl) ⟨(List.length_map ..), trivial⟩) ?_
    refine k_cond (b := (decide (x3.2 < (a0.length : Int)))) (by kernel_rfl) (fun hc5_4 => ?_) (fun hc5_4 => ?_)
    · replace h := ite_t hc5_4 h
      refine k_skip ?_
      refine q_n ?_
      refine k_seq ?_
      refine k_block ?_
      replace h := bind_some' h
      obtain ⟨v6, hv6, h⟩ := h
      replace h := bind_some' h
      obtain ⟨v7, hv7, h⟩ := h
      replace h := bind_some' h
      obtain ⟨v8, hv8, h⟩ := h
      refine k_reg (r_go [(0, .d false [.sl none (a0.map (eF eI))]), (3, .ov false [.sl (some 22) ((x3.1.set (Int.toNat x3.2) v7).map (eO 3 eI))]), (4, .p (.int .i64 x3.2))] [(4, {row := some [.sl none (v6.map eI)]}), (6, {call := some ([.d false [.sl none (v6.map eI)]], [.ov false [.sl (some 3) (v7.map eI)]], true)}), (7, {row := some [.sl (some 3) (v8.map eI)]}), (8, {row := some [.sl (some 3) (v8.map eI)], fix := some (3, .ov false [.sl (some 22) ((x3.1.set (Int.toNat x3.2) v7).map (eO 3 eI))])})] [0 ≤ x3.2, (a0.map (eF eI))[(Int.toNat x3.2)]? = some [.sl none (v6.map eI)], ([.d false [.sl none (v6.map eI)]] : List Arg) = [.d false [.sl none (v6.map eI)]], Meets Try.prog 16 ([.d false [.sl none (v6.map eI)]] ++ []) { vals := [.ov false [.sl (some 3) (v7.map eI)]] }, List.all [.ov false [.sl (some 3) (v7.map eI)]] simpleR = true, 0 ≤ x3.2, (x3.1.map (eO 3 eI))[(Int.toNat x3.2)]? = some [.sl (some 3) (v8.map eI)], getRow [[.sl (some 22) (x3.1.map (eO 3 eI))]] [(0, 0), ((Int.toNat x3.2), 0)] = some [.sl (some 3) (v8.map eI)], (SV.ov false [.sl (some 22) (setL (x3.1.map (eO 3 eI)) [((Int.toNat x3.2), 0)] [.sl (some 3) (v7.map eI)])] : SV) = .ov false [.sl (some 22) ((x3.1.set (Int.toNat x3.2) v7).map (eO 3 eI))]] (by kernel_rfl) ⟨(idxO_some hv6).1, (map_get (eF eI) (idxO_some hv6).2), rfl, (wk_laws_toIntS hv7), (sa_o (wnR1 (wnL_enc wn_I) rfl) rfl), (idxO_some hv8).1, (map_get (eO 3 eI) (idxO_some hv8).2), ((gr0 rfl).trans (gre (map_get (eO 3 eI) (idxO_some hv8).2))), (congrArg (fun z => SV.ov false [.sl (some 22) z]) (set1 (f := (eO 3 eI)) (y := v7) (idxO_some hv8).2 rfl)), trivial⟩) ?_
      refine b_n ?_
      refine q_n ?_
      refine k_reg (r_go [(0, .d false [.sl none (a0.map (eF eI))]), (3, .ov false [.sl (some 22) ((x3.1.set (Int.toNat x3.2) v7).map (eO 3 eI))]), (4, .p (.int .i64 (w64 (x3.2 + 1))))] [] [] (by kernel_rfl) trivial) ?_
      exact lq_n ((x3.1.set (Int.toNat x3.2) v7), (w64 (x3.2 + 1))) (Option.some.inj h).symm (wk_of (by kernel_rfl) (by kernel_rfl))
    · replace h := ite_f hc5_4 h
      refine k_exit ?_
      refine q_x ?_
      refine lq_x ?_
      refine b_x ?_
      have hyy := hy_x3 _ (Option.some.inj h).symm
      subst hyy
      have h := hk_x3
      refine q_n ?_
      exact ⟨x3.1, h, (wk_of (by kernel_rfl) (by kernel_rfl))⟩
theorem wk_spec_l1In {a0 : Int} {a1 : Int} {a2 : Int}  {r : Bool} (h : spec_l1In a0 a1 a2 = some r) : Meets Try.prog 86 [.v (.int .i64 a0), .v (.int .i64 a1), .v (.int .i64 a2)] { vals := [.p (.bool r)] } := by
  refine Meets_ofL (by kernel_rfl) Try.func86 rfl (by kernel_rfl) (l0 := [(0, .p (.int .i64 a0)), (1, .p (.int .i64 a1)), (2, .p (.int .i64 a2))]) (by kernel_rfl) ?_
  unfold spec_l1In at h
  refine k_sreg (r_go [(0, .p (.int .i64 a0)), (1, .p (.int .i64 a1)), (2, .p (.int .i64 a2))] [] [] (by kernel_rfl) trivial) ?_
  refine k_sreg (l1 := [(6, .p (.bool ((decide (a0 ≥ a1)) && (decide (a0 ≤ a2)))))]) ?_ ?_
  · rcases Bool.eq_false_or_eq_true (decide (a0 ≥ a1)) with ha0 | ha0
    · exact RegOk.of_eq (l2 := [(6, .p (.bool ((decide (a0 ≥ a1)) && (decide (a0 ≤ a2)))))]) (r_go [(6, .p (.bool (decide (a0 ≤ a2))))] [(4, {g := some true}), (5, {g := some true}), (6, {g := some true}), (7, {b := some true})] [(decide (a0 ≥ a1)) = true, (decide (a0 ≥ a1)) = true, (decide (a0 ≥ a1)) = true, (decide (a0 ≥ a1)) = true] (by kernel_rfl) ⟨ha0, ha0, ha0, ha0, trivial⟩) (by simp [ha0])
    · exact RegOk.of_eq (l2 := [(6, .p (.bool ((decide (a0 ≥ a1)) && (decide (a0 ≤ a2)))))]) (r_go [(6, .p (.bool false))] [(4, {g := some false}), (5, {g := some false}), (6, {g := some false}), (7, {b := some false})] [(decide (a0 ≥ a1)) = false, (decide (a0 ≥ a1)) = false, (decide (a0 ≥ a1)) = false, (decide (a0 ≥ a1)) = false] (by kernel_rfl) ⟨ha0, ha0, ha0, ha0, trivial⟩) (by simp [ha0])
  · refine k_ret ?_
    obtain rfl := Option.some.inj h
    exact e_ret (ls := [(.p (.bool ((decide (a0 ≥ a1)) && (decide (a0 ≤ a2)))), 6)]) (by kernel_rfl) rfl (by kernel_rfl) rfl
theorem wk_spec_l1All {a0 : (List Int)} {a1 : Int} {a2 : Int}  {r : Bool} (h : spec_l1All a0 a1 a2 = some r) : Meets Try.prog 87 [.d false [.sl none (a0.map eI)], .v (.int .i64 a1), .v (.int .i64 a2)] { vals := [.p (.bool r)] } := by
  refine Meets_ofL (by kernel_rfl) Try.func87 rfl (by kernel_rfl) (l0 := [(0, .d false [.sl none (a0.map eI)]), (1, .p (.int .i64 a1)), (2, .p (.int .i64 a2))]) (by kernel_rfl) ?_
  unfold spec_l1All at h
  refine k_sreg (r_go [(0, .d false [.sl none (a0.map eI)]), (1, .p (.int .i64 a1)), (2, .p (.int .i64 a2))] [] [] (by kernel_rfl) trivial) ?_
  refine k_join (J := fun (x : Unit) => []) (K := fun x => spec_l1All_k1 x = some r) (fun x1 h => ?_) ?_
  · unfold spec_l1All_k1 at h
    refine k_sreg (r_go [(6, .p (.bool true))] [] [] (by kernel_rfl) trivial) ?_
    refine k_ret ?_
    obtain rfl := Option.some.inj h
    exact e_ret (ls := [(.p (.bool true), 6)]) (by kernel_rfl) rfl (by kernel_rfl) rfl
  · refine k_sreg (r_go [(1, .p (.int .i64 a1)), (2, .p (.int .i64 a2)), (9, .d false [.sl none (a0.map eI)]), (10, .p (.int .i64 (a0.length : Int))), (11, .p (.int .i64 0))] [(1, {n := some a0.length})] [(a0.map eI).length = a0.length] (by kernel_rfl) ⟨(List.length_map ..), trivial⟩) ?_
    refine k_block ?_
    obtain ⟨y3, hl_x2, hk_x2⟩ := bind_some' h
    clear h
    refine k_loop (J := fun (x : Int) => [(1, .p (.int .i64 a1)), (2, .p (.int .i64 a2)), (9, .d false [.sl none (a0.map eI)]), (10, .p (.int .i64 (a0.length : Int))), (11, .p (.int .i64 x))]) hl_x2 (wk_of (by kernel_rfl) (by kernel_rfl)) (fun x2 o_x2 h hy_x2 => ?_)
    unfold spec_l1All_b1 at h
    refine k_sreg (r_go [(1, .p (.int .i64 a1)), (2, .p (.int .i64 a2)), (9, .d false [.sl none (a0.map eI)]), (10, .p (.int .i64 (a0.length : Int))), (11, .p (.int .i64 x2)), (12, .p (.bool (decide (x2 < (a0.length : Int)))))] [] [] (by kernel_rfl) trivial) ?_
    refine k_seq ?_
    refine k_cond (b := (decide (x2 < (a0.length : Int)))) (by kernel_rfl) (fun hc5_3 => ?_) (fun hc5_3 => ?_)
    · replace h := ite_t hc5_3 h
      refine k_skip ?_
      refine q_n ?_
      refine k_seq ?_
      refine k_block ?_
      replace h := bind_some' h
      obtain ⟨v5, hv5, h⟩ := h
      refine k_sreg (r_go [(1, .p (.int .i64 a1)), (2, .p (.int .i64 a2)), (8, .p (.int .i64 v5)), (9, .d false [.sl none (a0.map eI)]), (10, .p (.int .i64 (a0.length : Int))), (11, .p (.int .i64 x2))] [(0, {row := some [.raw (.int .i64 v5)]})] [0 ≤ x2, (a0.map eI)[(Int.toNat x2)]? = some [.raw (.int .i64 v5)]] (by kernel_rfl) ⟨(idxO_some hv5).1, (map_get eI (idxO_some hv5).2), trivial⟩) ?_
      replace h := bind_some' h
      obtain ⟨v6, hv6, h⟩ := h
      refine k_sreg (r_go [(1, .p (.int .i64 a1)), (2, .p (.int .i64 a2)), (9, .d false [.sl none (a0.map eI)]), (10, .p (.int .i64 (a0.length : Int))), (11, .p (.int .i64 x2)), (19, .p (.bool (!v6)))] [(3, {call := some ([.v (.int .i64 v5), .v (.int .i64 a1), .v (.int .i64 a2)], [.p (.bool v6)], true)})] [([.v (.int .i64 v5), .v (.int .i64 a1), .v (.int .i64 a2)] : List Arg) = [.v (.int .i64 v5), .v (.int .i64 a1), .v (.int .i64 a2)], Meets Try.prog 86 ([.v (.int .i64 v5), .v (.int .i64 a1), .v (.int .i64 a2)] ++ []) { vals := [.p (.bool v6)] }, List.all [.p (.bool v6)] simpleR = true] (by kernel_rfl) ⟨rfl, (wk_spec_l1In hv6), rfl, trivial⟩) ?_
      refine k_cond (b := (!v6)) (by kernel_rfl) (fun hc6_6 => ?_) (fun hc6_6 => ?_)
      · replace h := ite_t hc6_6 h
        refine k_sreg (r_go [(6, .p (.bool false))] [] [] (by kernel_rfl) trivial) ?_
        refine k_ret ?_
        refine b_r ?_
        refine q_r ?_
        refine lq_r ?_
        refine b_r ?_
        refine q_r ?_
        have hyy := hy_x2 _ (Option.some.inj h).symm
        subst hyy
        have h := hk_x2
        dsimp only [Sum.elim] at h
        obtain rfl := Option.some.inj h
        exact e_ret (ls := [(.p (.bool false), 6)]) (by kernel_rfl) rfl (by kernel_rfl) rfl
      · replace h := ite_f hc6_6 h
        refine k_skip ?_
        refine b_n ?_
        refine q_n ?_
        refine k_reg (r_go [(1, .p (.int .i64 a1)), (2, .p (.int .i64 a2)), (9, .d false [.sl none (a0.map eI)]), (10, .p (.int .i64 (a0.length : Int))), (11, .p (.int .i64 (w64 (x2 + 1))))] [] [] (by kernel_rfl) trivial) ?_
        exact lq_n (w64 (x2 + 1)) (Option.some.inj h).symm (wk_of (by kernel_rfl) (by kernel_rfl))
    · replace h := ite_f hc5_3 h
      refine k_exit ?_
      refine q_x ?_
      refine lq_x ?_
      refine b_x ?_
      have hyy := hy_x2 _ (Option.some.inj h).symm
      subst hyy
      have h := hk_x2
      dsimp only [Sum.elim] at h
      refine q_n ?_
      exact ⟨(), h, (wk_of (by kernel_rfl) (by kernel_rfl))⟩
theorem wk_spec_grGood {a0 : (List (List Int))}  {r : Bool} (h : spec_grGood a0 = some r) : Meets Try.prog 63 [.d false [.sl none (a0.map (eF eI))]] { vals := [.p (.bool r)] } := by
  refine Meets_ofL (by kernel_rfl) Try.func63 rfl (by kernel_rfl) (l0 := [(0, .d false [.sl none (a0.map (eF eI))])]) (by kernel_rfl) ?_
  unfold spec_grGood at h
  refine k_sreg (r_go [(0, .d false [.sl none (a0.map (eF eI))])] [] [] (by kernel_rfl) trivial) ?_
  refine k_seq ?_
  replace h := bind_some' h
  obtain ⟨v1, hv1, h⟩ := h
  refine k_sreg (r_go [(0, .d false [.sl none (a0.map (eF eI))]), (8, .p (.bool (!v1)))] [(1, {n := some a0.length}), (2, {call := some ([.v (.int .i64 (a0.length : Int)), .v (.int .i64 1), .v (.int .i64 8)], [.p (.bool v1)], true)})] [(a0.map (eF eI)).length = a0.length, ([.v (.int .i64 (a0.length : Int)), .v (.int .i64 1), .v (.int .i64 8)] : List Arg) = [.v (.int .i64 (a0.length : Int)), .v (.int .i64 1), .v (.int .i64 8)], Meets Try.prog 86 ([.v (.int .i64 (a0.length : Int)), .v (.int .i64 1), .v (.int .i64 8)] ++ []) { vals := [.p (.bool v1)] }, List.all [.p (.bool v1)] simpleR = true] (by kernel_rfl) ⟨(List.length_map ..), rfl, (wk_spec_l1In hv1), rfl, trivial⟩) ?_
  refine k_cond (b := (!v1)) (by kernel_rfl) (fun hc2_1 => ?_) (fun hc2_1 => ?_)
  · replace h := ite_t hc2_1 h
    refine k_sreg (r_go [(2, .p (.bool false))] [] [] (by kernel_rfl) trivial) ?_
    refine k_ret ?_
    refine q_r ?_
    obtain rfl := Option.some.inj h
    exact e_ret (ls := [(.p (.bool false), 2)]) (by kernel_rfl) rfl (by kernel_rfl) rfl
  · replace h := ite_f hc2_1 h
    refine k_skip ?_
    refine q_n ?_
    refine k_join (J := fun (x : Unit) => []) (K := fun x => spec_grGood_k1 x = some r) (fun x3 h => ?_) ?_
    · unfold spec_grGood_k1 at h
      refine k_sreg (r_go [(2, .p (.bool true))] [] [] (by kernel_rfl) trivial) ?_
      refine k_ret ?_
      obtain rfl := Option.some.inj h
      exact e_ret (ls := [(.p (.bool true), 2)]) (by kernel_rfl) rfl (by kernel_rfl) rfl
    · refine k_sreg (r_go [(0, .d false [.sl none (a0.map (eF eI))]), (9, .d false [.sl none (a0.map (eF eI))]), (10, .p (.int .i64 (a0.length : Int))), (11, .p (.int .i64 0))] [(1, {n := some a0.length})] [(a0.map (eF eI)).length = a0.length] (by kernel_rfl) ⟨(List.length_map ..), trivial⟩) ?_
      refine k_block ?_
      obtain ⟨y5, hl_x4, hk_x4⟩ := bind_some' h
      clear h
      refine k_loop (J := fun (x : Int) => [(0, .d false [.sl none (a0.map (eF eI))]), (9, .d false [.sl none (a0.map (eF eI))]), (10, .p (.int .i64 (a0.length : Int))), (11, .p (.int .i64 x))]) hl_x4 (wk_of (by kernel_rfl) (by kernel_rfl)) (fun x4 o_x4 h hy_x4 => ?_)
      unfold spec_grGood_b1 at h
      refine k_sreg (r_go [(0, .d false [.sl none (a0.map (eF eI))]), (9, .d false [.sl none (a0.map (eF eI))]), (10, .p (.int .i64 (a0.length : Int))), (11, .p (.int .i64 x4)), (12, .p (.bool (decide (x4 < (a0.length : Int)))))] [] [] (by kernel_rfl) trivial) ?_
      refine k_seq ?_
      refine k_cond (b := (decide (x4 < (a0.length : Int)))) (by kernel_rfl) (fun hc5_5 => ?_) (fun hc5_5 => ?_)
      · replace h := ite_t hc5_5 h
        refine k_skip ?_
        refine q_n ?_
        refine k_seq ?_
        refine k_block ?_
        replace h := bind_some' h
        obtain ⟨v7, hv7, h⟩ := h
        refine k_sreg (r_go [(0, .d false [.sl none (a0.map (eF eI))]), (4, .d false [.sl none (v7.map eI)]), (9, .d false [.sl none (a0.map (eF eI))]), (10, .p (.int .i64 (a0.length : Int))), (11, .p (.int .i64 x4))] [(0, {row := some [.sl none (v7.map eI)]})] [0 ≤ x4, (a0.map (eF eI))[(Int.toNat x4)]? = some [.sl none (v7.map eI)]] (by kernel_rfl) ⟨(idxO_some hv7).1, (map_get (eF eI) (idxO_some hv7).2), trivial⟩) ?_
        replace h := bind_some' h
        obtain ⟨w9, hw9, h⟩ := h
        refine k_sreg (l1 := [(0, .d false [.sl none (a0.map (eF eI))]), (9, .d false [.sl none (a0.map (eF eI))]), (10, .p (.int .i64 (a0.length : Int))), (11, .p (.int .i64 x4)), (24, .p (.bool w9))]) ?_ ?_
        · clear h
          rcases Bool.eq_false_or_eq_true ((v7.length : Int) != (a0.length : Int)) with ha2 | ha2
          · replace hw9 := ite_t ha2 hw9
            have hw9 := Option.some.inj hw9
            subst hw9
            exact (r_go [(0, .d false [.sl none (a0.map (eF eI))]), (9, .d false [.sl none (a0.map (eF eI))]), (10, .p (.int .i64 (a0.length : Int))), (11, .p (.int .i64 x4)), (24, .p (.bool true))] [(1, {n := some v7.length}), (3, {n := some a0.length}), (6, {g := some true}), (7, {g := some true}), (8, {g := some true}), (9, {b := some true})] [(v7.map eI).length = v7.length, (a0.map (eF eI)).length = a0.length, ((v7.length : Int) != (a0.length : Int)) = true, ((v7.length : Int) != (a0.length : Int)) = true, ((v7.length : Int) != (a0.length : Int)) = true, ((v7.length : Int) != (a0.length : Int)) = true] (by kernel_rfl) ⟨(List.length_map ..), (List.length_map ..), ha2, ha2, ha2, ha2, trivial⟩)
          · replace hw9 := ite_f ha2 hw9
            replace hw9 := bind_some' hw9
            obtain ⟨v8, hv8, hw9⟩ := hw9
            have hw9 := Option.some.inj hw9
            subst hw9
            exact (r_go [(0, .d false [.sl none (a0.map (eF eI))]), (9, .d false [.sl none (a0.map (eF eI))]), (10, .p (.int .i64 (a0.length : Int))), (11, .p (.int .i64 x4)), (24, .p (.bool (!v8)))] [(1, {n := some v7.length}), (3, {n := some a0.length}), (6, {g := some false}), (7, {g := some false, call := some ([.d false [.sl none (v7.map eI)], .v (.int .i64 0), .v (.int .i64 9)], [.p (.bool v8)], true)}), (8, {g := some false}), (9, {b := some false})] [(v7.map eI).length = v7.length, (a0.map (eF eI)).length = a0.length, ((v7.length : Int) != (a0.length : Int)) = false, ((v7.length : Int) != (a0.length : Int)) = false, ([.d false [.sl none (v7.map eI)], .v (.int .i64 0), .v (.int .i64 9)] : List Arg) = [.d false [.sl none (v7.map eI)], .v (.int .i64 0), .v (.int .i64 9)], Meets Try.prog 87 ([.d false [.sl none (v7.map eI)], .v (.int .i64 0), .v (.int .i64 9)] ++ []) { vals := [.p (.bool v8)] }, List.all [.p (.bool v8)] simpleR = true, ((v7.length : Int) != (a0.length : Int)) = false, ((v7.length : Int) != (a0.length : Int)) = false] (by kernel_rfl) ⟨(List.length_map ..), (List.length_map ..), ha2, ha2, rfl, (wk_spec_l1All hv8), rfl, ha2, ha2, trivial⟩)
        · refine k_cond (b := w9) (by kernel_rfl) (fun hc6_9 => ?_) (fun hc6_9 => ?_)
          · replace h := ite_t hc6_9 h
            refine k_sreg (r_go [(2, .p (.bool false))] [] [] (by kernel_rfl) trivial) ?_
            refine k_ret ?_
            refine b_r ?_
            refine q_r ?_
            refine lq_r ?_
            refine b_r ?_
            refine q_r ?_
            have hyy := hy_x4 _ (Option.some.inj h).symm
            subst hyy
            have h := hk_x4
            dsimp only [Sum.elim] at h
            obtain rfl := Option.some.inj h
            exact e_ret (ls := [(.p (.bool false), 2)]) (by kernel_rfl) rfl (by kernel_rfl) rfl
          · replace h := ite_f hc6_9 h
            refine k_skip ?_
            refine b_n ?_
            refine q_n ?_
            refine k_reg (r_go [(0, .d false [.sl none (a0.map (eF eI))]), (9, .d false [.sl none (a0.map (eF eI))]), (10, .p (.int .i64 (a0.length : Int))), (11, .p (.int .i64 (w64 (x4 + 1))))] [] [] (by kernel_rfl) trivial) ?_
            exact lq_n (w64 (x4 + 1)) (Option.some.inj h).symm (wk_of (by kernel_rfl) (by kernel_rfl))
      · replace h := ite_f hc5_5 h
        refine k_exit ?_
        refine q_x ?_
        refine lq_x ?_
        refine b_x ?_
        have hyy := hy_x4 _ (Option.some.inj h).symm
        subst hyy
        have h := hk_x4
        dsimp only [Sum.elim] at h
        refine q_n ?_
        exact ⟨(), h, (wk_of (by kernel_rfl) (by kernel_rfl))⟩
theorem wk_spec_zeLength {a0 : Int}  {r : Bool} (h : spec_zeLength a0 = some r) : Meets Try.prog 70 [.v (.int .i64 a0)] { vals := [.p (.bool r)] } := by
  refine Meets_ofL (by kernel_rfl) Try.func70 rfl (by kernel_rfl) (l0 := [(0, .p (.int .i64 a0))]) (by kernel_rfl) ?_
  unfold spec_zeLength at h
  refine k_sreg (r_go [(0, .p (.int .i64 a0))] [] [] (by kernel_rfl) trivial) ?_
  replace h := bind_some' h
  obtain ⟨v1, hv1, h⟩ := h
  refine k_sreg (r_go [(2, .p (.bool v1))] [(1, {call := some ([.v (.int .i64 a0), .v (.int .i64 1), .v (.int .i64 12)], [.p (.bool v1)], true)})] [([.v (.int .i64 a0), .v (.int .i64 1), .v (.int .i64 12)] : List Arg) = [.v (.int .i64 a0), .v (.int .i64 1), .v (.int .i64 12)], Meets Try.prog 86 ([.v (.int .i64 a0), .v (.int .i64 1), .v (.int .i64 12)] ++ []) { vals := [.p (.bool v1)] }, List.all [.p (.bool v1)] simpleR = true] (by kernel_rfl) ⟨rfl, (wk_spec_l1In hv1), rfl, trivial⟩) ?_
  refine k_ret ?_
  obtain rfl := Option.some.inj h
  exact e_ret (ls := [(.p (.bool v1), 2)]) (by kernel_rfl) rfl (by kernel_rfl) rfl
theorem wk_spec_l1Least {a0 : Int} {a1 : Int}  {r : Int} (h : spec_l1Least a0 a1 = some r) : Meets Try.prog 126 [.v (.int .i64 a0), .v (.int .i64 a1)] { vals := [.p (.int .i64 r)] } := by
  refine Meets_ofL (by kernel_rfl) Try.func126 rfl (by kernel_rfl) (l0 := [(0, .p (.int .i64 a0)), (1, .p (.int .i64 a1))]) (by kernel_rfl) ?_
  unfold spec_l1Least at h
  refine k_sreg (r_go [(0, .p (.int .i64 a0)), (1, .p (.int .i64 a1))] [] [] (by kernel_rfl) trivial) ?_
  refine k_seq ?_
  refine k_sreg (r_go [(0, .p (.int .i64 a0)), (1, .p (.int .i64 a1)), (7, .p (.bool (decide (a0 < a1))))] [] [] (by kernel_rfl) trivial) ?_
  refine k_cond (b := (decide (a0 < a1))) (by kernel_rfl) (fun hc2_0 => ?_) (fun hc2_0 => ?_)
  · replace h := ite_t hc2_0 h
    refine k_sreg (r_go [(4, .p (.int .i64 a0))] [] [] (by kernel_rfl) trivial) ?_
    refine k_ret ?_
    refine q_r ?_
    obtain rfl := Option.some.inj h
    exact e_ret (ls := [(.p (.int .i64 a0), 4)]) (by kernel_rfl) rfl (by kernel_rfl) rfl
  · replace h := ite_f hc2_0 h
    refine k_skip ?_
    refine q_n ?_
    refine k_sreg (r_go [(4, .p (.int .i64 a1))] [] [] (by kernel_rfl) trivial) ?_
    refine k_ret ?_
    obtain rfl := Option.some.inj h
    exact e_ret (ls := [(.p (.int .i64 a1), 4)]) (by kernel_rfl) rfl (by kernel_rfl) rfl
theorem wk_spec_grCap {a0 : Int}  {r : Int} (h : spec_grCap a0 = some r) : Meets Try.prog 98 [.v (.int .i64 a0)] { vals := [.p (.int .i64 r)] } := by
  refine Meets_ofL (by kernel_rfl) Try.func98 rfl (by kernel_rfl) (l0 := [(0, .p (.int .i64 a0))]) (by kernel_rfl) ?_
  unfold spec_grCap at h
  refine k_sreg (r_go [(0, .p (.int .i64 a0))] [] [] (by kernel_rfl) trivial) ?_
  replace h := bind_some' h
  obtain ⟨v1, hv1, h⟩ := h
  refine k_sreg (r_go [(2, .p (.int .i64 v1))] [(1, {call := some ([.v (.int .i64 a0), .v (.int .i64 1000000001)], [.p (.int .i64 v1)], true)})] [([.v (.int .i64 a0), .v (.int .i64 1000000001)] : List Arg) = [.v (.int .i64 a0), .v (.int .i64 1000000001)], Meets Try.prog 126 ([.v (.int .i64 a0), .v (.int .i64 1000000001)] ++ []) { vals := [.p (.int .i64 v1)] }, List.all [.p (.int .i64 v1)] simpleR = true] (by kernel_rfl) ⟨rfl, (wk_spec_l1Least hv1), rfl, trivial⟩) ?_
  refine k_ret ?_
  obtain rfl := Option.some.inj h
  exact e_ret (ls := [(.p (.int .i64 v1), 2)]) (by kernel_rfl) rfl (by kernel_rfl) rfl
theorem wk_spec_grPower {a0 : (List (List Int))} {a1 : Int}  {r : (List (List Int))} (h : spec_grPower a0 a1 = some r) : Meets Try.prog 97 [.d false [.sl none (a0.map (eF eI))], .v (.int .i64 a1)] { vals := [.ov false [.sl (some 22) (r.map (eO 3 eI))]] } := by
  refine Meets_ofL (by kernel_rfl) Try.func97 rfl (by kernel_rfl) (l0 := [(0, .d false [.sl none (a0.map (eF eI))]), (1, .p (.int .i64 a1))]) (by kernel_rfl) ?_
  unfold spec_grPower at h
  refine k_sreg (r_go [(0, .d false [.sl none (a0.map (eF eI))]), (1, .p (.int .i64 a1))] [] [] (by kernel_rfl) trivial) ?_
  refine k_sreg (r_go [(0, .d false [.sl none (a0.map (eF eI))]), (1, .p (.int .i64 a1)), (5, .ov false [.sl (some 22) []])] [] [] (by kernel_rfl) trivial) ?_
  refine k_join (J := fun (x : (List (List Int))) => [(0, .d false [.sl none (a0.map (eF eI))]), (1, .p (.int .i64 a1)), (5, .ov false [.sl (some 22) (x.map (eO 3 eI))])]) (K := fun x => spec_grPower_k1 a0 a1 x = some r) (fun x1 h => ?_) ?_
  · unfold spec_grPower_k1 at h
    refine k_join (J := fun (x : (List (List Int))) => [(5, .ov false [.sl (some 22) (x.map (eO 3 eI))])]) (K := fun x => spec_grPower_k2 x = some r) (fun x2 h => ?_) ?_
    · unfold spec_grPower_k2 at h
      refine k_sreg (r_go [(4, .ov false [.sl (some 22) (x2.map (eO 3 eI))])] [] [] (by kernel_rfl) trivial) ?_
      refine k_ret ?_
      obtain rfl := Option.some.inj h
      exact e_ret (ls := [(.ov false [.sl (some 22) (x2.map (eO 3 eI))], 4)]) (by kernel_rfl) rfl (by kernel_rfl) rfl
    · refine k_block ?_
      obtain ⟨y4, hl_x3, hk_x3⟩ := bind_some' h
      clear h
      refine k_loop (J := fun (x : (Int × (List (List Int)))) => [(0, .d false [.sl none (a0.map (eF eI))]), (1, .p (.int .i64 x.1)), (5, .ov false [.sl (some 22) (x.2.map (eO 3 eI))])]) hl_x3 (wk_of (by kernel_rfl) (by kernel_rfl)) (fun x3 o_x3 h hy_x3 => ?_)
      unfold spec_grPower_b1 at h
      refine k_seq ?_
      refine k_sreg (r_go [(0, .d false [.sl none (a0.map (eF eI))]), (1, .p (.int .i64 x3.1)), (5, .ov false [.sl (some 22) (x3.2.map (eO 3 eI))]), (31, .p (.bool (decide (x3.1 > 0))))] [] [] (by kernel_rfl) trivial) ?_
      refine k_cond (b := (decide (x3.1 > 0))) (by kernel_rfl) (fun hc5_4 => ?_) (fun hc5_4 => ?_)
      · replace h := ite_t hc5_4 h
        refine k_skip ?_
        refine q_n ?_
        refine k_join (J := fun (x : (List (List Int))) => [(0, .d false [.sl none (a0.map (eF eI))]), (1, .p (.int .i64 x3.1)), (5, .ov false [.sl (some 22) (x.map (eO 3 eI))])]) (K := fun x => spec_grPower_k3 x3 x = some o_x3) (fun x6 h => ?_) ?_
        · unfold spec_grPower_k3 at h
          refine k_reg (r_go [(0, .d false [.sl none (a0.map (eF eI))]), (1, .p (.int .i64 (w64 (x3.1 - 1)))), (5, .ov false [.sl (some 22) (x6.map (eO 3 eI))])] [] [] (by kernel_rfl) trivial) ?_
          exact lq_n ((w64 (x3.1 - 1)), x6) (Option.some.inj h).symm (wk_of (by kernel_rfl) (by kernel_rfl))
        · refine k_block ?_
          refine k_sreg (r_go [(0, .d false [.sl none (a0.map (eF eI))]), (1, .p (.int .i64 x3.1)), (5, .ov false [.sl (some 22) (x3.2.map (eO 3 eI))]), (7, .ov false [.sl (some 22) []])] [] [] (by kernel_rfl) trivial) ?_
          refine k_join (J := fun (x : (List (List Int))) => [(0, .d false [.sl none (a0.map (eF eI))]), (1, .p (.int .i64 x3.1)), (7, .ov false [.sl (some 22) (x.map (eO 3 eI))])]) (K := fun x => spec_grPower_k4 x3 x = some o_x3) (fun x7 h => ?_) ?_
          · unfold spec_grPower_k4 at h
            refine k_reg (r_go [(0, .d false [.sl none (a0.map (eF eI))]), (1, .p (.int .i64 x3.1)), (5, .ov false [.sl (some 22) (x7.map (eO 3 eI))])] [] [] (by kernel_rfl) trivial) ?_
            refine b_n ?_
            refine q_n ?_
            exact ⟨x7, h, (wk_of (by kernel_rfl) (by kernel_rfl))⟩
          · refine k_sreg (r_go [(0, .d false [.sl none (a0.map (eF eI))]), (1, .p (.int .i64 x3.1)), (5, .ov false [.sl (some 22) (x3.2.map (eO 3 eI))]), (7, .ov false [.sl (some 22) []]), (35, .p (.int .i64 (a0.length : Int))), (36, .p (.int .i64 0))] [(1, {n := some a0.length})] [(a0.map (eF eI)).length = a0.length] (by kernel_rfl) ⟨(List.length_map ..), trivial⟩) ?_
            refine k_block ?_
            obtain ⟨y9, hl_x8, hk_x8⟩ := bind_some' h
            clear h
            refine k_loop (J := fun (x : ((List (List Int)) × Int)) => [(0, .d false [.sl none (a0.map (eF eI))]), (1, .p (.int .i64 x3.1)), (5, .ov false [.sl (some 22) (x3.2.map (eO 3 eI))]), (7, .ov false [.sl (some 22) (x.1.map (eO 3 eI))]), (35, .p (.int .i64 (a0.length : Int))), (36, .p (.int .i64 x.2))]) hl_x8 (wk_of (by kernel_rfl) (by kernel_rfl)) (fun x8 o_x8 h hy_x8 => ?_)
            unfold spec_grPower_b2 at h
            refine k_sreg (r_go [(0, .d false [.sl none (a0.map (eF eI))]), (1, .p (.int .i64 x3.1)), (5, .ov false [.sl (some 22) (x3.2.map (eO 3 eI))]), (7, .ov false [.sl (some 22) (x8.1.map (eO 3 eI))]), (35, .p (.int .i64 (a0.length : Int))), (36, .p (.int .i64 x8.2)), (37, .p (.bool (decide (x8.2 < (a0.length : Int)))))] [] [] (by kernel_rfl) trivial) ?_
            refine k_seq ?_
            refine k_cond (b := (decide (x8.2 < (a0.length : Int)))) (by kernel_rfl) (fun hc10_9 => ?_) (fun hc10_9 => ?_)
            · replace h := ite_t hc10_9 h
              refine k_skip ?_
              refine q_n ?_
              refine k_join (J := fun (x : (List (List Int))) => [(0, .d false [.sl none (a0.map (eF eI))]), (1, .p (.int .i64 x3.1)), (5, .ov false [.sl (some 22) (x3.2.map (eO 3 eI))]), (7, .ov false [.sl (some 22) (x.map (eO 3 eI))]), (35, .p (.int .i64 (a0.length : Int))), (36, .p (.int .i64 x8.2))]) (K := fun x => spec_grPower_k5 x8 x = some o_x8) (fun x11 h => ?_) ?_
              · unfold spec_grPower_k5 at h
                refine k_reg (r_go [(0, .d false [.sl none (a0.map (eF eI))]), (1, .p (.int .i64 x3.1)), (5, .ov false [.sl (some 22) (x3.2.map (eO 3 eI))]), (7, .ov false [.sl (some 22) (x11.map (eO 3 eI))]), (35, .p (.int .i64 (a0.length : Int))), (36, .p (.int .i64 (w64 (x8.2 + 1))))] [] [] (by kernel_rfl) trivial) ?_
                exact lq_n (x11, (w64 (x8.2 + 1))) (Option.some.inj h).symm (wk_of (by kernel_rfl) (by kernel_rfl))
              · refine k_block ?_
                refine k_sreg (r_go [(0, .d false [.sl none (a0.map (eF eI))]), (1, .p (.int .i64 x3.1)), (5, .ov false [.sl (some 22) (x3.2.map (eO 3 eI))]), (7, .ov false [.sl (some 22) (x8.1.map (eO 3 eI))]), (8, .p (.int .i64 x8.2)), (35, .p (.int .i64 (a0.length : Int))), (36, .p (.int .i64 x8.2))] [] [] (by kernel_rfl) trivial) ?_
                replace h := bind_some' h
                obtain ⟨u12, hu12, h⟩ := h
                refine k_sreg (r_go [(0, .d false [.sl none (a0.map (eF eI))]), (1, .p (.int .i64 x3.1)), (5, .ov false [.sl (some 22) (x3.2.map (eO 3 eI))]), (7, .ov false [.sl (some 22) (x8.1.map (eO 3 eI))]), (8, .p (.int .i64 x8.2)), (9, .ov false [.sl (some 3) ((List.replicate (Int.toNat (a0.length : Int)) (0 : Int)).map eI)]), (35, .p (.int .i64 (a0.length : Int))), (36, .p (.int .i64 x8.2))] [(1, {n := some a0.length}), (2, {fix := some (41, .ov false [.sl (some 3) ((List.replicate (Int.toNat (a0.length : Int)) (0 : Int)).map eI)])})] [(a0.map (eF eI)).length = a0.length, (a0.length : Int) = (a0.length : Int), 0 ≤ (a0.length : Int), (a0.length : Int) ≤ 1099511627776, (SV.ov false [.sl (some 3) (List.replicate (Int.toNat (a0.length : Int)) [.raw (.int .i64 0)])] : SV) = .ov false [.sl (some 3) ((List.replicate (Int.toNat (a0.length : Int)) (0 : Int)).map eI)]] (by kernel_rfl) ⟨(List.length_map ..), rfl, (guardO_some hu12).1, (guardO_some hu12).2, (congrArg (fun z => SV.ov false [.sl (some 3) z]) (rep_fix eI (0 : Int))), trivial⟩) ?_
                refine k_join (J := fun (x : (List Int)) => [(0, .d false [.sl none (a0.map (eF eI))]), (1, .p (.int .i64 x3.1)), (5, .ov false [.sl (some 22) (x3.2.map (eO 3 eI))]), (7, .ov false [.sl (some 22) (x8.1.map (eO 3 eI))]), (9, .ov false [.sl (some 3) (x.map eI)]), (35, .p (.int .i64 (a0.length : Int))), (36, .p (.int .i64 x8.2))]) (K := fun x => spec_grPower_k6 x8 x = some o_x8) (fun x13 h => ?_) ?_
                · unfold spec_grPower_k6 at h
                  replace h := bind_some' h
                  obtain ⟨u14, hu14, h⟩ := h
                  refine k_reg (r_go [(0, .d false [.sl none (a0.map (eF eI))]), (1, .p (.int .i64 x3.1)), (5, .ov false [.sl (some 22) (x3.2.map (eO 3 eI))]), (7, .ov false [.sl (some 22) ((x8.1 ++ [x13]).map (eO 3 eI))]), (35, .p (.int .i64 (a0.length : Int))), (36, .p (.int .i64 x8.2))] [(3, {fix := some (81, .ov false [.sl (some 22) ((x8.1 ++ [x13]).map (eO 3 eI))])})] [List.length ((x8.1.map (eO 3 eI)) : List (List C)) + List.length ((([x13]).map (eO 3 eI)) : List (List C)) ≤ 1099511627776, ∀ row ∈ ((([x13]).map (eO 3 eI)) : List (List C)), row.length = 1, (SV.ov false [.sl (some 22) ((x8.1.map (eO 3 eI)) ++ (([x13]).map (eO 3 eI)))] : SV) = .ov false [.sl (some 22) ((x8.1 ++ [x13]).map (eO 3 eI))]] (by kernel_rfl) ⟨(by have hg := (guardO_some hu14); simpa using hg), (rows_len fun _ => rfl), (congrArg (fun z => SV.ov false [.sl (some 22) z]) (List.map_append ..).symm), trivial⟩) ?_
                  refine b_n ?_
                  refine q_n ?_
                  exact ⟨(x8.1 ++ [x13]), h, (wk_of (by kernel_rfl) (by kernel_rfl))⟩
                · refine k_sreg (r_go [(0, .d false [.sl none (a0.map (eF eI))]), (1, .p (.int .i64 x3.1)), (5, .ov false [.sl (some 22) (x3.2.map (eO 3 eI))]), (7, .ov false [.sl (some 22) (x8.1.map (eO 3 eI))]), (8, .p (.int .i64 x8.2)), (9, .ov false [.sl (some 3) ((List.replicate (Int.toNat (a0.length : Int)) (0 : Int)).map eI)]), (35, .p (.int .i64 (a0.length : Int))), (36, .p (.int .i64 x8.2)), (43, .p (.int .i64 (a0.length : Int))), (44, .p (.int .i64 0))] [(1, {n := some a0.length})] [(a0.map (eF eI)).length = a0.length] (by kernel_rfl) ⟨(List.length_map ..), trivial⟩) ?_
                  refine k_block ?_
                  obtain ⟨y16, hl_x15, hk_x15⟩ := bind_some' h
                  clear h
                  refine k_loop (J := fun (x : ((List Int) × Int)) => [(0, .d false [.sl none (a0.map (eF eI))]), (1, .p (.int .i64 x3.1)), (5, .ov false [.sl (some 22) (x3.2.map (eO 3 eI))]), (7, .ov false [.sl (some 22) (x8.1.map (eO 3 eI))]), (8, .p (.int .i64 x8.2)), (9, .ov false [.sl (some 3) (x.1.map eI)]), (35, .p (.int .i64 (a0.length : Int))), (36, .p (.int .i64 x8.2)), (43, .p (.int .i64 (a0.length : Int))), (44, .p (.int .i64 x.2))]) hl_x15 (wk_of (by kernel_rfl) (by kernel_rfl)) (fun x15 o_x15 h hy_x15 => ?_)
                  unfold spec_grPower_b3 at h
                  refine k_sreg (r_go [(0, .d false [.sl none (a0.map (eF eI))]), (1, .p (.int .i64 x3.1)), (5, .ov false [.sl (some 22) (x3.2.map (eO 3 eI))]), (7, .ov false [.sl (some 22) (x8.1.map (eO 3 eI))]), (8, .p (.int .i64 x8.2)), (9, .ov false [.sl (some 3) (x15.1.map eI)]), (35, .p (.int .i64 (a0.length : Int))), (36, .p (.int .i64 x8.2)), (43, .p (.int .i64 (a0.length : Int))), (44, .p (.int .i64 x15.2)), (45, .p (.bool (decide (x15.2 < (a0.length : Int)))))] [] [] (by kernel_rfl) trivial) ?_
                  refine k_seq ?_
                  refine k_cond (b := (decide (x15.2 < (a0.length : Int)))) (by kernel_rfl) (fun hc15_16 => ?_) (fun hc15_16 => ?_)
                  · replace h := ite_t hc15_16 h
                    refine k_skip ?_
                    refine q_n ?_
                    refine k_join (J := fun (x : (List Int)) => [(0, .d false [.sl none (a0.map (eF eI))]), (1, .p (.int .i64 x3.1)), (5, .ov false [.sl (some 22) (x3.2.map (eO 3 eI))]), (7, .ov false [.sl (some 22) (x8.1.map (eO 3 eI))]), (8, .p (.int .i64 x8.2)), (9, .ov false [.sl (some 3) (x.map eI)]), (35, .p (.int .i64 (a0.length : Int))), (36, .p (.int .i64 x8.2)), (43, .p (.int .i64 (a0.length : Int))), (44, .p (.int .i64 x15.2))]) (K := fun x => spec_grPower_k7 x15 x = some o_x15) (fun x18 h => ?_) ?_
                    · unfold spec_grPower_k7 at h
                      refine k_reg (r_go [(0, .d false [.sl none (a0.map (eF eI))]), (1, .p (.int .i64 x3.1)), (5, .ov false [.sl (some 22) (x3.2.map (eO 3 eI))]), (7, .ov false [.sl (some 22) (x8.1.map (eO 3 eI))]), (8, .p (.int .i64 x8.2)), (9, .ov false [.sl (some 3) (x18.map eI)]), (35, .p (.int .i64 (a0.length : Int))), (36, .p (.int .i64 x8.2)), (43, .p (.int .i64 (a0.length : Int))), (44, .p (.int .i64 (w64 (x15.2 + 1))))] [] [] (by kernel_rfl) trivial) ?_
                      exact lq_n (x18, (w64 (x15.2 + 1))) (Option.some.inj h).symm (wk_of (by kernel_rfl) (by kernel_rfl))
                    · refine k_block ?_
                      refine k_sreg (r_go [(0, .d false [.sl none (a0.map (eF eI))]), (1, .p (.int .i64 x3.1)), (5, .ov false [.sl (some 22) (x3.2.map (eO 3 eI))]), (7, .ov false [.sl (some 22) (x8.1.map (eO 3 eI))]), (8, .p (.int .i64 x8.2)), (9, .ov false [.sl (some 3) (x15.1.map eI)]), (10, .p (.int .i64 x15.2)), (35, .p (.int .i64 (a0.length : Int))), (36, .p (.int .i64 x8.2)), (43, .p (.int .i64 (a0.length : Int))), (44, .p (.int .i64 x15.2))] [] [] (by kernel_rfl) trivial) ?_
                      refine k_sreg (r_go [(0, .d false [.sl none (a0.map (eF eI))]), (1, .p (.int .i64 x3.1)), (5, .ov false [.sl (some 22) (x3.2.map (eO 3 eI))]), (7, .ov false [.sl (some 22) (x8.1.map (eO 3 eI))]), (8, .p (.int .i64 x8.2)), (9, .ov false [.sl (some 3) (x15.1.map eI)]), (10, .p (.int .i64 x15.2)), (35, .p (.int .i64 (a0.length : Int))), (36, .p (.int .i64 x8.2)), (43, .p (.int .i64 (a0.length : Int))), (44, .p (.int .i64 x15.2)), (48, .p (.int .i64 (a0.length : Int))), (49, .p (.int .i64 0))] [(1, {n := some a0.length})] [(a0.map (eF eI)).length = a0.length] (by kernel_rfl) ⟨(List.length_map ..), trivial⟩) ?_
                      refine k_block ?_
                      obtain ⟨y20, hl_x19, hk_x19⟩ := bind_some' h
                      clear h
                      refine k_loop (J := fun (x : ((List Int) × Int)) => [(0, .d false [.sl none (a0.map (eF eI))]), (1, .p (.int .i64 x3.1)), (5, .ov false [.sl (some 22) (x3.2.map (eO 3 eI))]), (7, .ov false [.sl (some 22) (x8.1.map (eO 3 eI))]), (8, .p (.int .i64 x8.2)), (9, .ov false [.sl (some 3) (x.1.map eI)]), (10, .p (.int .i64 x15.2)), (35, .p (.int .i64 (a0.length : Int))), (36, .p (.int .i64 x8.2)), (43, .p (.int .i64 (a0.length : Int))), (44, .p (.int .i64 x15.2)), (48, .p (.int .i64 (a0.length : Int))), (49, .p (.int .i64 x.2))]) hl_x19 (wk_of (by kernel_rfl) (by kernel_rfl)) (fun x19 o_x19 h hy_x19 => ?_)
                      unfold spec_grPower_b4 at h
                      refine k_sreg (r_go [(0, .d false [.sl none (a0.map (eF eI))]), (1, .p (.int .i64 x3.1)), (5, .ov false [.sl (some 22) (x3.2.map (eO 3 eI))]), (7, .ov false [.sl (some 22) (x8.1.map (eO 3 eI))]), (8, .p (.int .i64 x8.2)), (9, .ov false [.sl (some 3) (x19.1.map eI)]), (10, .p (.int .i64 x15.2)), (35, .p (.int .i64 (a0.length : Int))), (36, .p (.int .i64 x8.2)), (43, .p (.int .i64 (a0.length : Int))), (44, .p (.int .i64 x15.2)), (48, .p (.int .i64 (a0.length : Int))), (49, .p (.int .i64 x19.2)), (50, .p (.bool (decide (x19.2 < (a0.length : Int)))))] [] [] (by kernel_rfl) trivial) ?_
                      refine k_seq ?_
                      refine k_cond (b := (decide (x19.2 < (a0.length : Int)))) (by kernel_rfl) (fun hc19_20 => ?_) (fun hc19_20 => ?_)
                      · replace h := ite_t hc19_20 h
                        refine k_skip ?_
                        refine q_n ?_
                        refine k_seq ?_
                        refine k_block ?_
                        refine k_sreg (r_go [(0, .d false [.sl none (a0.map (eF eI))]), (1, .p (.int .i64 x3.1)), (5, .ov false [.sl (some 22) (x3.2.map (eO 3 eI))]), (7, .ov false [.sl (some 22) (x8.1.map (eO 3 eI))]), (8, .p (.int .i64 x8.2)), (9, .ov false [.sl (some 3) (x19.1.map eI)]), (10, .p (.int .i64 x15.2)), (11, .p (.int .i64 x19.2)), (35, .p (.int .i64 (a0.length : Int))), (36, .p (.int .i64 x8.2)), (43, .p (.int .i64 (a0.length : Int))), (44, .p (.int .i64 x15.2)), (48, .p (.int .i64 (a0.length : Int))), (49, .p (.int .i64 x19.2))] [] [] (by kernel_rfl) trivial) ?_
                        replace h := bind_some' h
                        obtain ⟨v22, hv22, h⟩ := h
                        replace h := bind_some' h
                        obtain ⟨v23, hv23, h⟩ := h
                        replace h := bind_some' h
                        obtain ⟨v24, hv24, h⟩ := h
                        replace h := bind_some' h
                        obtain ⟨v25, hv25, h⟩ := h
                        replace h := bind_some' h
                        obtain ⟨v26, hv26, h⟩ := h
                        replace h := bind_some' h
                        obtain ⟨v27, hv27, h⟩ := h
                        refine k_reg (r_draw Try_mixed 23 [] [(0, .d false [.sl none (a0.map (eF eI))]), (1, .p (.int .i64 x3.1)), (5, .ov false [.sl (some 22) (x3.2.map (eO 3 eI))]), (7, .ov false [.sl (some 22) (x8.1.map (eO 3 eI))]), (8, .p (.int .i64 x8.2)), (9, .ov false [.sl (some 3) ((x19.1.set (Int.toNat x15.2) v27).map eI)]), (10, .p (.int .i64 x15.2)), (35, .p (.int .i64 (a0.length : Int))), (36, .p (.int .i64 x8.2)), (43, .p (.int .i64 (a0.length : Int))), (44, .p (.int .i64 x15.2)), (48, .p (.int .i64 (a0.length : Int))), (49, .p (.int .i64 x19.2))] [(4, {row := some [.raw (.int .i64 v22)]}), (5, {row := some [.raw (.int .i64 v22)]}), (8, {row := some [.sl (some 3) (v23.map eI)]}), (9, {row := some [.sl (some 3) (v23.map eI)]}), (11, {deep := some [.sl (some 3) (v23.map eI)], row := some [.raw (.int .i64 v24)]}), (12, {row := some [.raw (.int .i64 v24)]}), (15, {row := some [.sl none (v25.map eI)]}), (18, {row := some [.raw (.int .i64 v26)]}), (22, {call := some ([.v (.int .i64 (w64 (v22 + (w64 (v24 * v26)))))], [.p (.int .i64 v27)], true)}), (23, {row := some [.raw (.int .i64 v22)]}), (24, {row := some [.raw (.int .i64 v22)], fix := some (9, .ov false [.sl (some 3) ((x19.1.set (Int.toNat x15.2) v27).map eI)])})] [0 ≤ x15.2, (x19.1.map eI)[(Int.toNat x15.2)]? = some [.raw (.int .i64 v22)], getRow [[.sl (some 3) (x19.1.map eI)]] [(0, 0), ((Int.toNat x15.2), 0)] = some [.raw (.int .i64 v22)], 0 ≤ x8.2, (x3.2.map (eO 3 eI))[(Int.toNat x8.2)]? = some [.sl (some 3) (v23.map eI)], frR [.sl (some 3) (v23.map eI)] = false, getRow [[.sl (some 22) (x3.2.map (eO 3 eI))]] [(0, 0), ((Int.toNat x8.2), 0)] = some [.sl (some 3) (v23.map eI)], 0 ≤ x19.2, (v23.map eI)[(Int.toNat x19.2)]? = some [.raw (.int .i64 v24)], getRow [[.sl (some 22) (x3.2.map (eO 3 eI))]] [(0, 0), ((Int.toNat x8.2), 0)] = some [.sl (some 3) (v23.map eI)], getRow [[.sl (some 22) (x3.2.map (eO 3 eI))]] [(0, 0), ((Int.toNat x8.2), 0), ((Int.toNat x19.2), 0)] = some [.raw (.int .i64 v24)], 0 ≤ x19.2, (a0.map (eF eI))[(Int.toNat x19.2)]? = some [.sl none (v25.map eI)], 0 ≤ x15.2, (v25.map eI)[(Int.toNat x15.2)]? = some [.raw (.int .i64 v26)], ([.v (.int .i64 (w64 (v22 + (w64 (v24 * v26)))))] : List Arg) = [.v (.int .i64 (w64 (v22 + (w64 (v24 * v26)))))], Meets Try.prog 98 ([.v (.int .i64 (w64 (v22 + (w64 (v24 * v26)))))] ++ []) { vals := [.p (.int .i64 v27)] }, List.all [.p (.int .i64 v27)] simpleR = true, 0 ≤ x15.2, (x19.1.map eI)[(Int.toNat x15.2)]? = some [.raw (.int .i64 v22)], getRow [[.sl (some 3) (x19.1.map eI)]] [(0, 0), ((Int.toNat x15.2), 0)] = some [.raw (.int .i64 v22)], (SV.ov false [.sl (some 3) (setL (x19.1.map eI) [((Int.toNat x15.2), 0)] [.raw (.int .i64 v27)])] : SV) = .ov false [.sl (some 3) ((x19.1.set (Int.toNat x15.2) v27).map eI)]] (by kernel_rfl) ⟨(idxO_some hv22).1, (map_get eI (idxO_some hv22).2), ((gr0 rfl).trans (gre (map_get eI (idxO_some hv22).2))), (idxO_some hv23).1, (map_get (eO 3 eI) (idxO_some hv23).2), rfl, ((gr0 rfl).trans (gre (map_get (eO 3 eI) (idxO_some hv23).2))), (idxO_some hv24).1, (map_get eI (idxO_some hv24).2), ((gr0 rfl).trans (gre (map_get (eO 3 eI) (idxO_some hv23).2))), ((gr0 rfl).trans ((grs (map_get (eO 3 eI) (idxO_some hv23).2) rfl).trans (gre (map_get eI (idxO_some hv24).2)))), (idxO_some hv25).1, (map_get (eF eI) (idxO_some hv25).2), (idxO_some hv26).1, (map_get eI (idxO_some hv26).2), rfl, (wk_spec_grCap hv27), rfl, (idxO_some hv22).1, (map_get eI (idxO_some hv22).2), ((gr0 rfl).trans (gre (map_get eI (idxO_some hv22).2))), (congrArg (fun z => SV.ov false [.sl (some 3) z]) (set1 (f := eI) (y := v27) (idxO_some hv22).2 rfl)), trivial⟩) ?_
                        refine b_n ?_
                        refine q_n ?_
                        refine k_reg (r_go [(0, .d false [.sl none (a0.map (eF eI))]), (1, .p (.int .i64 x3.1)), (5, .ov false [.sl (some 22) (x3.2.map (eO 3 eI))]), (7, .ov false [.sl (some 22) (x8.1.map (eO 3 eI))]), (8, .p (.int .i64 x8.2)), (9, .ov false [.sl (some 3) ((x19.1.set (Int.toNat x15.2) v27).map eI)]), (10, .p (.int .i64 x15.2)), (35, .p (.int .i64 (a0.length : Int))), (36, .p (.int .i64 x8.2)), (43, .p (.int .i64 (a0.length : Int))), (44, .p (.int .i64 x15.2)), (48, .p (.int .i64 (a0.length : Int))), (49, .p (.int .i64 (w64 (x19.2 + 1))))] [] [] (by kernel_rfl) trivial) ?_
                        exact lq_n ((x19.1.set (Int.toNat x15.2) v27), (w64 (x19.2 + 1))) (Option.some.inj h).symm (wk_of (by kernel_rfl) (by kernel_rfl))
                      · replace h := ite_f hc19_20 h
                        refine k_exit ?_
                        refine q_x ?_
                        refine lq_x ?_
                        refine b_x ?_
                        refine b_n ?_
                        have hyy := hy_x19 _ (Option.some.inj h).symm
                        subst hyy
                        have h := hk_x19
                        refine q_n ?_
                        exact ⟨x19.1, h, (wk_of (by kernel_rfl) (by kernel_rfl))⟩
                  · replace h := ite_f hc15_16 h
                    refine k_exit ?_
                    refine q_x ?_
                    refine lq_x ?_
                    refine b_x ?_
                    have hyy := hy_x15 _ (Option.some.inj h).symm
                    subst hyy
                    have h := hk_x15
                    refine q_n ?_
                    exact ⟨x15.1, h, (wk_of (by kernel_rfl) (by kernel_rfl))⟩
            · replace h := ite_f hc10_9 h
              refine k_exit ?_
              refine q_x ?_
              refine lq_x ?_
              refine b_x ?_
              have hyy := hy_x8 _ (Option.some.inj h).symm
              subst hyy
              have h := hk_x8
              refine q_n ?_
              exact ⟨x8.1, h, (wk_of (by kernel_rfl) (by kernel_rfl))⟩
      · replace h := ite_f hc5_4 h
        refine k_exit ?_
        refine q_x ?_
        refine lq_x ?_
        refine b_x ?_
        have hyy := hy_x3 _ (Option.some.inj h).symm
        subst hyy
        have h := hk_x3
        refine q_n ?_
        exact ⟨x3.2, h, (wk_of (by kernel_rfl) (by kernel_rfl))⟩
  · refine k_sreg (r_go [(0, .d false [.sl none (a0.map (eF eI))]), (1, .p (.int .i64 a1)), (5, .ov false [.sl (some 22) []]), (13, .p (.int .i64 (a0.length : Int))), (14, .p (.int .i64 0))] [(1, {n := some a0.length})] [(a0.map (eF eI)).length = a0.length] (by kernel_rfl) ⟨(List.length_map ..), trivial⟩) ?_
    refine k_block ?_
    obtain ⟨y29, hl_x28, hk_x28⟩ := bind_some' h
    clear h
    refine k_loop (J := fun (x : ((List (List Int)) × Int)) => [(0, .d false [.sl none (a0.map (eF eI))]), (1, .p (.int .i64 a1)), (5, .ov false [.sl (some 22) (x.1.map (eO 3 eI))]), (13, .p (.int .i64 (a0.length : Int))), (14, .p (.int .i64 x.2))]) hl_x28 (wk_of (by kernel_rfl) (by kernel_rfl)) (fun x28 o_x28 h hy_x28 => ?_)
    unfold spec_grPower_b5 at h
    refine k_sreg (r_go [(0, .d false [.sl none (a0.map (eF eI))]), (1, .p (.int .i64 a1)), (5, .ov false [.sl (some 22) (x28.1.map (eO 3 eI))]), (13, .p (.int .i64 (a0.length : Int))), (14, .p (.int .i64 x28.2)), (15, .p (.bool (decide (x28.2 < (a0.length : Int)))))] [] [] (by kernel_rfl) trivial) ?_
    refine k_seq ?_
    refine k_cond (b := (decide (x28.2 < (a0.length : Int)))) (by kernel_rfl) (fun hc5_29 => ?_) (fun hc5_29 => ?_)
    · replace h := ite_t hc5_29 h
      refine k_skip ?_
      refine q_n ?_
      refine k_seq ?_
      refine k_block ?_
      refine k_sreg (r_go [(0, .d false [.sl none (a0.map (eF eI))]), (1, .p (.int .i64 a1)), (5, .ov false [.sl (some 22) (x28.1.map (eO 3 eI))]), (6, .p (.int .i64 x28.2)), (13, .p (.int .i64 (a0.length : Int))), (14, .p (.int .i64 x28.2))] [] [] (by kernel_rfl) trivial) ?_
      replace h := bind_some' h
      obtain ⟨u31, hu31, h⟩ := h
      replace h := bind_some' h
      obtain ⟨u32, hu32, h⟩ := h
      refine k_sreg (r_go [(0, .d false [.sl none (a0.map (eF eI))]), (1, .p (.int .i64 a1)), (5, .ov false [.sl (some 22) ((x28.1 ++ [(List.replicate (Int.toNat (a0.length : Int)) (0 : Int))]).map (eO 3 eI))]), (6, .p (.int .i64 x28.2)), (13, .p (.int .i64 (a0.length : Int))), (14, .p (.int .i64 x28.2))] [(2, {n := some a0.length}), (3, {fix := some (20, .ov false [.sl (some 3) ((List.replicate (Int.toNat (a0.length : Int)) (0 : Int)).map eI)])}), (5, {fix := some (22, .ov false [.sl (some 22) ((x28.1 ++ [(List.replicate (Int.toNat (a0.length : Int)) (0 : Int))]).map (eO 3 eI))])})] [(a0.map (eF eI)).length = a0.length, (a0.length : Int) = (a0.length : Int), 0 ≤ (a0.length : Int), (a0.length : Int) ≤ 1099511627776, (SV.ov false [.sl (some 3) (List.replicate (Int.toNat (a0.length : Int)) [.raw (.int .i64 0)])] : SV) = .ov false [.sl (some 3) ((List.replicate (Int.toNat (a0.length : Int)) (0 : Int)).map eI)], List.length ((x28.1.map (eO 3 eI)) : List (List C)) + List.length ((([(List.replicate (Int.toNat (a0.length : Int)) (0 : Int))]).map (eO 3 eI)) : List (List C)) ≤ 1099511627776, ∀ row ∈ ((([(List.replicate (Int.toNat (a0.length : Int)) (0 : Int))]).map (eO 3 eI)) : List (List C)), row.length = 1, (SV.ov false [.sl (some 22) ((x28.1.map (eO 3 eI)) ++ (([(List.replicate (Int.toNat (a0.length : Int)) (0 : Int))]).map (eO 3 eI)))] : SV) = .ov false [.sl (some 22) ((x28.1 ++ [(List.replicate (Int.toNat (a0.length : Int)) (0 : Int))]).map (eO 3 eI))]] (by kernel_rfl) ⟨(List.length_map ..), rfl, (guardO_some hu31).1, (guardO_some hu31).2, (congrArg (fun z => SV.ov false [.sl (some 3) z]) (rep_fix eI (0 : Int))), (by have hg := (guardO_some hu32); simpa using hg), (rows_len fun _ => rfl), (congrArg (fun z => SV.ov false [.sl (some 22) z]) (List.map_append ..).symm), trivial⟩) ?_
      replace h := bind_some' h
      obtain ⟨v33, hv33, h⟩ := h
      replace h := bind_some' h
      obtain ⟨v34, hv34, h⟩ := h
      refine k_reg (r_go [(0, .d false [.sl none (a0.map (eF eI))]), (1, .p (.int .i64 a1)), (5, .ov false [.sl (some 22) (((x28.1 ++ [(List.replicate (Int.toNat (a0.length : Int)) (0 : Int))]).set (Int.toNat x28.2) (v33.set (Int.toNat x28.2) 1)).map (eO 3 eI))]), (13, .p (.int .i64 (a0.length : Int))), (14, .p (.int .i64 x28.2))] [(2, {row := some [.sl (some 3) (v33.map eI)]}), (3, {row := some [.sl (some 3) (v33.map eI)]}), (5, {deep := some [.sl (some 3) (v33.map eI)], row := some [.raw (.int .i64 v34)]}), (6, {row := some [.raw (.int .i64 v34)], fix := some (5, .ov false [.sl (some 22) (((x28.1 ++ [(List.replicate (Int.toNat (a0.length : Int)) (0 : Int))]).set (Int.toNat x28.2) (v33.set (Int.toNat x28.2) 1)).map (eO 3 eI))])})] [0 ≤ x28.2, ((x28.1 ++ [(List.replicate (Int.toNat (a0.length : Int)) (0 : Int))]).map (eO 3 eI))[(Int.toNat x28.2)]? = some [.sl (some 3) (v33.map eI)], frR [.sl (some 3) (v33.map eI)] = false, getRow [[.sl (some 22) ((x28.1 ++ [(List.replicate (Int.toNat (a0.length : Int)) (0 : Int))]).map (eO 3 eI))]] [(0, 0), ((Int.toNat x28.2), 0)] = some [.sl (some 3) (v33.map eI)], 0 ≤ x28.2, (v33.map eI)[(Int.toNat x28.2)]? = some [.raw (.int .i64 v34)], getRow [[.sl (some 22) ((x28.1 ++ [(List.replicate (Int.toNat (a0.length : Int)) (0 : Int))]).map (eO 3 eI))]] [(0, 0), ((Int.toNat x28.2), 0)] = some [.sl (some 3) (v33.map eI)], getRow [[.sl (some 22) ((x28.1 ++ [(List.replicate (Int.toNat (a0.length : Int)) (0 : Int))]).map (eO 3 eI))]] [(0, 0), ((Int.toNat x28.2), 0), ((Int.toNat x28.2), 0)] = some [.raw (.int .i64 v34)], (SV.ov false [.sl (some 22) (setL ((x28.1 ++ [(List.replicate (Int.toNat (a0.length : Int)) (0 : Int))]).map (eO 3 eI)) [((Int.toNat x28.2), 0), ((Int.toNat x28.2), 0)] [.raw (.int .i64 1)])] : SV) = .ov false [.sl (some 22) (((x28.1 ++ [(List.replicate (Int.toNat (a0.length : Int)) (0 : Int))]).set (Int.toNat x28.2) (v33.set (Int.toNat x28.2) 1)).map (eO 3 eI))]] (by kernel_rfl) ⟨(idxO_some hv33).1, (map_get (eO 3 eI) (idxO_some hv33).2), rfl, ((gr0 rfl).trans (gre (map_get (eO 3 eI) (idxO_some hv33).2))), (idxO_some hv34).1, (map_get eI (idxO_some hv34).2), ((gr0 rfl).trans (gre (map_get (eO 3 eI) (idxO_some hv33).2))), ((gr0 rfl).trans ((grs (map_get (eO 3 eI) (idxO_some hv33).2) rfl).trans (gre (map_get eI (idxO_some hv34).2)))), (congrArg (fun z => SV.ov false [.sl (some 22) z]) (set2 (f := (eO 3 eI)) (y := (v33.set (Int.toNat x28.2) 1)) (idxO_some hv33).2 rfl (set1 (f := eI) (y := 1) (idxO_some hv34).2 rfl) rfl)), trivial⟩) ?_
      refine b_n ?_
      refine q_n ?_
      refine k_reg (r_go [(0, .d false [.sl none (a0.map (eF eI))]), (1, .p (.int .i64 a1)), (5, .ov false [.sl (some 22) (((x28.1 ++ [(List.replicate (Int.toNat (a0.length : Int)) (0 : Int))]).set (Int.toNat x28.2) (v33.set (Int.toNat x28.2) 1)).map (eO 3 eI))]), (13, .p (.int .i64 (a0.length : Int))), (14, .p (.int .i64 (w64 (x28.2 + 1))))] [] [] (by kernel_rfl) trivial) ?_
      exact lq_n (((x28.1 ++ [(List.replicate (Int.toNat (a0.length : Int)) (0 : Int))]).set (Int.toNat x28.2) (v33.set (Int.toNat x28.2) 1)), (w64 (x28.2 + 1))) (Option.some.inj h).symm (wk_of (by kernel_rfl) (by kernel_rfl))
    · replace h := ite_f hc5_29 h
      refine k_exit ?_
      refine q_x ?_
      refine lq_x ?_
      refine b_x ?_
      have hyy := hy_x28 _ (Option.some.inj h).symm
      subst hyy
      have h := hk_x28
      refine q_n ?_
      exact ⟨x28.1, h, (wk_of (by kernel_rfl) (by kernel_rfl))⟩
theorem wk_spec_grClosed {a0 : (List (List Int))} {a1 : Int}  {r : Int} (h : spec_grClosed a0 a1 = some r) : Meets Try.prog 104 [.d false [.sl none (a0.map (eF eI))], .v (.int .i64 a1)] { vals := [.p (.int .i64 r)] } := by
  refine Meets_ofL (by kernel_rfl) Try.func104 rfl (by kernel_rfl) (l0 := [(0, .d false [.sl none (a0.map (eF eI))]), (1, .p (.int .i64 a1))]) (by kernel_rfl) ?_
  unfold spec_grClosed at h
  refine k_sreg (r_go [(0, .d false [.sl none (a0.map (eF eI))]), (1, .p (.int .i64 a1))] [] [] (by kernel_rfl) trivial) ?_
  refine k_sreg (r_go [(0, .d false [.sl none (a0.map (eF eI))]), (1, .p (.int .i64 a1)), (5, .p (.int .i64 0))] [] [] (by kernel_rfl) trivial) ?_
  refine k_join (J := fun (x : Int) => [(5, .p (.int .i64 x))]) (K := fun x => spec_grClosed_k1 x = some r) (fun x1 h => ?_) ?_
  · unfold spec_grClosed_k1 at h
    refine k_sreg (r_go [(4, .p (.int .i64 x1))] [] [] (by kernel_rfl) trivial) ?_
    refine k_ret ?_
    obtain rfl := Option.some.inj h
    exact e_ret (ls := [(.p (.int .i64 x1), 4)]) (by kernel_rfl) rfl (by kernel_rfl) rfl
  · replace h := bind_some' h
    obtain ⟨v2, hv2, h⟩ := h
    refine k_sreg (r_go [(5, .p (.int .i64 0)), (10, .ov false [.sl (some 22) (v2.map (eO 3 eI))]), (11, .p (.int .i64 (v2.length : Int))), (12, .p (.int .i64 0))] [(2, {call := some ([.d false [.sl none (a0.map (eF eI))], .v (.int .i64 a1)], [.ov false [.sl (some 22) (v2.map (eO 3 eI))]], true)}), (3, {n := some v2.length})] [([.d false [.sl none (a0.map (eF eI))], .v (.int .i64 a1)] : List Arg) = [.d false [.sl none (a0.map (eF eI))], .v (.int .i64 a1)], Meets Try.prog 97 ([.d false [.sl none (a0.map (eF eI))], .v (.int .i64 a1)] ++ []) { vals := [.ov false [.sl (some 22) (v2.map (eO 3 eI))]] }, List.all [.ov false [.sl (some 22) (v2.map (eO 3 eI))]] simpleR = true, (v2.map (eO 3 eI)).length = v2.length] (by kernel_rfl) ⟨rfl, (wk_spec_grPower hv2), (sa_o (wnR1 (wnL_enc (wn_O wn_I)) rfl) rfl), (List.length_map ..), trivial⟩) ?_
    refine k_block ?_
    obtain ⟨y4, hl_x3, hk_x3⟩ := bind_some' h
    clear h
    refine k_loop (J := fun (x : (Int × Int)) => [(5, .p (.int .i64 x.1)), (10, .ov false [.sl (some 22) (v2.map (eO 3 eI))]), (11, .p (.int .i64 (v2.length : Int))), (12, .p (.int .i64 x.2))]) hl_x3 (wk_of (by kernel_rfl) (by kernel_rfl)) (fun x3 o_x3 h hy_x3 => ?_)
    unfold spec_grClosed_b1 at h
    refine k_sreg (r_go [(5, .p (.int .i64 x3.1)), (10, .ov false [.sl (some 22) (v2.map (eO 3 eI))]), (11, .p (.int .i64 (v2.length : Int))), (12, .p (.int .i64 x3.2)), (13, .p (.bool (decide (x3.2 < (v2.length : Int)))))] [] [] (by kernel_rfl) trivial) ?_
    refine k_seq ?_
    refine k_cond (b := (decide (x3.2 < (v2.length : Int)))) (by kernel_rfl) (fun hc5_4 => ?_) (fun hc5_4 => ?_)
    · replace h := ite_t hc5_4 h
      refine k_skip ?_
      refine q_n ?_
      refine k_seq ?_
      refine k_block ?_
      replace h := bind_some' h
      obtain ⟨v6, hv6, h⟩ := h
      refine k_sreg (r_go [(5, .p (.int .i64 x3.1)), (6, .p (.int .i64 x3.2)), (7, .ref 10 [(0, 0), ((Int.toNat x3.2), 0)] none), (10, .ov false [.sl (some 22) (v2.map (eO 3 eI))]), (11, .p (.int .i64 (v2.length : Int))), (12, .p (.int .i64 x3.2))] [(1, {row := some [.sl (some 3) (v6.map eI)]}), (2, {row := some [.sl (some 3) (v6.map eI)]})] [0 ≤ x3.2, (v2.map (eO 3 eI))[(Int.toNat x3.2)]? = some [.sl (some 3) (v6.map eI)], frR [.sl (some 3) (v6.map eI)] = false, getRow [[.sl (some 22) (v2.map (eO 3 eI))]] [(0, 0), ((Int.toNat x3.2), 0)] = some [.sl (some 3) (v6.map eI)]] (by kernel_rfl) ⟨(idxO_some hv6).1, (map_get (eO 3 eI) (idxO_some hv6).2), rfl, ((gr0 rfl).trans (gre (map_get (eO 3 eI) (idxO_some hv6).2))), trivial⟩) ?_
      replace h := bind_some' h
      obtain ⟨v7, hv7, h⟩ := h
      replace h := bind_some' h
      obtain ⟨v8, hv8, h⟩ := h
      refine k_reg (r_go [(5, .p (.int .i64 v8)), (10, .ov false [.sl (some 22) (v2.map (eO 3 eI))]), (11, .p (.int .i64 (v2.length : Int))), (12, .p (.int .i64 x3.2))] [(3, {deep := some [.sl (some 3) (v6.map eI)], row := some [.raw (.int .i64 v7)]}), (4, {row := some [.raw (.int .i64 v7)]}), (6, {call := some ([.v (.int .i64 (w64 (x3.1 + v7)))], [.p (.int .i64 v8)], true)})] [0 ≤ x3.2, (v6.map eI)[(Int.toNat x3.2)]? = some [.raw (.int .i64 v7)], getRow [[.sl (some 22) (v2.map (eO 3 eI))]] [(0, 0), ((Int.toNat x3.2), 0)] = some [.sl (some 3) (v6.map eI)], getRow [[.sl (some 22) (v2.map (eO 3 eI))]] [(0, 0), ((Int.toNat x3.2), 0), ((Int.toNat x3.2), 0)] = some [.raw (.int .i64 v7)], ([.v (.int .i64 (w64 (x3.1 + v7)))] : List Arg) = [.v (.int .i64 (w64 (x3.1 + v7)))], Meets Try.prog 98 ([.v (.int .i64 (w64 (x3.1 + v7)))] ++ []) { vals := [.p (.int .i64 v8)] }, List.all [.p (.int .i64 v8)] simpleR = true] (by kernel_rfl) ⟨(idxO_some hv7).1, (map_get eI (idxO_some hv7).2), ((gr0 rfl).trans (gre (map_get (eO 3 eI) (idxO_some hv6).2))), ((gr0 rfl).trans ((grs (map_get (eO 3 eI) (idxO_some hv6).2) rfl).trans (gre (map_get eI (idxO_some hv7).2)))), rfl, (wk_spec_grCap hv8), rfl, trivial⟩) ?_
      refine b_n ?_
      refine q_n ?_
      refine k_reg (r_go [(5, .p (.int .i64 v8)), (10, .ov false [.sl (some 22) (v2.map (eO 3 eI))]), (11, .p (.int .i64 (v2.length : Int))), (12, .p (.int .i64 (w64 (x3.2 + 1))))] [] [] (by kernel_rfl) trivial) ?_
      exact lq_n (v8, (w64 (x3.2 + 1))) (Option.some.inj h).symm (wk_of (by kernel_rfl) (by kernel_rfl))
    · replace h := ite_f hc5_4 h
      refine k_exit ?_
      refine q_x ?_
      refine lq_x ?_
      refine b_x ?_
      have hyy := hy_x3 _ (Option.some.inj h).symm
      subst hyy
      have h := hk_x3
      refine q_n ?_
      exact ⟨x3.1, h, (wk_of (by kernel_rfl) (by kernel_rfl))⟩
theorem wk_spec_zeCycles_r {rc : ((List (List Int)) → Int → Option Int)} {a0 : (List (List Int))} {a1 : Int} (hrc : ∀ x0 x1 y, rc x0 x1 = some y → Meets Try.prog 71 [.d false [.sl none (x0.map (eF eI))], .v (.int .i64 x1)] { vals := [.p (.int .i64 y)] }) {r : Int} (h : spec_zeCycles_r rc a0 a1 = some r) : Meets Try.prog 71 [.d false [.sl none (a0.map (eF eI))], .v (.int .i64 a1)] { vals := [.p (.int .i64 r)] } := by
  refine Meets_ofL (by kernel_rfl) Try.func71 rfl (by kernel_rfl) (l0 := [(0, .d false [.sl none (a0.map (eF eI))]), (1, .p (.int .i64 a1))]) (by kernel_rfl) ?_
  unfold spec_zeCycles_r at h
  refine k_sreg (r_go [(0, .d false [.sl none (a0.map (eF eI))]), (1, .p (.int .i64 a1))] [] [] (by kernel_rfl) trivial) ?_
  replace h := bind_some' h
  obtain ⟨v1, hv1, h⟩ := h
  refine k_sreg (r_go [(0, .d false [.sl none (a0.map (eF eI))]), (1, .p (.int .i64 a1)), (5, .p (.int .i64 v1))] [(2, {call := some ([.d false [.sl none (a0.map (eF eI))], .v (.int .i64 a1)], [.p (.int .i64 v1)], true)})] [([.d false [.sl none (a0.map (eF eI))], .v (.int .i64 a1)] : List Arg) = [.d false [.sl none (a0.map (eF eI))], .v (.int .i64 a1)], Meets Try.prog 104 ([.d false [.sl none (a0.map (eF eI))], .v (.int .i64 a1)] ++ []) { vals := [.p (.int .i64 v1)] }, List.all [.p (.int .i64 v1)] simpleR = true] (by kernel_rfl) ⟨rfl, (wk_spec_grClosed hv1), rfl, trivial⟩) ?_
  refine k_seq ?_
  refine k_sreg (r_go [(0, .d false [.sl none (a0.map (eF eI))]), (1, .p (.int .i64 a1)), (5, .p (.int .i64 v1)), (11, .p (.bool (decide (v1 > 1000000000))))] [] [] (by kernel_rfl) trivial) ?_
  refine k_cond (b := (decide (v1 > 1000000000))) (by kernel_rfl) (fun hc2_1 => ?_) (fun hc2_1 => ?_)
  · replace h := ite_t hc2_1 h
    refine k_sreg (r_go [(4, .p (.int .i64 (-1)))] [] [] (by kernel_rfl) trivial) ?_
    refine k_ret ?_
    refine q_r ?_
    obtain rfl := Option.some.inj h
    exact e_ret (ls := [(.p (.int .i64 (-1)), 4)]) (by kernel_rfl) rfl (by kernel_rfl) rfl
  · replace h := ite_f hc2_1 h
    refine k_skip ?_
    refine q_n ?_
    refine k_join (J := fun (x : Int) => [(1, .p (.int .i64 a1)), (5, .p (.int .i64 x))]) (K := fun x => spec_zeCycles_r_k1 a1 x = some r) (fun x3 h => ?_) ?_
    · unfold spec_zeCycles_r_k1 at h
      replace h := bind_some' h
      obtain ⟨u4, hu4, h⟩ := h
      refine k_sreg (r_go [(4, .p (.int .i64 (w64 (Int.tdiv x3 a1))))] [] [a1 ≠ (0 : Int)] (by kernel_rfl) ⟨(guardO_some hu4), trivial⟩) ?_
      refine k_ret ?_
      obtain rfl := Option.some.inj h
      exact e_ret (ls := [(.p (.int .i64 (w64 (Int.tdiv x3 a1))), 4)]) (by kernel_rfl) rfl (by kernel_rfl) rfl
    · refine k_sreg (r_go [(0, .d false [.sl none (a0.map (eF eI))]), (1, .p (.int .i64 a1)), (5, .p (.int .i64 v1)), (6, .p (.int .i64 1))] [] [] (by kernel_rfl) trivial) ?_
      refine k_block ?_
      obtain ⟨y6, hl_x5, hk_x5⟩ := bind_some' h
      clear h
      refine k_loop (J := fun (x : (Int × Int)) => [(0, .d false [.sl none (a0.map (eF eI))]), (1, .p (.int .i64 a1)), (5, .p (.int .i64 x.1)), (6, .p (.int .i64 x.2))]) hl_x5 (wk_of (by kernel_rfl) (by kernel_rfl)) (fun x5 o_x5 h hy_x5 => ?_)
      unfold spec_zeCycles_r_b1 at h
      refine k_seq ?_
      refine k_sreg (r_go [(0, .d false [.sl none (a0.map (eF eI))]), (1, .p (.int .i64 a1)), (5, .p (.int .i64 x5.1)), (6, .p (.int .i64 x5.2)), (14, .p (.bool (decide (x5.2 < a1))))] [] [] (by kernel_rfl) trivial) ?_
      refine k_cond (b := (decide (x5.2 < a1))) (by kernel_rfl) (fun hc5_6 => ?_) (fun hc5_6 => ?_)
      · replace h := ite_t hc5_6 h
        refine k_skip ?_
        refine q_n ?_
        refine k_seq ?_
        refine k_block ?_
        replace h := bind_some' h
        obtain ⟨u8, hu8, h⟩ := h
        refine k_sreg (r_go [(0, .d false [.sl none (a0.map (eF eI))]), (1, .p (.int .i64 a1)), (5, .p (.int .i64 x5.1)), (6, .p (.int .i64 x5.2)), (20, .p (.bool ((Int.tmod a1 x5.2) == 0)))] [] [x5.2 ≠ (0 : Int)] (by kernel_rfl) ⟨(guardO_some hu8), trivial⟩) ?_
        refine k_cond (b := ((Int.tmod a1 x5.2) == 0)) (by kernel_rfl) (fun hc6_8 => ?_) (fun hc6_8 => ?_)
        · replace h := ite_t hc6_8 h
          replace h := bind_some' h
          obtain ⟨v10, hv10, h⟩ := h
          refine k_reg (r_go [(0, .d false [.sl none (a0.map (eF eI))]), (1, .p (.int .i64 a1)), (5, .p (.int .i64 (w64 (x5.1 - (w64 (x5.2 * v10)))))), (6, .p (.int .i64 x5.2))] [(4, {call := some ([.d false [.sl none (a0.map (eF eI))], .v (.int .i64 x5.2)], [.p (.int .i64 v10)], true)})] [([.d false [.sl none (a0.map (eF eI))], .v (.int .i64 x5.2)] : List Arg) = [.d false [.sl none (a0.map (eF eI))], .v (.int .i64 x5.2)], Meets Try.prog 71 ([.d false [.sl none (a0.map (eF eI))], .v (.int .i64 x5.2)] ++ []) { vals := [.p (.int .i64 v10)] }, List.all [.p (.int .i64 v10)] simpleR = true] (by kernel_rfl) ⟨rfl, (hrc _ _ _ hv10), rfl, trivial⟩) ?_
          refine b_n ?_
          refine q_n ?_
          refine k_reg (r_go [(0, .d false [.sl none (a0.map (eF eI))]), (1, .p (.int .i64 a1)), (5, .p (.int .i64 (w64 (x5.1 - (w64 (x5.2 * v10)))))), (6, .p (.int .i64 (w64 (x5.2 + 1))))] [] [] (by kernel_rfl) trivial) ?_
          exact lq_n ((w64 (x5.1 - (w64 (x5.2 * v10)))), (w64 (x5.2 + 1))) (Option.some.inj h).symm (wk_of (by kernel_rfl) (by kernel_rfl))
        · replace h := ite_f hc6_8 h
          refine k_skip ?_
          refine b_n ?_
          refine q_n ?_
          refine k_reg (r_go [(0, .d false [.sl none (a0.map (eF eI))]), (1, .p (.int .i64 a1)), (5, .p (.int .i64 x5.1)), (6, .p (.int .i64 (w64 (x5.2 + 1))))] [] [] (by kernel_rfl) trivial) ?_
          exact lq_n (x5.1, (w64 (x5.2 + 1))) (Option.some.inj h).symm (wk_of (by kernel_rfl) (by kernel_rfl))
      · replace h := ite_f hc5_6 h
        refine k_exit ?_
        refine q_x ?_
        refine lq_x ?_
        refine b_x ?_
        have hyy := hy_x5 _ (Option.some.inj h).symm
        subst hyy
        have h := hk_x5
        refine q_n ?_
        exact ⟨x5.1, h, (wk_of (by kernel_rfl) (by kernel_rfl))⟩
theorem wk_spec_zeCycles_f : ∀ (k : Nat) {a0 : (List (List Int))} {a1 : Int} {r : Int} (h : spec_zeCycles_f k a0 a1 = some r), Meets Try.prog 71 [.d false [.sl none (a0.map (eF eI))], .v (.int .i64 a1)] { vals := [.p (.int .i64 r)] }
  | 0, _, _, _, h => by cases h
  | k + 1, _, _, _, h => wk_spec_zeCycles_r (fun _ _ _ hy => wk_spec_zeCycles_f k hy) h
theorem wk_spec_zeCycles {a0 : (List (List Int))} {a1 : Int} {r : Int} (h : spec_zeCycles a0 a1 = some r) : Meets Try.prog 71 [.d false [.sl none (a0.map (eF eI))], .v (.int .i64 a1)] { vals := [.p (.int .i64 r)] } := by
  obtain ⟨k, hk⟩ := fuelO_some h
  exact wk_spec_zeCycles_f k hk
theorem wk_spec_CycleTable {a0 : (List (List Int))} {a1 : Int}  {r : ((List Int) × Bool)} (h : spec_CycleTable a0 a1 = some r) : Meets Try.prog 45 [.d false [.sl none (a0.map (eF eI))], .v (.int .i64 a1)] { vals := [.ov false [.sl (some 3) (r.1.map eI)], .p (.bool r.2)] } := by
  refine Meets_ofL (by kernel_rfl) Try.func45 rfl (by kernel_rfl) (l0 := [(0, .d false [.sl none (a0.map (eF eI))]), (1, .p (.int .i64 a1))]) (by kernel_rfl) ?_
  unfold spec_CycleTable at h
  refine k_sreg (r_go [(0, .d false [.sl none (a0.map (eF eI))]), (1, .p (.int .i64 a1))] [] [] (by kernel_rfl) trivial) ?_
  refine k_seq ?_
  replace h := bind_some' h
  obtain ⟨v1, hv1, h⟩ := h
  replace h := bind_some' h
  obtain ⟨w3, hw3, h⟩ := h
  refine k_sreg (l1 := [(0, .d false [.sl none (a0.map (eF eI))]), (1, .p (.int .i64 a1)), (16, .p (.bool w3))]) ?_ ?_
  · clear h
    rcases Bool.eq_false_or_eq_true (!v1) with ha0 | ha0
    · replace hw3 := ite_t ha0 hw3
      have hw3 := Option.some.inj hw3
      subst hw3
      exact (r_go [(0, .d false [.sl none (a0.map (eF eI))]), (1, .p (.int .i64 a1)), (16, .p (.bool true))] [(1, {call := some ([.d false [.sl none (a0.map (eF eI))]], [.p (.bool v1)], true)}), (4, {g := some true}), (5, {g := some true}), (6, {g := some true}), (7, {b := some true})] [([.d false [.sl none (a0.map (eF eI))]] : List Arg) = [.d false [.sl none (a0.map (eF eI))]], Meets Try.prog 63 ([.d false [.sl none (a0.map (eF eI))]] ++ []) { vals := [.p (.bool v1)] }, List.all [.p (.bool v1)] simpleR = true, (!v1) = true, (!v1) = true, (!v1) = true, (!v1) = true] (by kernel_rfl) ⟨rfl, (wk_spec_grGood hv1), rfl, ha0, ha0, ha0, ha0, trivial⟩)
    · replace hw3 := ite_f ha0 hw3
      replace hw3 := bind_some' hw3
      obtain ⟨v2, hv2, hw3⟩ := hw3
      have hw3 := Option.some.inj hw3
      subst hw3
      exact (r_go [(0, .d false [.sl none (a0.map (eF eI))]), (1, .p (.int .i64 a1)), (16, .p (.bool (!v2)))] [(1, {call := some ([.d false [.sl none (a0.map (eF eI))]], [.p (.bool v1)], true)}), (4, {g := some false}), (5, {g := some false, call := some ([.v (.int .i64 a1)], [.p (.bool v2)], true)}), (6, {g := some false}), (7, {b := some false})] [([.d false [.sl none (a0.map (eF eI))]] : List Arg) = [.d false [.sl none (a0.map (eF eI))]], Meets Try.prog 63 ([.d false [.sl none (a0.map (eF eI))]] ++ []) { vals := [.p (.bool v1)] }, List.all [.p (.bool v1)] simpleR = true, (!v1) = false, (!v1) = false, ([.v (.int .i64 a1)] : List Arg) = [.v (.int .i64 a1)], Meets Try.prog 70 ([.v (.int .i64 a1)] ++ []) { vals := [.p (.bool v2)] }, List.all [.p (.bool v2)] simpleR = true, (!v1) = false, (!v1) = false] (by kernel_rfl) ⟨rfl, (wk_spec_grGood hv1), rfl, ha0, ha0, rfl, (wk_spec_zeLength hv2), rfl, ha0, ha0, trivial⟩)
  · refine k_cond (b := w3) (by kernel_rfl) (fun hc2_3 => ?_) (fun hc2_3 => ?_)
    · replace h := ite_t hc2_3 h
      refine k_sreg (r_go [(4, .ov false [.sl (some 3) []]), (5, .p (.bool false))] [] [] (by kernel_rfl) trivial) ?_
      refine k_ret ?_
      refine q_r ?_
      obtain rfl := Option.some.inj h
      exact e_ret (ls := [(.ov false [.sl (some 3) []], 4), (.p (.bool false), 5)]) (by kernel_rfl) rfl (by kernel_rfl) rfl
    · replace h := ite_f hc2_3 h
      refine k_skip ?_
      refine q_n ?_
      refine k_sreg (r_go [(0, .d false [.sl none (a0.map (eF eI))]), (1, .p (.int .i64 a1)), (6, .ov false [.sl (some 3) []])] [] [] (by kernel_rfl) trivial) ?_
      refine k_join (J := fun (x : (List Int)) => [(6, .ov false [.sl (some 3) (x.map eI)])]) (K := fun x => spec_CycleTable_k1 x = some r) (fun x5 h => ?_) ?_
      · unfold spec_CycleTable_k1 at h
        refine k_sreg (r_go [(4, .ov false [.sl (some 3) (x5.map eI)]), (5, .p (.bool true))] [] [] (by kernel_rfl) trivial) ?_
        refine k_ret ?_
        obtain rfl := Option.some.inj h
        exact e_ret (ls := [(.ov false [.sl (some 3) (x5.map eI)], 4), (.p (.bool true), 5)]) (by kernel_rfl) rfl (by kernel_rfl) rfl
      · refine k_sreg (r_go [(0, .d false [.sl none (a0.map (eF eI))]), (1, .p (.int .i64 a1)), (6, .ov false [.sl (some 3) []]), (7, .p (.int .i64 1))] [] [] (by kernel_rfl) trivial) ?_
        refine k_block ?_
        obtain ⟨y7, hl_x6, hk_x6⟩ := bind_some' h
        clear h
        refine k_loop (J := fun (x : ((List Int) × Int)) => [(0, .d false [.sl none (a0.map (eF eI))]), (1, .p (.int .i64 a1)), (6, .ov false [.sl (some 3) (x.1.map eI)]), (7, .p (.int .i64 x.2))]) hl_x6 (wk_of (by kernel_rfl) (by kernel_rfl)) (fun x6 o_x6 h hy_x6 => ?_)
        unfold spec_CycleTable_b1 at h
        refine k_seq ?_
        refine k_sreg (r_go [(0, .d false [.sl none (a0.map (eF eI))]), (1, .p (.int .i64 a1)), (6, .ov false [.sl (some 3) (x6.1.map eI)]), (7, .p (.int .i64 x6.2)), (19, .p (.bool (decide (x6.2 ≤ a1))))] [] [] (by kernel_rfl) trivial) ?_
        refine k_cond (b := (decide (x6.2 ≤ a1))) (by kernel_rfl) (fun hc5_7 => ?_) (fun hc5_7 => ?_)
        · replace h := ite_t hc5_7 h
          refine k_skip ?_
          refine q_n ?_
          refine k_seq ?_
          refine k_block ?_
          replace h := bind_some' h
          obtain ⟨v9, hv9, h⟩ := h
          refine k_sreg (r_go [(0, .d false [.sl none (a0.map (eF eI))]), (1, .p (.int .i64 a1)), (6, .ov false [.sl (some 3) (x6.1.map eI)]), (7, .p (.int .i64 x6.2)), (8, .p (.int .i64 v9))] [(2, {call := some ([.d false [.sl none (a0.map (eF eI))], .v (.int .i64 x6.2)], [.p (.int .i64 v9)], true)})] [([.d false [.sl none (a0.map (eF eI))], .v (.int .i64 x6.2)] : List Arg) = [.d false [.sl none (a0.map (eF eI))], .v (.int .i64 x6.2)], Meets Try.prog 71 ([.d false [.sl none (a0.map (eF eI))], .v (.int .i64 x6.2)] ++ []) { vals := [.p (.int .i64 v9)] }, List.all [.p (.int .i64 v9)] simpleR = true] (by kernel_rfl) ⟨rfl, (wk_spec_zeCycles hv9), rfl, trivial⟩) ?_
          refine k_seq ?_
          refine k_sreg (r_go [(0, .d false [.sl none (a0.map (eF eI))]), (1, .p (.int .i64 a1)), (6, .ov false [.sl (some 3) (x6.1.map eI)]), (7, .p (.int .i64 x6.2)), (8, .p (.int .i64 v9)), (26, .p (.bool (decide (v9 < 0))))] [] [] (by kernel_rfl) trivial) ?_
          refine k_cond (b := (decide (v9 < 0))) (by kernel_rfl) (fun hc7_9 => ?_) (fun hc7_9 => ?_)
          · replace h := ite_t hc7_9 h
            refine k_sreg (r_go [(4, .ov false [.sl (some 3) []]), (5, .p (.bool false))] [] [] (by kernel_rfl) trivial) ?_
            refine k_ret ?_
            refine q_r ?_
            refine b_r ?_
            refine q_r ?_
            refine lq_r ?_
            refine b_r ?_
            refine q_r ?_
            have hyy := hy_x6 _ (Option.some.inj h).symm
            subst hyy
            have h := hk_x6
            dsimp only [Sum.elim] at h
            obtain rfl := Option.some.inj h
            exact e_ret (ls := [(.ov false [.sl (some 3) []], 4), (.p (.bool false), 5)]) (by kernel_rfl) rfl (by kernel_rfl) rfl
          · replace h := ite_f hc7_9 h
            refine k_skip ?_
            refine q_n ?_
            replace h := bind_some' h
            obtain ⟨u11, hu11, h⟩ := h
            refine k_reg (r_go [(0, .d false [.sl none (a0.map (eF eI))]), (1, .p (.int .i64 a1)), (6, .ov false [.sl (some 3) ((x6.1 ++ [v9]).map eI)]), (7, .p (.int .i64 x6.2))] [(3, {fix := some (30, .ov false [.sl (some 3) ((x6.1 ++ [v9]).map eI)])})] [List.length ((x6.1.map eI) : List (List C)) + List.length ((([v9]).map eI) : List (List C)) ≤ 1099511627776, ∀ row ∈ ((([v9]).map eI) : List (List C)), row.length = 1, (SV.ov false [.sl (some 3) ((x6.1.map eI) ++ (([v9]).map eI))] : SV) = .ov false [.sl (some 3) ((x6.1 ++ [v9]).map eI)]] (by kernel_rfl) ⟨(by have hg := (guardO_some hu11); simpa using hg), (rows_len fun _ => rfl), (congrArg (fun z => SV.ov false [.sl (some 3) z]) (List.map_append ..).symm), trivial⟩) ?_
            refine b_n ?_
            refine q_n ?_
            refine k_reg (r_go [(0, .d false [.sl none (a0.map (eF eI))]), (1, .p (.int .i64 a1)), (6, .ov false [.sl (some 3) ((x6.1 ++ [v9]).map eI)]), (7, .p (.int .i64 (w64 (x6.2 + 1))))] [] [] (by kernel_rfl) trivial) ?_
            exact lq_n ((x6.1 ++ [v9]), (w64 (x6.2 + 1))) (Option.some.inj h).symm (wk_of (by kernel_rfl) (by kernel_rfl))
        · replace h := ite_f hc5_7 h
          refine k_exit ?_
          refine q_x ?_
          refine lq_x ?_
          refine b_x ?_
          have hyy := hy_x6 _ (Option.some.inj h).symm
          subst hyy
          have h := hk_x6
          dsimp only [Sum.elim] at h
          refine q_n ?_
          exact ⟨x6.1, h, (wk_of (by kernel_rfl) (by kernel_rfl))⟩
theorem wk_impl_within {a0 : Int} {a1 : Int} {a2 : Int}  {r : Bool} (h : impl_within a0 a1 a2 = some r) : Meets Try.prog 76 [.v (.int .i64 a0), .v (.int .i64 a1), .v (.int .i64 a2)] { vals := [.p (.bool r)] } := by
  refine Meets_ofL (by kernel_rfl) Try.func76 rfl (by kernel_rfl) (l0 := [(0, .p (.int .i64 a0)), (1, .p (.int .i64 a1)), (2, .p (.int .i64 a2))]) (by kernel_rfl) ?_
  unfold impl_within at h
  refine k_sreg (r_go [(0, .p (.int .i64 a0)), (1, .p (.int .i64 a1)), (2, .p (.int .i64 a2))] [] [] (by kernel_rfl) trivial) ?_
  refine k_sreg (l1 := [(6, .p (.bool ((decide (a1 ≤ a0)) && (decide (a0 ≤ a2)))))]) ?_ ?_
  · rcases Bool.eq_false_or_eq_true (decide (a1 ≤ a0)) with ha0 | ha0
    · exact RegOk.of_eq (l2 := [(6, .p (.bool ((decide (a1 ≤ a0)) && (decide (a0 ≤ a2)))))]) (r_go [(6, .p (.bool (decide (a0 ≤ a2))))] [(4, {g := some true}), (5, {g := some true}), (6, {g := some true}), (7, {b := some true})] [(decide (a1 ≤ a0)) = true, (decide (a1 ≤ a0)) = true, (decide (a1 ≤ a0)) = true, (decide (a1 ≤ a0)) = true] (by kernel_rfl) ⟨ha0, ha0, ha0, ha0, trivial⟩) (by simp [ha0])
    · exact RegOk.of_eq (l2 := [(6, .p (.bool ((decide (a1 ≤ a0)) && (decide (a0 ≤ a2)))))]) (r_go [(6, .p (.bool false))] [(4, {g := some false}), (5, {g := some false}), (6, {g := some false}), (7, {b := some false})] [(decide (a1 ≤ a0)) = false, (decide (a1 ≤ a0)) = false, (decide (a1 ≤ a0)) = false, (decide (a1 ≤ a0)) = false] (by kernel_rfl) ⟨ha0, ha0, ha0, ha0, trivial⟩) (by simp [ha0])
  · refine k_ret ?_
    obtain rfl := Option.some.inj h
    exact e_ret (ls := [(.p (.bool ((decide (a1 ≤ a0)) && (decide (a0 ≤ a2)))), 6)]) (by kernel_rfl) rfl (by kernel_rfl) rfl
theorem wk_slices_IndexFunc_LLint_Lint_d {a0 : (List (List Int))} {a1 : ((List Int) → Option Bool)} {F1 : FuncId} {K1 : List (Bool × List C)} (hp1 : ∀ x0 y, a1 x0 = some y → Meets Try.prog F1 ([.d false [.sl none (x0.map eI)]] ++ (K1.map fun (g, cs) => mkA g cs)) { vals := [.p (.bool y)] }) {r : Int} (h : slices_IndexFunc_LLint_Lint a0 a1 = some r) : Meets Try.prog 127 [.d false [.sl none (a0.map (eF eI))], .d false [.fn F1 K1]] { vals := [.p (.int .i64 r)] } := by
  refine Meets_ofL (by kernel_rfl) Try.func127 rfl (by kernel_rfl) (l0 := [(0, .d false [.sl none (a0.map (eF eI))]), (1, .d false [.fn F1 K1])]) (by kernel_rfl) ?_
  unfold slices_IndexFunc_LLint_Lint at h
  refine k_sreg (r_go [(0, .d false [.sl none (a0.map (eF eI))]), (1, .d false [.fn F1 K1])] [] [] (by kernel_rfl) trivial) ?_
  refine k_join (J := fun (x : Unit) => []) (K := fun x => slices_IndexFunc_LLint_Lint_k1 x = some r) (fun x1 h => ?_) ?_
  · unfold slices_IndexFunc_LLint_Lint_k1 at h
    refine k_sreg (r_go [(4, .p (.int .i64 (-1)))] [] [] (by kernel_rfl) trivial) ?_
    refine k_ret ?_
    obtain rfl := Option.some.inj h
    exact e_ret (ls := [(.p (.int .i64 (-1)), 4)]) (by kernel_rfl) rfl (by kernel_rfl) rfl
  · refine k_sreg (r_go [(0, .d false [.sl none (a0.map (eF eI))]), (1, .d false [.fn F1 K1]), (7, .p (.int .i64 (a0.length : Int))), (8, .p (.int .i64 0))] [(1, {n := some a0.length})] [(a0.map (eF eI)).length = a0.length] (by kernel_rfl) ⟨(List.length_map ..), trivial⟩) ?_
    refine k_block ?_
    obtain ⟨y3, hl_x2, hk_x2⟩ := bind_some' h
    clear h
    refine k_loop (J := fun (x : Int) => [(0, .d false [.sl none (a0.map (eF eI))]), (1, .d false [.fn F1 K1]), (7, .p (.int .i64 (a0.length : Int))), (8, .p (.int .i64 x))]) hl_x2 (wk_of (by kernel_rfl) (by kernel_rfl)) (fun x2 o_x2 h hy_x2 => ?_)
    unfold slices_IndexFunc_LLint_Lint_b1 at h
    refine k_sreg (r_go [(0, .d false [.sl none (a0.map (eF eI))]), (1, .d false [.fn F1 K1]), (7, .p (.int .i64 (a0.length : Int))), (8, .p (.int .i64 x2)), (9, .p (.bool (decide (x2 < (a0.length : Int)))))] [] [] (by kernel_rfl) trivial) ?_
    refine k_seq ?_
    refine k_cond (b := (decide (x2 < (a0.length : Int)))) (by kernel_rfl) (fun hc5_3 => ?_) (fun hc5_3 => ?_)
    · replace h := ite_t hc5_3 h
      refine k_skip ?_
      refine q_n ?_
      refine k_seq ?_
      refine k_block ?_
      refine k_sreg (r_go [(0, .d false [.sl none (a0.map (eF eI))]), (1, .d false [.fn F1 K1]), (5, .p (.int .i64 x2)), (7, .p (.int .i64 (a0.length : Int))), (8, .p (.int .i64 x2))] [] [] (by kernel_rfl) trivial) ?_
      replace h := bind_some' h
      obtain ⟨v5, hv5, h⟩ := h
      replace h := bind_some' h
      obtain ⟨v6, hv6, h⟩ := h
      refine k_sreg (r_go [(0, .d false [.sl none (a0.map (eF eI))]), (1, .d false [.fn F1 K1]), (5, .p (.int .i64 x2)), (7, .p (.int .i64 (a0.length : Int))), (8, .p (.int .i64 x2)), (16, .p (.bool v6))] [(3, {row := some [.sl none (v5.map eI)]}), (5, {call := some ([.d false [.sl none (v5.map eI)]], [.p (.bool v6)], true)})] [0 ≤ x2, (a0.map (eF eI))[(Int.toNat x2)]? = some [.sl none (v5.map eI)], ([.d false [.sl none (v5.map eI)]] : List Arg) = [.d false [.sl none (v5.map eI)]], Meets Try.prog F1 ([.d false [.sl none (v5.map eI)]] ++ (K1.map fun (g, cs) => mkA g cs)) { vals := [.p (.bool v6)] }, List.all [.p (.bool v6)] simpleR = true] (by kernel_rfl) ⟨(idxO_some hv5).1, (map_get (eF eI) (idxO_some hv5).2), rfl, (hp1 _ _ hv6), rfl, trivial⟩) ?_
      refine k_cond (b := v6) (by kernel_rfl) (fun hc6_6 => ?_) (fun hc6_6 => ?_)
      · replace h := ite_t hc6_6 h
        refine k_sreg (r_go [(4, .p (.int .i64 x2))] [] [] (by kernel_rfl) trivial) ?_
        refine k_ret ?_
        refine b_r ?_
        refine q_r ?_
        refine lq_r ?_
        refine b_r ?_
        refine q_r ?_
        have hyy := hy_x2 _ (Option.some.inj h).symm
        subst hyy
        have h := hk_x2
        dsimp only [Sum.elim] at h
        obtain rfl := Option.some.inj h
        exact e_ret (ls := [(.p (.int .i64 x2), 4)]) (by kernel_rfl) rfl (by kernel_rfl) rfl
      · replace h := ite_f hc6_6 h
        refine k_skip ?_
        refine b_n ?_
        refine q_n ?_
        refine k_reg (r_go [(0, .d false [.sl none (a0.map (eF eI))]), (1, .d false [.fn F1 K1]), (7, .p (.int .i64 (a0.length : Int))), (8, .p (.int .i64 (w64 (x2 + 1))))] [] [] (by kernel_rfl) trivial) ?_
        exact lq_n (w64 (x2 + 1)) (Option.some.inj h).symm (wk_of (by kernel_rfl) (by kernel_rfl))
    · replace h := ite_f hc5_3 h
      refine k_exit ?_
      refine q_x ?_
      refine lq_x ?_
      refine b_x ?_
      have hyy := hy_x2 _ (Option.some.inj h).symm
      subst hyy
      have h := hk_x2
      dsimp only [Sum.elim] at h
      refine q_n ?_
      exact ⟨(), h, (wk_of (by kernel_rfl) (by kernel_rfl))⟩
theorem wk_slices_ContainsFunc_LLint_Lint_d {a0 : (List (List Int))} {a1 : ((List Int) → Option Bool)} {F1 : FuncId} {K1 : List (Bool × List C)} (hp1 : ∀ x0 y, a1 x0 = some y → Meets Try.prog F1 ([.d false [.sl none (x0.map eI)]] ++ (K1.map fun (g, cs) => mkA g cs)) { vals := [.p (.bool y)] }) {r : Bool} (h : slices_ContainsFunc_LLint_Lint a0 a1 = some r) : Meets Try.prog 100 [.d false [.sl none (a0.map (eF eI))], .d false [.fn F1 K1]] { vals := [.p (.bool r)] } := by
  refine Meets_ofL (by kernel_rfl) Try.func100 rfl (by kernel_rfl) (l0 := [(0, .d false [.sl none (a0.map (eF eI))]), (1, .d false [.fn F1 K1])]) (by kernel_rfl) ?_
  unfold slices_ContainsFunc_LLint_Lint at h
  refine k_sreg (r_go [(0, .d false [.sl none (a0.map (eF eI))]), (1, .d false [.fn F1 K1])] [] [] (by kernel_rfl) trivial) ?_
  replace h := bind_some' h
  obtain ⟨v1, hv1, h⟩ := h
  refine k_sreg (r_go [(4, .p (.bool (decide (v1 ≥ 0))))] [(2, {call := some ([.d false [.sl none (a0.map (eF eI))], .d false [.fn F1 K1]], [.p (.int .i64 v1)], true)})] [([.d false [.sl none (a0.map (eF eI))], .d false [.fn F1 K1]] : List Arg) = [.d false [.sl none (a0.map (eF eI))], .d false [.fn F1 K1]], Meets Try.prog 127 ([.d false [.sl none (a0.map (eF eI))], .d false [.fn F1 K1]] ++ []) { vals := [.p (.int .i64 v1)] }, List.all [.p (.int .i64 v1)] simpleR = true] (by kernel_rfl) ⟨rfl, (wk_slices_IndexFunc_LLint_Lint_d hp1 hv1), rfl, trivial⟩) ?_
  refine k_ret ?_
  obtain rfl := Option.some.inj h
  exact e_ret (ls := [(.p (.bool (decide (v1 ≥ 0))), 4)]) (by kernel_rfl) rfl (by kernel_rfl) rfl
theorem wk_slices_IndexFunc_Lint_int_v {a0 : (List Int)} {a1 : (Int → Option Bool)} {F1 : FuncId} (hp1 : ∀ x0 y, a1 x0 = some y → Meets Try.prog F1 ([.v (.int .i64 x0)] ++ []) { vals := [.p (.bool y)] }) {r : Int} (h : slices_IndexFunc_Lint_int a0 a1 = some r) : Meets Try.prog 121 [.d false [.sl none (a0.map eI)], .v (.func (.func F1) #[] #[])] { vals := [.p (.int .i64 r)] } := by
  refine Meets_ofL (by kernel_rfl) Try.func121 rfl (by kernel_rfl) (l0 := [(0, .d false [.sl none (a0.map eI)]), (1, .p (.func (.func F1) #[] #[]))]) (by kernel_rfl) ?_
  unfold slices_IndexFunc_Lint_int at h
  refine k_sreg (r_go [(0, .d false [.sl none (a0.map eI)]), (1, .p (.func (.func F1) #[] #[]))] [] [] (by kernel_rfl) trivial) ?_
  refine k_join (J := fun (x : Unit) => []) (K := fun x => slices_IndexFunc_Lint_int_k1 x = some r) (fun x1 h => ?_) ?_
  · unfold slices_IndexFunc_Lint_int_k1 at h
    refine k_sreg (r_go [(4, .p (.int .i64 (-1)))] [] [] (by kernel_rfl) trivial) ?_
    refine k_ret ?_
    obtain rfl := Option.some.inj h
    exact e_ret (ls := [(.p (.int .i64 (-1)), 4)]) (by kernel_rfl) rfl (by kernel_rfl) rfl
  · refine k_sreg (r_go [(0, .d false [.sl none (a0.map eI)]), (1, .p (.func (.func F1) #[] #[])), (7, .p (.int .i64 (a0.length : Int))), (8, .p (.int .i64 0))] [(1, {n := some a0.length})] [(a0.map eI).length = a0.length] (by kernel_rfl) ⟨(List.length_map ..), trivial⟩) ?_
    refine k_block ?_
    obtain ⟨y3, hl_x2, hk_x2⟩ := bind_some' h
    clear h
    refine k_loop (J := fun (x : Int) => [(0, .d false [.sl none (a0.map eI)]), (1, .p (.func (.func F1) #[] #[])), (7, .p (.int .i64 (a0.length : Int))), (8, .p (.int .i64 x))]) hl_x2 (wk_of (by kernel_rfl) (by kernel_rfl)) (fun x2 o_x2 h hy_x2 => ?_)
    unfold slices_IndexFunc_Lint_int_b1 at h
    refine k_sreg (r_go [(0, .d false [.sl none (a0.map eI)]), (1, .p (.func (.func F1) #[] #[])), (7, .p (.int .i64 (a0.length : Int))), (8, .p (.int .i64 x2)), (9, .p (.bool (decide (x2 < (a0.length : Int)))))] [] [] (by kernel_rfl) trivial) ?_
    refine k_seq ?_
    refine k_cond (b := (decide (x2 < (a0.length : Int)))) (by kernel_rfl) (fun hc5_3 => ?_) (fun hc5_3 => ?_)
    · replace h := ite_t hc5_3 h
      refine k_skip ?_
      refine q_n ?_
      refine k_seq ?_
      refine k_block ?_
      refine k_sreg (r_go [(0, .d false [.sl none (a0.map eI)]), (1, .p (.func (.func F1) #[] #[])), (5, .p (.int .i64 x2)), (7, .p (.int .i64 (a0.length : Int))), (8, .p (.int .i64 x2))] [] [] (by kernel_rfl) trivial) ?_
      replace h := bind_some' h
      obtain ⟨v5, hv5, h⟩ := h
      replace h := bind_some' h
      obtain ⟨v6, hv6, h⟩ := h
      refine k_sreg (r_go [(0, .d false [.sl none (a0.map eI)]), (1, .p (.func (.func F1) #[] #[])), (5, .p (.int .i64 x2)), (7, .p (.int .i64 (a0.length : Int))), (8, .p (.int .i64 x2)), (16, .p (.bool v6))] [(3, {row := some [.raw (.int .i64 v5)]}), (5, {call := some ([.v (.int .i64 v5)], [.p (.bool v6)], true)})] [0 ≤ x2, (a0.map eI)[(Int.toNat x2)]? = some [.raw (.int .i64 v5)], ([.v (.int .i64 v5)] : List Arg) = [.v (.int .i64 v5)], Meets Try.prog F1 ([.v (.int .i64 v5)] ++ []) { vals := [.p (.bool v6)] }, List.all [.p (.bool v6)] simpleR = true] (by kernel_rfl) ⟨(idxO_some hv5).1, (map_get eI (idxO_some hv5).2), rfl, (hp1 _ _ hv6), rfl, trivial⟩) ?_
      refine k_cond (b := v6) (by kernel_rfl) (fun hc6_6 => ?_) (fun hc6_6 => ?_)
      · replace h := ite_t hc6_6 h
        refine k_sreg (r_go [(4, .p (.int .i64 x2))] [] [] (by kernel_rfl) trivial) ?_
        refine k_ret ?_
        refine b_r ?_
        refine q_r ?_
        refine lq_r ?_
        refine b_r ?_
        refine q_r ?_
        have hyy := hy_x2 _ (Option.some.inj h).symm
        subst hyy
        have h := hk_x2
        dsimp only [Sum.elim] at h
        obtain rfl := Option.some.inj h
        exact e_ret (ls := [(.p (.int .i64 x2), 4)]) (by kernel_rfl) rfl (by kernel_rfl) rfl
      · replace h := ite_f hc6_6 h
        refine k_skip ?_
        refine b_n ?_
        refine q_n ?_
        refine k_reg (r_go [(0, .d false [.sl none (a0.map eI)]), (1, .p (.func (.func F1) #[] #[])), (7, .p (.int .i64 (a0.length : Int))), (8, .p (.int .i64 (w64 (x2 + 1))))] [] [] (by kernel_rfl) trivial) ?_
        exact lq_n (w64 (x2 + 1)) (Option.some.inj h).symm (wk_of (by kernel_rfl) (by kernel_rfl))
    · replace h := ite_f hc5_3 h
      refine k_exit ?_
      refine q_x ?_
      refine lq_x ?_
      refine b_x ?_
      have hyy := hy_x2 _ (Option.some.inj h).symm
      subst hyy
      have h := hk_x2
      dsimp only [Sum.elim] at h
      refine q_n ?_
      exact ⟨(), h, (wk_of (by kernel_rfl) (by kernel_rfl))⟩
theorem wk_slices_ContainsFunc_Lint_int_v {a0 : (List Int)} {a1 : (Int → Option Bool)} {F1 : FuncId} (hp1 : ∀ x0 y, a1 x0 = some y → Meets Try.prog F1 ([.v (.int .i64 x0)] ++ []) { vals := [.p (.bool y)] }) {r : Bool} (h : slices_ContainsFunc_Lint_int a0 a1 = some r) : Meets Try.prog 88 [.d false [.sl none (a0.map eI)], .v (.func (.func F1) #[] #[])] { vals := [.p (.bool r)] } := by
  refine Meets_ofL (by kernel_rfl) Try.func88 rfl (by kernel_rfl) (l0 := [(0, .d false [.sl none (a0.map eI)]), (1, .p (.func (.func F1) #[] #[]))]) (by kernel_rfl) ?_
  unfold slices_ContainsFunc_Lint_int at h
  refine k_sreg (r_go [(0, .d false [.sl none (a0.map eI)]), (1, .p (.func (.func F1) #[] #[]))] [] [] (by kernel_rfl) trivial) ?_
  replace h := bind_some' h
  obtain ⟨v1, hv1, h⟩ := h
  refine k_sreg (r_go [(4, .p (.bool (decide (v1 ≥ 0))))] [(2, {call := some ([.d false [.sl none (a0.map eI)], .v (.func (.func F1) #[] #[])], [.p (.int .i64 v1)], true)})] [([.d false [.sl none (a0.map eI)], .v (.func (.func F1) #[] #[])] : List Arg) = [.d false [.sl none (a0.map eI)], .v (.func (.func F1) #[] #[])], Meets Try.prog 121 ([.d false [.sl none (a0.map eI)], .v (.func (.func F1) #[] #[])] ++ []) { vals := [.p (.int .i64 v1)] }, List.all [.p (.int .i64 v1)] simpleR = true] (by kernel_rfl) ⟨rfl, (wk_slices_IndexFunc_Lint_int_v hp1 hv1), rfl, trivial⟩) ?_
  refine k_ret ?_
  obtain rfl := Option.some.inj h
  exact e_ret (ls := [(.p (.bool (decide (v1 ≥ 0))), 4)]) (by kernel_rfl) rfl (by kernel_rfl) rfl
theorem wk_impl_isGraph_1_1 {a0 : Int}  {r : Bool} (h : impl_isGraph_1_1 a0 = some r) : Meets Try.prog 102 [.v (.int .i64 a0)] { vals := [.p (.bool r)] } := by
  refine Meets_ofL (by kernel_rfl) Try.func102 rfl (by kernel_rfl) (l0 := [(0, .p (.int .i64 a0))]) (by kernel_rfl) ?_
  unfold impl_isGraph_1_1 at h
  refine k_sreg (r_go [(0, .p (.int .i64 a0))] [] [] (by kernel_rfl) trivial) ?_
  replace h := bind_some' h
  obtain ⟨v1, hv1, h⟩ := h
  refine k_sreg (r_go [(2, .p (.bool (!v1)))] [(1, {call := some ([.v (.int .i64 a0), .v (.int .i64 0), .v (.int .i64 9)], [.p (.bool v1)], true)})] [([.v (.int .i64 a0), .v (.int .i64 0), .v (.int .i64 9)] : List Arg) = [.v (.int .i64 a0), .v (.int .i64 0), .v (.int .i64 9)], Meets Try.prog 76 ([.v (.int .i64 a0), .v (.int .i64 0), .v (.int .i64 9)] ++ []) { vals := [.p (.bool v1)] }, List.all [.p (.bool v1)] simpleR = true] (by kernel_rfl) ⟨rfl, (wk_impl_within hv1), rfl, trivial⟩) ?_
  refine k_ret ?_
  obtain rfl := Option.some.inj h
  exact e_ret (ls := [(.p (.bool (!v1)), 2)]) (by kernel_rfl) rfl (by kernel_rfl) rfl
theorem wk_impl_isGraph_1 {a0 : (List Int)} {c0 : (List (List Int))}  {r : Bool} (h : impl_isGraph_1 a0 c0 = some r) : Meets Try.prog 101 [.d false [.sl none (a0.map eI)], .d false [.pt [.sl none (c0.map (eF eI))]]] { vals := [.p (.bool r)] } := by
  refine Meets_ofL (by kernel_rfl) Try.func101 rfl (by kernel_rfl) (l0 := [(0, .d false [.sl none (a0.map eI)]), (1, .d false [.pt [.sl none (c0.map (eF eI))]])]) (by kernel_rfl) ?_
  unfold impl_isGraph_1 at h
  refine k_sreg (r_go [(0, .d false [.sl none (a0.map eI)]), (1, .d false [.pt [.sl none (c0.map (eF eI))]])] [] [] (by kernel_rfl) trivial) ?_
  replace h := bind_some' h
  obtain ⟨w2, hw2, h⟩ := h
  refine k_sreg (l1 := [(3, .p (.bool w2))]) ?_ ?_
  · clear h
    rcases Bool.eq_false_or_eq_true ((a0.length : Int) != (c0.length : Int)) with ha0 | ha0
    · replace hw2 := ite_t ha0 hw2
      have hw2 := Option.some.inj hw2
      subst hw2
      exact (r_go [(3, .p (.bool true))] [(1, {n := some a0.length}), (3, {n := some c0.length}), (6, {g := some true}), (7, {g := some true}), (8, {b := some true})] [(a0.map eI).length = a0.length, (c0.map (eF eI)).length = c0.length, ((a0.length : Int) != (c0.length : Int)) = true, ((a0.length : Int) != (c0.length : Int)) = true, ((a0.length : Int) != (c0.length : Int)) = true] (by kernel_rfl) ⟨(List.length_map ..), (List.length_map ..), ha0, ha0, ha0, trivial⟩)
    · replace hw2 := ite_f ha0 hw2
      replace hw2 := bind_some' hw2
      obtain ⟨v1, hv1, hw2⟩ := hw2
      have hw2 := Option.some.inj hw2
      subst hw2
      exact (r_go [(3, .p (.bool v1))] [(1, {n := some a0.length}), (3, {n := some c0.length}), (6, {g := some false}), (7, {g := some false, call := some ([.d false [.sl none (a0.map eI)], .v (.func (.func 102) #[] #[])], [.p (.bool v1)], true)}), (8, {b := some false})] [(a0.map eI).length = a0.length, (c0.map (eF eI)).length = c0.length, ((a0.length : Int) != (c0.length : Int)) = false, ((a0.length : Int) != (c0.length : Int)) = false, ([.d false [.sl none (a0.map eI)], .v (.func (.func 102) #[] #[])] : List Arg) = [.d false [.sl none (a0.map eI)], .v (.func (.func 102) #[] #[])], Meets Try.prog 88 ([.d false [.sl none (a0.map eI)], .v (.func (.func 102) #[] #[])] ++ []) { vals := [.p (.bool v1)] }, List.all [.p (.bool v1)] simpleR = true, ((a0.length : Int) != (c0.length : Int)) = false] (by kernel_rfl) ⟨(List.length_map ..), (List.length_map ..), ha0, ha0, rfl, (wk_slices_ContainsFunc_Lint_int_v (fun x0 y hy => wk_impl_isGraph_1_1 hy) hv1), rfl, ha0, trivial⟩)
  · refine k_ret ?_
    obtain rfl := Option.some.inj h
    exact e_ret (ls := [(.p (.bool w2), 3)]) (by kernel_rfl) rfl (by kernel_rfl) rfl
theorem wk_impl_isGraph {a0 : (List (List Int))}  {r : Bool} (h : impl_isGraph a0 = some r) : Meets Try.prog 68 [.d false [.sl none (a0.map (eF eI))]] { vals := [.p (.bool r)] } := by
  refine Meets_ofL (by kernel_rfl) Try.func68 rfl (by kernel_rfl) (l0 := [(0, .d false [.sl none (a0.map (eF eI))])]) (by kernel_rfl) ?_
  unfold impl_isGraph at h
  refine k_sreg (r_go [(1, .box [.sl none (a0.map (eF eI))])] [] [] (by kernel_rfl) trivial) ?_
  refine k_frz 1 [.sl none (a0.map (eF eI))] [.sl none (a0.map (eF eI))] [(1, .d false [.pt [.sl none (a0.map (eF eI))]])] (by kernel_rfl) (erc_sl (eraL_enc (era_F er_I)) rfl) (by kernel_rfl) (by kernel_rfl) ?_
  replace h := bind_some' h
  obtain ⟨v1, hv1, h⟩ := h
  replace h := bind_some' h
  obtain ⟨w3, hw3, h⟩ := h
  refine k_sreg (l1 := [(2, .p (.bool w3))]) ?_ ?_
  · clear h
    rcases Bool.eq_false_or_eq_true v1 with ha0 | ha0
    · replace hw3 := ite_t ha0 hw3
      replace hw3 := bind_some' hw3
      obtain ⟨v2, hv2, hw3⟩ := hw3
      have hw3 := Option.some.inj hw3
      subst hw3
      exact (r_go [(2, .p (.bool (!v2)))] [(1, {n := some a0.length}), (2, {call := some ([.v (.int .i64 (a0.length : Int)), .v (.int .i64 1), .v (.int .i64 8)], [.p (.bool v1)], true)}), (4, {g := some true}), (5, {g := some true}), (6, {g := some true, call := some ([.d false [.sl none (a0.map (eF eI))], .d false [.fn 101 [(false, [.pt [.sl none (a0.map (eF eI))]])]]], [.p (.bool v2)], true)}), (7, {g := some true}), (8, {b := some true})] [(a0.map (eF eI)).length = a0.length, ([.v (.int .i64 (a0.length : Int)), .v (.int .i64 1), .v (.int .i64 8)] : List Arg) = [.v (.int .i64 (a0.length : Int)), .v (.int .i64 1), .v (.int .i64 8)], Meets Try.prog 76 ([.v (.int .i64 (a0.length : Int)), .v (.int .i64 1), .v (.int .i64 8)] ++ []) { vals := [.p (.bool v1)] }, List.all [.p (.bool v1)] simpleR = true, v1 = true, v1 = true, v1 = true, ([.d false [.sl none (a0.map (eF eI))], .d false [.fn 101 [(false, [.pt [.sl none (a0.map (eF eI))]])]]] : List Arg) = [.d false [.sl none (a0.map (eF eI))], .d false [.fn 101 [(false, [.pt [.sl none (a0.map (eF eI))]])]]], Meets Try.prog 100 ([.d false [.sl none (a0.map (eF eI))], .d false [.fn 101 [(false, [.pt [.sl none (a0.map (eF eI))]])]]] ++ []) { vals := [.p (.bool v2)] }, List.all [.p (.bool v2)] simpleR = true, v1 = true, v1 = true] (by kernel_rfl) ⟨(List.length_map ..), rfl, (wk_impl_within hv1), rfl, ha0, ha0, ha0, rfl, (wk_slices_ContainsFunc_LLint_Lint_d (fun x0 y hy => wk_impl_isGraph_1 hy) hv2), rfl, ha0, ha0, trivial⟩)
    · replace hw3 := ite_f ha0 hw3
      have hw3 := Option.some.inj hw3
      subst hw3
      exact (r_go [(2, .p (.bool false))] [(1, {n := some a0.length}), (2, {call := some ([.v (.int .i64 (a0.length : Int)), .v (.int .i64 1), .v (.int .i64 8)], [.p (.bool v1)], true)}), (4, {g := some false}), (5, {g := some false}), (6, {g := some false}), (7, {g := some false}), (8, {b := some false})] [(a0.map (eF eI)).length = a0.length, ([.v (.int .i64 (a0.length : Int)), .v (.int .i64 1), .v (.int .i64 8)] : List Arg) = [.v (.int .i64 (a0.length : Int)), .v (.int .i64 1), .v (.int .i64 8)], Meets Try.prog 76 ([.v (.int .i64 (a0.length : Int)), .v (.int .i64 1), .v (.int .i64 8)] ++ []) { vals := [.p (.bool v1)] }, List.all [.p (.bool v1)] simpleR = true, v1 = false, v1 = false, v1 = false, v1 = false, v1 = false] (by kernel_rfl) ⟨(List.length_map ..), rfl, (wk_impl_within hv1), rfl, ha0, ha0, ha0, ha0, ha0, trivial⟩)
  · refine k_ret ?_
    obtain rfl := Option.some.inj h
    exact e_ret (ls := [(.p (.bool w3), 2)]) (by kernel_rfl) rfl (by kernel_rfl) rfl
theorem wk_impl_isLength {a0 : (List (List Int))} {a1 : Int}  {r : Bool} (h : impl_isLength a0 a1 = some r) : Meets Try.prog 72 [.d false [.sl none (a0.map (eF eI))], .v (.int .i64 a1)] { vals := [.p (.bool r)] } := by
  refine Meets_ofL (by kernel_rfl) Try.func72 rfl (by kernel_rfl) (l0 := [(0, .d false [.sl none (a0.map (eF eI))]), (1, .p (.int .i64 a1))]) (by kernel_rfl) ?_
  unfold impl_isLength at h
  refine k_sreg (r_go [(0, .d false [.sl none (a0.map (eF eI))]), (1, .p (.int .i64 a1))] [] [] (by kernel_rfl) trivial) ?_
  replace h := bind_some' h
  obtain ⟨v1, hv1, h⟩ := h
  replace h := bind_some' h
  obtain ⟨w3, hw3, h⟩ := h
  refine k_sreg (l1 := [(4, .p (.bool w3))]) ?_ ?_
  · clear h
    rcases Bool.eq_false_or_eq_true v1 with ha0 | ha0
    · replace hw3 := ite_t ha0 hw3
      replace hw3 := bind_some' hw3
      obtain ⟨v2, hv2, hw3⟩ := hw3
      have hw3 := Option.some.inj hw3
      subst hw3
      exact (r_go [(4, .p (.bool v2))] [(1, {call := some ([.d false [.sl none (a0.map (eF eI))]], [.p (.bool v1)], true)}), (3, {g := some true}), (4, {g := some true, call := some ([.v (.int .i64 a1), .v (.int .i64 1), .v (.int .i64 12)], [.p (.bool v2)], true)}), (5, {b := some true})] [([.d false [.sl none (a0.map (eF eI))]] : List Arg) = [.d false [.sl none (a0.map (eF eI))]], Meets Try.prog 68 ([.d false [.sl none (a0.map (eF eI))]] ++ []) { vals := [.p (.bool v1)] }, List.all [.p (.bool v1)] simpleR = true, v1 = true, v1 = true, ([.v (.int .i64 a1), .v (.int .i64 1), .v (.int .i64 12)] : List Arg) = [.v (.int .i64 a1), .v (.int .i64 1), .v (.int .i64 12)], Meets Try.prog 76 ([.v (.int .i64 a1), .v (.int .i64 1), .v (.int .i64 12)] ++ []) { vals := [.p (.bool v2)] }, List.all [.p (.bool v2)] simpleR = true, v1 = true] (by kernel_rfl) ⟨rfl, (wk_impl_isGraph hv1), rfl, ha0, ha0, rfl, (wk_impl_within hv2), rfl, ha0, trivial⟩)
    · replace hw3 := ite_f ha0 hw3
      have hw3 := Option.some.inj hw3
      subst hw3
      exact (r_go [(4, .p (.bool false))] [(1, {call := some ([.d false [.sl none (a0.map (eF eI))]], [.p (.bool v1)], true)}), (3, {g := some false}), (4, {g := some false}), (5, {b := some false})] [([.d false [.sl none (a0.map (eF eI))]] : List Arg) = [.d false [.sl none (a0.map (eF eI))]], Meets Try.prog 68 ([.d false [.sl none (a0.map (eF eI))]] ++ []) { vals := [.p (.bool v1)] }, List.all [.p (.bool v1)] simpleR = true, v1 = false, v1 = false, v1 = false] (by kernel_rfl) ⟨rfl, (wk_impl_isGraph hv1), rfl, ha0, ha0, ha0, trivial⟩)
  · refine k_ret ?_
    obtain rfl := Option.some.inj h
    exact e_ret (ls := [(.p (.bool w3), 4)]) (by kernel_rfl) rfl (by kernel_rfl) rfl
theorem wk_impl_emptyGraph {a0 : Int}  {r : (List (List Int))} (h : impl_emptyGraph a0 = some r) : Meets Try.prog 113 [.v (.int .i64 a0)] { vals := [.ov false [.sl (some 22) (r.map (eO 3 eI))]] } := by
  refine Meets_ofL (by kernel_rfl) Try.func113 rfl (by kernel_rfl) (l0 := [(0, .p (.int .i64 a0))]) (by kernel_rfl) ?_
  unfold impl_emptyGraph at h
  refine k_sreg (r_go [(0, .p (.int .i64 a0))] [] [] (by kernel_rfl) trivial) ?_
  replace h := bind_some' h
  obtain ⟨u1, hu1, h⟩ := h
  refine k_sreg (r_go [(0, .p (.int .i64 a0)), (3, .ov false [.sl (some 22) ((List.replicate (Int.toNat a0) ([] : (List Int))).map (eO 3 eI))])] [(1, {fix := some (6, .ov false [.sl (some 22) ((List.replicate (Int.toNat a0) ([] : (List Int))).map (eO 3 eI))])})] [a0 = a0, 0 ≤ a0, a0 ≤ 1099511627776, (SV.ov false [.sl (some 22) (List.replicate (Int.toNat a0) [.sl (some 3) []])] : SV) = .ov false [.sl (some 22) ((List.replicate (Int.toNat a0) ([] : (List Int))).map (eO 3 eI))]] (by kernel_rfl) ⟨rfl, (guardO_some hu1).1, (guardO_some hu1).2, (congrArg (fun z => SV.ov false [.sl (some 22) z]) (rep_fix (eO 3 eI) ([] : (List Int)))), trivial⟩) ?_
  refine k_join (J := fun (x : (List (List Int))) => [(3, .ov false [.sl (some 22) (x.map (eO 3 eI))])]) (K := fun x => impl_emptyGraph_k1 x = some r) (fun x2 h => ?_) ?_
  · unfold impl_emptyGraph_k1 at h
    refine k_sreg (r_go [(2, .ov false [.sl (some 22) (x2.map (eO 3 eI))])] [] [] (by kernel_rfl) trivial) ?_
    refine k_ret ?_
    obtain rfl := Option.some.inj h
    exact e_ret (ls := [(.ov false [.sl (some 22) (x2.map (eO 3 eI))], 2)]) (by kernel_rfl) rfl (by kernel_rfl) rfl
  · refine k_sreg (r_go [(0, .p (.int .i64 a0)), (3, .ov false [.sl (some 22) ((List.replicate (Int.toNat a0) ([] : (List Int))).map (eO 3 eI))]), (8, .p (.int .i64 ((List.replicate (Int.toNat a0) ([] : (List Int))).length : Int))), (9, .p (.int .i64 0))] [(1, {n := some (List.replicate (Int.toNat a0) ([] : (List Int))).length})] [((List.replicate (Int.toNat a0) ([] : (List Int))).map (eO 3 eI)).length = (List.replicate (Int.toNat a0) ([] : (List Int))).length] (by kernel_rfl) ⟨(List.length_map ..), trivial⟩) ?_
    refine k_block ?_
    obtain ⟨y4, hl_x3, hk_x3⟩ := bind_some' h
    clear h
    refine k_loop (J := fun (x : ((List (List Int)) × Int)) => [(0, .p (.int .i64 a0)), (3, .ov false [.sl (some 22) (x.1.map (eO 3 eI))]), (8, .p (.int .i64 ((List.replicate (Int.toNat a0) ([] : (List Int))).length : Int))), (9, .p (.int .i64 x.2))]) hl_x3 (wk_of (by kernel_rfl) (by kernel_rfl)) (fun x3 o_x3 h hy_x3 => ?_)
    unfold impl_emptyGraph_b1 at h
    refine k_sreg (r_go [(0, .p (.int .i64 a0)), (3, .ov false [.sl (some 22) (x3.1.map (eO 3 eI))]), (8, .p (.int .i64 ((List.replicate (Int.toNat a0) ([] : (List Int))).length : Int))), (9, .p (.int .i64 x3.2)), (10, .p (.bool (decide (x3.2 < ((List.replicate (Int.toNat a0) ([] : (List Int))).length : Int)))))] [] [] (by kernel_rfl) trivial) ?_
    refine k_seq ?_
    refine k_cond (b := (decide (x3.2 < ((List.replicate (Int.toNat a0) ([] : (List Int))).length : Int)))) (by kernel_rfl) (fun hc5_4 => ?_) (fun hc5_4 => ?_)
    · replace h := ite_t hc5_4 h
      refine k_skip ?_
      refine q_n ?_
      refine k_seq ?_
      refine k_block ?_
      refine k_sreg (r_go [(0, .p (.int .i64 a0)), (3, .ov false [.sl (some 22) (x3.1.map (eO 3 eI))]), (4, .p (.int .i64 x3.2)), (8, .p (.int .i64 ((List.replicate (Int.toNat a0) ([] : (List Int))).length : Int))), (9, .p (.int .i64 x3.2))] [] [] (by kernel_rfl) trivial) ?_
      replace h := bind_some' h
      obtain ⟨v6, hv6, h⟩ := h
      refine k_reg (r_go [(0, .p (.int .i64 a0)), (3, .ov false [.sl (some 22) ((x3.1.set (Int.toNat x3.2) (List.replicate (Int.toNat a0) (0 : Int))).map (eO 3 eI))]), (8, .p (.int .i64 ((List.replicate (Int.toNat a0) ([] : (List Int))).length : Int))), (9, .p (.int .i64 x3.2))] [(3, {fix := some (15, .ov false [.sl (some 3) ((List.replicate (Int.toNat a0) (0 : Int)).map eI)])}), (4, {row := some [.sl (some 3) (v6.map eI)]}), (5, {row := some [.sl (some 3) (v6.map eI)], fix := some (3, .ov false [.sl (some 22) ((x3.1.set (Int.toNat x3.2) (List.replicate (Int.toNat a0) (0 : Int))).map (eO 3 eI))])})] [a0 = a0, 0 ≤ a0, a0 ≤ 1099511627776, (SV.ov false [.sl (some 3) (List.replicate (Int.toNat a0) [.raw (.int .i64 0)])] : SV) = .ov false [.sl (some 3) ((List.replicate (Int.toNat a0) (0 : Int)).map eI)], 0 ≤ x3.2, (x3.1.map (eO 3 eI))[(Int.toNat x3.2)]? = some [.sl (some 3) (v6.map eI)], getRow [[.sl (some 22) (x3.1.map (eO 3 eI))]] [(0, 0), ((Int.toNat x3.2), 0)] = some [.sl (some 3) (v6.map eI)], (SV.ov false [.sl (some 22) (setL (x3.1.map (eO 3 eI)) [((Int.toNat x3.2), 0)] [.sl (some 3) ((List.replicate (Int.toNat a0) (0 : Int)).map eI)])] : SV) = .ov false [.sl (some 22) ((x3.1.set (Int.toNat x3.2) (List.replicate (Int.toNat a0) (0 : Int))).map (eO 3 eI))]] (by kernel_rfl) ⟨rfl, (guardO_some hu1).1, (guardO_some hu1).2, (congrArg (fun z => SV.ov false [.sl (some 3) z]) (rep_fix eI (0 : Int))), (idxO_some hv6).1, (map_get (eO 3 eI) (idxO_some hv6).2), ((gr0 rfl).trans (gre (map_get (eO 3 eI) (idxO_some hv6).2))), (congrArg (fun z => SV.ov false [.sl (some 22) z]) (set1 (f := (eO 3 eI)) (y := (List.replicate (Int.toNat a0) (0 : Int))) (idxO_some hv6).2 rfl)), trivial⟩) ?_
      refine b_n ?_
      refine q_n ?_
      refine k_reg (r_go [(0, .p (.int .i64 a0)), (3, .ov false [.sl (some 22) ((x3.1.set (Int.toNat x3.2) (List.replicate (Int.toNat a0) (0 : Int))).map (eO 3 eI))]), (8, .p (.int .i64 ((List.replicate (Int.toNat a0) ([] : (List Int))).length : Int))), (9, .p (.int .i64 (w64 (x3.2 + 1))))] [] [] (by kernel_rfl) trivial) ?_
      exact lq_n ((x3.1.set (Int.toNat x3.2) (List.replicate (Int.toNat a0) (0 : Int))), (w64 (x3.2 + 1))) (Option.some.inj h).symm (wk_of (by kernel_rfl) (by kernel_rfl))
    · replace h := ite_f hc5_4 h
      refine k_exit ?_
      refine q_x ?_
      refine lq_x ?_
      refine b_x ?_
      have hyy := hy_x3 _ (Option.some.inj h).symm
      subst hyy
      have h := hk_x3
      refine q_n ?_
      exact ⟨x3.1, h, (wk_of (by kernel_rfl) (by kernel_rfl))⟩
theorem wk_impl_powerUpTo {a0 : (List (List Int))} {a1 : Int} {a2 : Int}  {r : (List (List Int))} (h : impl_powerUpTo a0 a1 a2 = some r) : Meets Try.prog 99 [.d false [.sl none (a0.map (eF eI))], .v (.int .i64 a1), .v (.int .i64 a2)] { vals := [.ov false [.sl (some 22) (r.map (eO 3 eI))]] } := by
  refine Meets_ofL (by kernel_rfl) Try.func99 rfl (by kernel_rfl) (l0 := [(0, .d false [.sl none (a0.map (eF eI))]), (1, .p (.int .i64 a1)), (2, .p (.int .i64 a2))]) (by kernel_rfl) ?_
  unfold impl_powerUpTo at h
  refine k_sreg (r_go [(0, .d false [.sl none (a0.map (eF eI))]), (1, .p (.int .i64 a1)), (2, .p (.int .i64 a2))] [] [] (by kernel_rfl) trivial) ?_
  replace h := bind_some' h
  obtain ⟨v1, hv1, h⟩ := h
  refine k_sreg (r_go [(0, .d false [.sl none (a0.map (eF eI))]), (1, .p (.int .i64 a1)), (2, .p (.int .i64 a2)), (7, .ov false [.sl (some 22) (v1.map (eO 3 eI))])] [(1, {n := some a0.length}), (2, {call := some ([.v (.int .i64 (a0.length : Int))], [.ov false [.sl (some 22) (v1.map (eO 3 eI))]], true)})] [(a0.map (eF eI)).length = a0.length, ([.v (.int .i64 (a0.length : Int))] : List Arg) = [.v (.int .i64 (a0.length : Int))], Meets Try.prog 113 ([.v (.int .i64 (a0.length : Int))] ++ []) { vals := [.ov false [.sl (some 22) (v1.map (eO 3 eI))]] }, List.all [.ov false [.sl (some 22) (v1.map (eO 3 eI))]] simpleR = true] (by kernel_rfl) ⟨(List.length_map ..), rfl, (wk_impl_emptyGraph hv1), (sa_o (wnR1 (wnL_enc (wn_O wn_I)) rfl) rfl), trivial⟩) ?_
  refine k_join (J := fun (x : (List (List Int))) => [(0, .d false [.sl none (a0.map (eF eI))]), (1, .p (.int .i64 a1)), (2, .p (.int .i64 a2)), (7, .ov false [.sl (some 22) (x.map (eO 3 eI))])]) (K := fun x => impl_powerUpTo_k1 a0 a1 a2 x = some r) (fun x2 h => ?_) ?_
  · unfold impl_powerUpTo_k1 at h
    refine k_join (J := fun (x : (List (List Int))) => [(7, .ov false [.sl (some 22) (x.map (eO 3 eI))])]) (K := fun x => impl_powerUpTo_k2 x = some r) (fun x3 h => ?_) ?_
    · unfold impl_powerUpTo_k2 at h
      refine k_sreg (r_go [(6, .ov false [.sl (some 22) (x3.map (eO 3 eI))])] [] [] (by kernel_rfl) trivial) ?_
      refine k_ret ?_
      obtain rfl := Option.some.inj h
      exact e_ret (ls := [(.ov false [.sl (some 22) (x3.map (eO 3 eI))], 6)]) (by kernel_rfl) rfl (by kernel_rfl) rfl
    · refine k_sreg (r_go [(0, .d false [.sl none (a0.map (eF eI))]), (2, .p (.int .i64 a2)), (7, .ov false [.sl (some 22) (x2.map (eO 3 eI))]), (31, .p (.int .i64 a1)), (32, .p (.int .i64 0))] [] [] (by kernel_rfl) trivial) ?_
      refine k_block ?_
      obtain ⟨y5, hl_x4, hk_x4⟩ := bind_some' h
      clear h
      refine k_loop (J := fun (x : ((List (List Int)) × Int)) => [(0, .d false [.sl none (a0.map (eF eI))]), (2, .p (.int .i64 a2)), (7, .ov false [.sl (some 22) (x.1.map (eO 3 eI))]), (31, .p (.int .i64 a1)), (32, .p (.int .i64 x.2))]) hl_x4 (wk_of (by kernel_rfl) (by kernel_rfl)) (fun x4 o_x4 h hy_x4 => ?_)
      unfold impl_powerUpTo_b1 at h
      refine k_sreg (r_go [(0, .d false [.sl none (a0.map (eF eI))]), (2, .p (.int .i64 a2)), (7, .ov false [.sl (some 22) (x4.1.map (eO 3 eI))]), (31, .p (.int .i64 a1)), (32, .p (.int .i64 x4.2)), (33, .p (.bool (decide (x4.2 < a1))))] [] [] (by kernel_rfl) trivial) ?_
      refine k_seq ?_
      refine k_cond (b := (decide (x4.2 < a1))) (by kernel_rfl) (fun hc5_5 => ?_) (fun hc5_5 => ?_)
      · replace h := ite_t hc5_5 h
        refine k_skip ?_
        refine q_n ?_
        refine k_join (J := fun (x : (List (List Int))) => [(0, .d false [.sl none (a0.map (eF eI))]), (2, .p (.int .i64 a2)), (7, .ov false [.sl (some 22) (x.map (eO 3 eI))]), (31, .p (.int .i64 a1)), (32, .p (.int .i64 x4.2))]) (K := fun x => impl_powerUpTo_k3 x4 x = some o_x4) (fun x7 h => ?_) ?_
        · unfold impl_powerUpTo_k3 at h
          refine k_reg (r_go [(0, .d false [.sl none (a0.map (eF eI))]), (2, .p (.int .i64 a2)), (7, .ov false [.sl (some 22) (x7.map (eO 3 eI))]), (31, .p (.int .i64 a1)), (32, .p (.int .i64 (w64 (x4.2 + 1))))] [] [] (by kernel_rfl) trivial) ?_
          exact lq_n (x7, (w64 (x4.2 + 1))) (Option.some.inj h).symm (wk_of (by kernel_rfl) (by kernel_rfl))
        · refine k_block ?_
          replace h := bind_some' h
          obtain ⟨v8, hv8, h⟩ := h
          refine k_sreg (r_go [(0, .d false [.sl none (a0.map (eF eI))]), (2, .p (.int .i64 a2)), (7, .ov false [.sl (some 22) (x4.1.map (eO 3 eI))]), (9, .ov false [.sl (some 22) (v8.map (eO 3 eI))]), (31, .p (.int .i64 a1)), (32, .p (.int .i64 x4.2))] [(1, {n := some a0.length}), (2, {call := some ([.v (.int .i64 (a0.length : Int))], [.ov false [.sl (some 22) (v8.map (eO 3 eI))]], true)})] [(a0.map (eF eI)).length = a0.length, ([.v (.int .i64 (a0.length : Int))] : List Arg) = [.v (.int .i64 (a0.length : Int))], Meets Try.prog 113 ([.v (.int .i64 (a0.length : Int))] ++ []) { vals := [.ov false [.sl (some 22) (v8.map (eO 3 eI))]] }, List.all [.ov false [.sl (some 22) (v8.map (eO 3 eI))]] simpleR = true] (by kernel_rfl) ⟨(List.length_map ..), rfl, (wk_impl_emptyGraph hv8), (sa_o (wnR1 (wnL_enc (wn_O wn_I)) rfl) rfl), trivial⟩) ?_
          refine k_join (J := fun (x : (List (List Int))) => [(0, .d false [.sl none (a0.map (eF eI))]), (2, .p (.int .i64 a2)), (9, .ov false [.sl (some 22) (x.map (eO 3 eI))]), (31, .p (.int .i64 a1)), (32, .p (.int .i64 x4.2))]) (K := fun x => impl_powerUpTo_k4 x4 x = some o_x4) (fun x9 h => ?_) ?_
          · unfold impl_powerUpTo_k4 at h
            refine k_reg (r_go [(0, .d false [.sl none (a0.map (eF eI))]), (2, .p (.int .i64 a2)), (7, .ov false [.sl (some 22) (x9.map (eO 3 eI))]), (31, .p (.int .i64 a1)), (32, .p (.int .i64 x4.2))] [] [] (by kernel_rfl) trivial) ?_
            refine b_n ?_
            refine q_n ?_
            exact ⟨x9, h, (wk_of (by kernel_rfl) (by kernel_rfl))⟩
          · refine k_sreg (r_go [(0, .d false [.sl none (a0.map (eF eI))]), (2, .p (.int .i64 a2)), (7, .ov false [.sl (some 22) (x4.1.map (eO 3 eI))]), (9, .ov false [.sl (some 22) (v8.map (eO 3 eI))]), (31, .p (.int .i64 a1)), (32, .p (.int .i64 x4.2)), (37, .ref 7 [(0, 0)] none), (38, .p (.int .i64 (x4.1.length : Int))), (39, .p (.int .i64 0))] [(1, {n := some x4.1.length})] [(x4.1.map (eO 3 eI)).length = x4.1.length] (by kernel_rfl) ⟨(List.length_map ..), trivial⟩) ?_
            refine k_block ?_
            obtain ⟨y11, hl_x10, hk_x10⟩ := bind_some' h
            clear h
            refine k_loop (J := fun (x : ((List (List Int)) × Int)) => [(0, .d false [.sl none (a0.map (eF eI))]), (2, .p (.int .i64 a2)), (7, .ov false [.sl (some 22) (x4.1.map (eO 3 eI))]), (9, .ov false [.sl (some 22) (x.1.map (eO 3 eI))]), (31, .p (.int .i64 a1)), (32, .p (.int .i64 x4.2)), (37, .ref 7 [(0, 0)] none), (38, .p (.int .i64 (x4.1.length : Int))), (39, .p (.int .i64 x.2))]) hl_x10 (wk_of (by kernel_rfl) (by kernel_rfl)) (fun x10 o_x10 h hy_x10 => ?_)
            unfold impl_powerUpTo_b2 at h
            refine k_sreg (r_go [(0, .d false [.sl none (a0.map (eF eI))]), (2, .p (.int .i64 a2)), (7, .ov false [.sl (some 22) (x4.1.map (eO 3 eI))]), (9, .ov false [.sl (some 22) (x10.1.map (eO 3 eI))]), (31, .p (.int .i64 a1)), (32, .p (.int .i64 x4.2)), (37, .ref 7 [(0, 0)] none), (38, .p (.int .i64 (x4.1.length : Int))), (39, .p (.int .i64 x10.2)), (40, .p (.bool (decide (x10.2 < (x4.1.length : Int)))))] [] [] (by kernel_rfl) trivial) ?_
            refine k_seq ?_
            refine k_cond (b := (decide (x10.2 < (x4.1.length : Int)))) (by kernel_rfl) (fun hc10_11 => ?_) (fun hc10_11 => ?_)
            · replace h := ite_t hc10_11 h
              refine k_skip ?_
              refine q_n ?_
              refine k_join (J := fun (x : (List (List Int))) => [(0, .d false [.sl none (a0.map (eF eI))]), (2, .p (.int .i64 a2)), (7, .ov false [.sl (some 22) (x4.1.map (eO 3 eI))]), (9, .ov false [.sl (some 22) (x.map (eO 3 eI))]), (31, .p (.int .i64 a1)), (32, .p (.int .i64 x4.2)), (37, .ref 7 [(0, 0)] none), (38, .p (.int .i64 (x4.1.length : Int))), (39, .p (.int .i64 x10.2))]) (K := fun x => impl_powerUpTo_k5 x10 x = some o_x10) (fun x13 h => ?_) ?_
              · unfold impl_powerUpTo_k5 at h
                refine k_reg (r_go [(0, .d false [.sl none (a0.map (eF eI))]), (2, .p (.int .i64 a2)), (7, .ov false [.sl (some 22) (x4.1.map (eO 3 eI))]), (9, .ov false [.sl (some 22) (x13.map (eO 3 eI))]), (31, .p (.int .i64 a1)), (32, .p (.int .i64 x4.2)), (37, .ref 7 [(0, 0)] none), (38, .p (.int .i64 (x4.1.length : Int))), (39, .p (.int .i64 (w64 (x10.2 + 1))))] [] [] (by kernel_rfl) trivial) ?_
                exact lq_n (x13, (w64 (x10.2 + 1))) (Option.some.inj h).symm (wk_of (by kernel_rfl) (by kernel_rfl))
              · refine k_block ?_
                replace h := bind_some' h
                obtain ⟨v14, hv14, h⟩ := h
                refine k_sreg (r_go [(0, .d false [.sl none (a0.map (eF eI))]), (2, .p (.int .i64 a2)), (7, .ov false [.sl (some 22) (x4.1.map (eO 3 eI))]), (9, .ov false [.sl (some 22) (x10.1.map (eO 3 eI))]), (10, .p (.int .i64 x10.2)), (11, .ref 7 [(0, 0), ((Int.toNat x10.2), 0)] none), (31, .p (.int .i64 a1)), (32, .p (.int .i64 x4.2)), (37, .ref 7 [(0, 0)] none), (38, .p (.int .i64 (x4.1.length : Int))), (39, .p (.int .i64 x10.2))] [(1, {row := some [.sl (some 3) (v14.map eI)]}), (2, {row := some [.sl (some 3) (v14.map eI)]})] [0 ≤ x10.2, (x4.1.map (eO 3 eI))[(Int.toNat x10.2)]? = some [.sl (some 3) (v14.map eI)], frR [.sl (some 3) (v14.map eI)] = false, getRow [[.sl (some 22) (x4.1.map (eO 3 eI))]] [(0, 0), ((Int.toNat x10.2), 0)] = some [.sl (some 3) (v14.map eI)]] (by kernel_rfl) ⟨(idxO_some hv14).1, (map_get (eO 3 eI) (idxO_some hv14).2), rfl, ((gr0 rfl).trans (gre (map_get (eO 3 eI) (idxO_some hv14).2))), trivial⟩) ?_
                refine k_sreg (r_go [(0, .d false [.sl none (a0.map (eF eI))]), (2, .p (.int .i64 a2)), (7, .ov false [.sl (some 22) (x4.1.map (eO 3 eI))]), (9, .ov false [.sl (some 22) (x10.1.map (eO 3 eI))]), (10, .p (.int .i64 x10.2)), (31, .p (.int .i64 a1)), (32, .p (.int .i64 x4.2)), (37, .ref 7 [(0, 0)] none), (38, .p (.int .i64 (x4.1.length : Int))), (39, .p (.int .i64 x10.2)), (44, .ref 7 [(0, 0), ((Int.toNat x10.2), 0)] none), (45, .p (.int .i64 (v14.length : Int))), (46, .p (.int .i64 0))] [(1, {deep := some [.sl (some 3) (v14.map eI)], n := some v14.length})] [(v14.map eI).length = v14.length, getRow [[.sl (some 22) (x4.1.map (eO 3 eI))]] [(0, 0), ((Int.toNat x10.2), 0)] = some [.sl (some 3) (v14.map eI)]] (by kernel_rfl) ⟨(List.length_map ..), ((gr0 rfl).trans (gre (map_get (eO 3 eI) (idxO_some hv14).2))), trivial⟩) ?_
                refine k_block ?_
                obtain ⟨y16, hl_x15, hk_x15⟩ := bind_some' h
                clear h
                refine k_loop (J := fun (x : ((List (List Int)) × Int)) => [(0, .d false [.sl none (a0.map (eF eI))]), (2, .p (.int .i64 a2)), (7, .ov false [.sl (some 22) (x4.1.map (eO 3 eI))]), (9, .ov false [.sl (some 22) (x.1.map (eO 3 eI))]), (10, .p (.int .i64 x10.2)), (31, .p (.int .i64 a1)), (32, .p (.int .i64 x4.2)), (37, .ref 7 [(0, 0)] none), (38, .p (.int .i64 (x4.1.length : Int))), (39, .p (.int .i64 x10.2)), (44, .ref 7 [(0, 0), ((Int.toNat x10.2), 0)] none), (45, .p (.int .i64 (v14.length : Int))), (46, .p (.int .i64 x.2))]) hl_x15 (wk_of (by kernel_rfl) (by kernel_rfl)) (fun x15 o_x15 h hy_x15 => ?_)
                unfold impl_powerUpTo_b3 at h
                refine k_sreg (r_go [(0, .d false [.sl none (a0.map (eF eI))]), (2, .p (.int .i64 a2)), (7, .ov false [.sl (some 22) (x4.1.map (eO 3 eI))]), (9, .ov false [.sl (some 22) (x15.1.map (eO 3 eI))]), (10, .p (.int .i64 x10.2)), (31, .p (.int .i64 a1)), (32, .p (.int .i64 x4.2)), (37, .ref 7 [(0, 0)] none), (38, .p (.int .i64 (x4.1.length : Int))), (39, .p (.int .i64 x10.2)), (44, .ref 7 [(0, 0), ((Int.toNat x10.2), 0)] none), (45, .p (.int .i64 (v14.length : Int))), (46, .p (.int .i64 x15.2)), (47, .p (.bool (decide (x15.2 < (v14.length : Int)))))] [] [] (by kernel_rfl) trivial) ?_
                refine k_seq ?_
                refine k_cond (b := (decide (x15.2 < (v14.length : Int)))) (by kernel_rfl) (fun hc14_16 => ?_) (fun hc14_16 => ?_)
                · replace h := ite_t hc14_16 h
                  refine k_skip ?_
                  refine q_n ?_
                  refine k_join (J := fun (x : (List (List Int))) => [(0, .d false [.sl none (a0.map (eF eI))]), (2, .p (.int .i64 a2)), (7, .ov false [.sl (some 22) (x4.1.map (eO 3 eI))]), (9, .ov false [.sl (some 22) (x.map (eO 3 eI))]), (10, .p (.int .i64 x10.2)), (31, .p (.int .i64 a1)), (32, .p (.int .i64 x4.2)), (37, .ref 7 [(0, 0)] none), (38, .p (.int .i64 (x4.1.length : Int))), (39, .p (.int .i64 x10.2)), (44, .ref 7 [(0, 0), ((Int.toNat x10.2), 0)] none), (45, .p (.int .i64 (v14.length : Int))), (46, .p (.int .i64 x15.2))]) (K := fun x => impl_powerUpTo_k6 x15 x = some o_x15) (fun x18 h => ?_) ?_
                  · unfold impl_powerUpTo_k6 at h
                    refine k_reg (r_go [(0, .d false [.sl none (a0.map (eF eI))]), (2, .p (.int .i64 a2)), (7, .ov false [.sl (some 22) (x4.1.map (eO 3 eI))]), (9, .ov false [.sl (some 22) (x18.map (eO 3 eI))]), (10, .p (.int .i64 x10.2)), (31, .p (.int .i64 a1)), (32, .p (.int .i64 x4.2)), (37, .ref 7 [(0, 0)] none), (38, .p (.int .i64 (x4.1.length : Int))), (39, .p (.int .i64 x10.2)), (44, .ref 7 [(0, 0), ((Int.toNat x10.2), 0)] none), (45, .p (.int .i64 (v14.length : Int))), (46, .p (.int .i64 (w64 (x15.2 + 1))))] [] [] (by kernel_rfl) trivial) ?_
                    exact lq_n (x18, (w64 (x15.2 + 1))) (Option.some.inj h).symm (wk_of (by kernel_rfl) (by kernel_rfl))
                  · refine k_block ?_
                    replace h := bind_some' h
                    obtain ⟨v19, hv19, h⟩ := h
                    refine k_sreg (r_go [(0, .d false [.sl none (a0.map (eF eI))]), (2, .p (.int .i64 a2)), (7, .ov false [.sl (some 22) (x4.1.map (eO 3 eI))]), (9, .ov false [.sl (some 22) (x15.1.map (eO 3 eI))]), (10, .p (.int .i64 x10.2)), (12, .p (.int .i64 x15.2)), (13, .p (.int .i64 v19)), (31, .p (.int .i64 a1)), (32, .p (.int .i64 x4.2)), (37, .ref 7 [(0, 0)] none), (38, .p (.int .i64 (x4.1.length : Int))), (39, .p (.int .i64 x10.2)), (44, .ref 7 [(0, 0), ((Int.toNat x10.2), 0)] none), (45, .p (.int .i64 (v14.length : Int))), (46, .p (.int .i64 x15.2))] [(1, {deep := some [.sl (some 3) (v14.map eI)], row := some [.raw (.int .i64 v19)]}), (2, {row := some [.raw (.int .i64 v19)]})] [0 ≤ x15.2, (v14.map eI)[(Int.toNat x15.2)]? = some [.raw (.int .i64 v19)], getRow [[.sl (some 22) (x4.1.map (eO 3 eI))]] [(0, 0), ((Int.toNat x10.2), 0)] = some [.sl (some 3) (v14.map eI)], getRow [[.sl (some 22) (x4.1.map (eO 3 eI))]] [(0, 0), ((Int.toNat x10.2), 0), ((Int.toNat x15.2), 0)] = some [.raw (.int .i64 v19)]] (by kernel_rfl) ⟨(idxO_some hv19).1, (map_get eI (idxO_some hv19).2), ((gr0 rfl).trans (gre (map_get (eO 3 eI) (idxO_some hv14).2))), ((gr0 rfl).trans ((grs (map_get (eO 3 eI) (idxO_some hv14).2) rfl).trans (gre (map_get eI (idxO_some hv19).2)))), trivial⟩) ?_
                    replace h := bind_some' h
                    obtain ⟨v20, hv20, h⟩ := h
                    refine k_sreg (r_go [(0, .d false [.sl none (a0.map (eF eI))]), (2, .p (.int .i64 a2)), (7, .ov false [.sl (some 22) (x4.1.map (eO 3 eI))]), (9, .ov false [.sl (some 22) (x15.1.map (eO 3 eI))]), (10, .p (.int .i64 x10.2)), (13, .p (.int .i64 v19)), (31, .p (.int .i64 a1)), (32, .p (.int .i64 x4.2)), (37, .ref 7 [(0, 0)] none), (38, .p (.int .i64 (x4.1.length : Int))), (39, .p (.int .i64 x10.2)), (44, .ref 7 [(0, 0), ((Int.toNat x10.2), 0)] none), (45, .p (.int .i64 (v14.length : Int))), (46, .p (.int .i64 x15.2)), (54, .d false [.sl none (v20.map eI)]), (55, .p (.int .i64 (v20.length : Int))), (56, .p (.int .i64 0))] [(2, {row := some [.sl none (v20.map eI)]}), (4, {n := some v20.length})] [0 ≤ x15.2, (a0.map (eF eI))[(Int.toNat x15.2)]? = some [.sl none (v20.map eI)], (v20.map eI).length = v20.length] (by kernel_rfl) ⟨(idxO_some hv20).1, (map_get (eF eI) (idxO_some hv20).2), (List.length_map ..), trivial⟩) ?_
                    refine k_block ?_
                    obtain ⟨y22, hl_x21, hk_x21⟩ := bind_some' h
                    clear h
                    refine k_loop (J := fun (x : ((List (List Int)) × Int)) => [(0, .d false [.sl none (a0.map (eF eI))]), (2, .p (.int .i64 a2)), (7, .ov false [.sl (some 22) (x4.1.map (eO 3 eI))]), (9, .ov false [.sl (some 22) (x.1.map (eO 3 eI))]), (10, .p (.int .i64 x10.2)), (13, .p (.int .i64 v19)), (31, .p (.int .i64 a1)), (32, .p (.int .i64 x4.2)), (37, .ref 7 [(0, 0)] none), (38, .p (.int .i64 (x4.1.length : Int))), (39, .p (.int .i64 x10.2)), (44, .ref 7 [(0, 0), ((Int.toNat x10.2), 0)] none), (45, .p (.int .i64 (v14.length : Int))), (46, .p (.int .i64 x15.2)), (54, .d false [.sl none (v20.map eI)]), (55, .p (.int .i64 (v20.length : Int))), (56, .p (.int .i64 x.2))]) hl_x21 (wk_of (by kernel_rfl) (by kernel_rfl)) (fun x21 o_x21 h hy_x21 => ?_)
                    unfold impl_powerUpTo_b4 at h
                    refine k_sreg (r_go [(0, .d false [.sl none (a0.map (eF eI))]), (2, .p (.int .i64 a2)), (7, .ov false [.sl (some 22) (x4.1.map (eO 3 eI))]), (9, .ov false [.sl (some 22) (x21.1.map (eO 3 eI))]), (10, .p (.int .i64 x10.2)), (13, .p (.int .i64 v19)), (31, .p (.int .i64 a1)), (32, .p (.int .i64 x4.2)), (37, .ref 7 [(0, 0)] none), (38, .p (.int .i64 (x4.1.length : Int))), (39, .p (.int .i64 x10.2)), (44, .ref 7 [(0, 0), ((Int.toNat x10.2), 0)] none), (45, .p (.int .i64 (v14.length : Int))), (46, .p (.int .i64 x15.2)), (54, .d false [.sl none (v20.map eI)]), (55, .p (.int .i64 (v20.length : Int))), (56, .p (.int .i64 x21.2)), (57, .p (.bool (decide (x21.2 < (v20.length : Int)))))] [] [] (by kernel_rfl) trivial) ?_
                    refine k_seq ?_
                    refine k_cond (b := (decide (x21.2 < (v20.length : Int)))) (by kernel_rfl) (fun hc18_22 => ?_) (fun hc18_22 => ?_)
                    · replace h := ite_t hc18_22 h
                      refine k_skip ?_
                      refine q_n ?_
                      refine k_seq ?_
                      refine k_block ?_
                      replace h := bind_some' h
                      obtain ⟨v24, hv24, h⟩ := h
                      refine k_sreg (r_go [(0, .d false [.sl none (a0.map (eF eI))]), (2, .p (.int .i64 a2)), (7, .ov false [.sl (some 22) (x4.1.map (eO 3 eI))]), (9, .ov false [.sl (some 22) (x21.1.map (eO 3 eI))]), (10, .p (.int .i64 x10.2)), (13, .p (.int .i64 v19)), (14, .p (.int .i64 x21.2)), (15, .p (.int .i64 v24)), (31, .p (.int .i64 a1)), (32, .p (.int .i64 x4.2)), (37, .ref 7 [(0, 0)] none), (38, .p (.int .i64 (x4.1.length : Int))), (39, .p (.int .i64 x10.2)), (44, .ref 7 [(0, 0), ((Int.toNat x10.2), 0)] none), (45, .p (.int .i64 (v14.length : Int))), (46, .p (.int .i64 x15.2)), (54, .d false [.sl none (v20.map eI)]), (55, .p (.int .i64 (v20.length : Int))), (56, .p (.int .i64 x21.2))] [(1, {row := some [.raw (.int .i64 v24)]})] [0 ≤ x21.2, (v20.map eI)[(Int.toNat x21.2)]? = some [.raw (.int .i64 v24)]] (by kernel_rfl) ⟨(idxO_some hv24).1, (map_get eI (idxO_some hv24).2), trivial⟩) ?_
                      replace h := bind_some' h
                      obtain ⟨v25, hv25, h⟩ := h
                      replace h := bind_some' h
                      obtain ⟨v26, hv26, h⟩ := h
                      refine k_reg (r_draw Try_mixed 18 [] [(0, .d false [.sl none (a0.map (eF eI))]), (2, .p (.int .i64 a2)), (7, .ov false [.sl (some 22) (x4.1.map (eO 3 eI))]), (9, .ov false [.sl (some 22) ((x21.1.set (Int.toNat x10.2) (v25.set (Int.toNat x21.2) (if a2 < (w64 (v26 + (w64 (v19 * v24)))) then a2 else (w64 (v26 + (w64 (v19 * v24))))))).map (eO 3 eI))]), (10, .p (.int .i64 x10.2)), (13, .p (.int .i64 v19)), (31, .p (.int .i64 a1)), (32, .p (.int .i64 x4.2)), (37, .ref 7 [(0, 0)] none), (38, .p (.int .i64 (x4.1.length : Int))), (39, .p (.int .i64 x10.2)), (44, .ref 7 [(0, 0), ((Int.toNat x10.2), 0)] none), (45, .p (.int .i64 (v14.length : Int))), (46, .p (.int .i64 x15.2)), (54, .d false [.sl none (v20.map eI)]), (55, .p (.int .i64 (v20.length : Int))), (56, .p (.int .i64 x21.2))] [(2, {row := some [.sl (some 3) (v25.map eI)]}), (3, {row := some [.sl (some 3) (v25.map eI)]}), (7, {row := some [.sl (some 3) (v25.map eI)]}), (8, {row := some [.sl (some 3) (v25.map eI)]}), (10, {deep := some [.sl (some 3) (v25.map eI)], row := some [.raw (.int .i64 v26)]}), (11, {row := some [.raw (.int .i64 v26)]}), (18, {deep := some [.sl (some 3) (v25.map eI)], row := some [.raw (.int .i64 v26)]}), (19, {row := some [.raw (.int .i64 v26)], fix := some (9, .ov false [.sl (some 22) ((x21.1.set (Int.toNat x10.2) (v25.set (Int.toNat x21.2) (if a2 < (w64 (v26 + (w64 (v19 * v24)))) then a2 else (w64 (v26 + (w64 (v19 * v24))))))).map (eO 3 eI))])})] [0 ≤ x10.2, (x21.1.map (eO 3 eI))[(Int.toNat x10.2)]? = some [.sl (some 3) (v25.map eI)], frR [.sl (some 3) (v25.map eI)] = false, getRow [[.sl (some 22) (x21.1.map (eO 3 eI))]] [(0, 0), ((Int.toNat x10.2), 0)] = some [.sl (some 3) (v25.map eI)], 0 ≤ x10.2, (x21.1.map (eO 3 eI))[(Int.toNat x10.2)]? = some [.sl (some 3) (v25.map eI)], frR [.sl (some 3) (v25.map eI)] = false, getRow [[.sl (some 22) (x21.1.map (eO 3 eI))]] [(0, 0), ((Int.toNat x10.2), 0)] = some [.sl (some 3) (v25.map eI)], 0 ≤ x21.2, (v25.map eI)[(Int.toNat x21.2)]? = some [.raw (.int .i64 v26)], getRow [[.sl (some 22) (x21.1.map (eO 3 eI))]] [(0, 0), ((Int.toNat x10.2), 0)] = some [.sl (some 3) (v25.map eI)], getRow [[.sl (some 22) (x21.1.map (eO 3 eI))]] [(0, 0), ((Int.toNat x10.2), 0), ((Int.toNat x21.2), 0)] = some [.raw (.int .i64 v26)], 0 ≤ x21.2, (v25.map eI)[(Int.toNat x21.2)]? = some [.raw (.int .i64 v26)], getRow [[.sl (some 22) (x21.1.map (eO 3 eI))]] [(0, 0), ((Int.toNat x10.2), 0)] = some [.sl (some 3) (v25.map eI)], getRow [[.sl (some 22) (x21.1.map (eO 3 eI))]] [(0, 0), ((Int.toNat x10.2), 0), ((Int.toNat x21.2), 0)] = some [.raw (.int .i64 v26)], (SV.ov false [.sl (some 22) (setL (x21.1.map (eO 3 eI)) [((Int.toNat x10.2), 0), ((Int.toNat x21.2), 0)] [.raw (.int .i64 (if a2 < (w64 (v26 + (w64 (v19 * v24)))) then a2 else (w64 (v26 + (w64 (v19 * v24))))))])] : SV) = .ov false [.sl (some 22) ((x21.1.set (Int.toNat x10.2) (v25.set (Int.toNat x21.2) (if a2 < (w64 (v26 + (w64 (v19 * v24)))) then a2 else (w64 (v26 + (w64 (v19 * v24))))))).map (eO 3 eI))]] (by kernel_rfl) ⟨(idxO_some hv25).1, (map_get (eO 3 eI) (idxO_some hv25).2), rfl, ((gr0 rfl).trans (gre (map_get (eO 3 eI) (idxO_some hv25).2))), (idxO_some hv25).1, (map_get (eO 3 eI) (idxO_some hv25).2), rfl, ((gr0 rfl).trans (gre (map_get (eO 3 eI) (idxO_some hv25).2))), (idxO_some hv26).1, (map_get eI (idxO_some hv26).2), ((gr0 rfl).trans (gre (map_get (eO 3 eI) (idxO_some hv25).2))), ((gr0 rfl).trans ((grs (map_get (eO 3 eI) (idxO_some hv25).2) rfl).trans (gre (map_get eI (idxO_some hv26).2)))), (idxO_some hv26).1, (map_get eI (idxO_some hv26).2), ((gr0 rfl).trans (gre (map_get (eO 3 eI) (idxO_some hv25).2))), ((gr0 rfl).trans ((grs (map_get (eO 3 eI) (idxO_some hv25).2) rfl).trans (gre (map_get eI (idxO_some hv26).2)))), (congrArg (fun z => SV.ov false [.sl (some 22) z]) (set2 (f := (eO 3 eI)) (y := (v25.set (Int.toNat x21.2) (if a2 < (w64 (v26 + (w64 (v19 * v24)))) then a2 else (w64 (v26 + (w64 (v19 * v24))))))) (idxO_some hv25).2 rfl (set1 (f := eI) (y := (if a2 < (w64 (v26 + (w64 (v19 * v24)))) then a2 else (w64 (v26 + (w64 (v19 * v24)))))) (idxO_some hv26).2 rfl) rfl)), trivial⟩) ?_
                      refine b_n ?_
                      refine q_n ?_
                      refine k_reg (r_go [(0, .d false [.sl none (a0.map (eF eI))]), (2, .p (.int .i64 a2)), (7, .ov false [.sl (some 22) (x4.1.map (eO 3 eI))]), (9, .ov false [.sl (some 22) ((x21.1.set (Int.toNat x10.2) (v25.set (Int.toNat x21.2) (if a2 < (w64 (v26 + (w64 (v19 * v24)))) then a2 else (w64 (v26 + (w64 (v19 * v24))))))).map (eO 3 eI))]), (10, .p (.int .i64 x10.2)), (13, .p (.int .i64 v19)), (31, .p (.int .i64 a1)), (32, .p (.int .i64 x4.2)), (37, .ref 7 [(0, 0)] none), (38, .p (.int .i64 (x4.1.length : Int))), (39, .p (.int .i64 x10.2)), (44, .ref 7 [(0, 0), ((Int.toNat x10.2), 0)] none), (45, .p (.int .i64 (v14.length : Int))), (46, .p (.int .i64 x15.2)), (54, .d false [.sl none (v20.map eI)]), (55, .p (.int .i64 (v20.length : Int))), (56, .p (.int .i64 (w64 (x21.2 + 1))))] [] [] (by kernel_rfl) trivial) ?_
                      exact lq_n ((x21.1.set (Int.toNat x10.2) (v25.set (Int.toNat x21.2) (if a2 < (w64 (v26 + (w64 (v19 * v24)))) then a2 else (w64 (v26 + (w64 (v19 * v24))))))), (w64 (x21.2 + 1))) (Option.some.inj h).symm (wk_of (by kernel_rfl) (by kernel_rfl))
                    · replace h := ite_f hc18_22 h
                      refine k_exit ?_
                      refine q_x ?_
                      refine lq_x ?_
                      refine b_x ?_
                      refine b_n ?_
                      have hyy := hy_x21 _ (Option.some.inj h).symm
                      subst hyy
                      have h := hk_x21
                      refine q_n ?_
                      exact ⟨x21.1, h, (wk_of (by kernel_rfl) (by kernel_rfl))⟩
                · replace h := ite_f hc14_16 h
                  refine k_exit ?_
                  refine q_x ?_
                  refine lq_x ?_
                  refine b_x ?_
                  refine b_n ?_
                  have hyy := hy_x15 _ (Option.some.inj h).symm
                  subst hyy
                  have h := hk_x15
                  refine q_n ?_
                  exact ⟨x15.1, h, (wk_of (by kernel_rfl) (by kernel_rfl))⟩
            · replace h := ite_f hc10_11 h
              refine k_exit ?_
              refine q_x ?_
              refine lq_x ?_
              refine b_x ?_
              have hyy := hy_x10 _ (Option.some.inj h).symm
              subst hyy
              have h := hk_x10
              refine q_n ?_
              exact ⟨x10.1, h, (wk_of (by kernel_rfl) (by kernel_rfl))⟩
      · replace h := ite_f hc5_5 h
        refine k_exit ?_
        refine q_x ?_
        refine lq_x ?_
        refine b_x ?_
        have hyy := hy_x4 _ (Option.some.inj h).symm
        subst hyy
        have h := hk_x4
        refine q_n ?_
        exact ⟨x4.1, h, (wk_of (by kernel_rfl) (by kernel_rfl))⟩
  · refine k_sreg (r_go [(0, .d false [.sl none (a0.map (eF eI))]), (1, .p (.int .i64 a1)), (2, .p (.int .i64 a2)), (7, .ov false [.sl (some 22) (v1.map (eO 3 eI))]), (20, .p (.int .i64 (v1.length : Int))), (21, .p (.int .i64 0))] [(1, {n := some v1.length})] [(v1.map (eO 3 eI)).length = v1.length] (by kernel_rfl) ⟨(List.length_map ..), trivial⟩) ?_
    refine k_block ?_
    obtain ⟨y28, hl_x27, hk_x27⟩ := bind_some' h
    clear h
    refine k_loop (J := fun (x : ((List (List Int)) × Int)) => [(0, .d false [.sl none (a0.map (eF eI))]), (1, .p (.int .i64 a1)), (2, .p (.int .i64 a2)), (7, .ov false [.sl (some 22) (x.1.map (eO 3 eI))]), (20, .p (.int .i64 (v1.length : Int))), (21, .p (.int .i64 x.2))]) hl_x27 (wk_of (by kernel_rfl) (by kernel_rfl)) (fun x27 o_x27 h hy_x27 => ?_)
    unfold impl_powerUpTo_b5 at h
    refine k_sreg (r_go [(0, .d false [.sl none (a0.map (eF eI))]), (1, .p (.int .i64 a1)), (2, .p (.int .i64 a2)), (7, .ov false [.sl (some 22) (x27.1.map (eO 3 eI))]), (20, .p (.int .i64 (v1.length : Int))), (21, .p (.int .i64 x27.2)), (22, .p (.bool (decide (x27.2 < (v1.length : Int)))))] [] [] (by kernel_rfl) trivial) ?_
    refine k_seq ?_
    refine k_cond (b := (decide (x27.2 < (v1.length : Int)))) (by kernel_rfl) (fun hc5_28 => ?_) (fun hc5_28 => ?_)
    · replace h := ite_t hc5_28 h
      refine k_skip ?_
      refine q_n ?_
      refine k_seq ?_
      refine k_block ?_
      refine k_sreg (r_go [(0, .d false [.sl none (a0.map (eF eI))]), (1, .p (.int .i64 a1)), (2, .p (.int .i64 a2)), (7, .ov false [.sl (some 22) (x27.1.map (eO 3 eI))]), (8, .p (.int .i64 x27.2)), (20, .p (.int .i64 (v1.length : Int))), (21, .p (.int .i64 x27.2))] [] [] (by kernel_rfl) trivial) ?_
      replace h := bind_some' h
      obtain ⟨v30, hv30, h⟩ := h
      replace h := bind_some' h
      obtain ⟨v31, hv31, h⟩ := h
      refine k_reg (r_go [(0, .d false [.sl none (a0.map (eF eI))]), (1, .p (.int .i64 a1)), (2, .p (.int .i64 a2)), (7, .ov false [.sl (some 22) ((x27.1.set (Int.toNat x27.2) (v30.set (Int.toNat x27.2) 1)).map (eO 3 eI))]), (20, .p (.int .i64 (v1.length : Int))), (21, .p (.int .i64 x27.2))] [(2, {row := some [.sl (some 3) (v30.map eI)]}), (3, {row := some [.sl (some 3) (v30.map eI)]}), (5, {deep := some [.sl (some 3) (v30.map eI)], row := some [.raw (.int .i64 v31)]}), (6, {row := some [.raw (.int .i64 v31)], fix := some (7, .ov false [.sl (some 22) ((x27.1.set (Int.toNat x27.2) (v30.set (Int.toNat x27.2) 1)).map (eO 3 eI))])})] [0 ≤ x27.2, (x27.1.map (eO 3 eI))[(Int.toNat x27.2)]? = some [.sl (some 3) (v30.map eI)], frR [.sl (some 3) (v30.map eI)] = false, getRow [[.sl (some 22) (x27.1.map (eO 3 eI))]] [(0, 0), ((Int.toNat x27.2), 0)] = some [.sl (some 3) (v30.map eI)], 0 ≤ x27.2, (v30.map eI)[(Int.toNat x27.2)]? = some [.raw (.int .i64 v31)], getRow [[.sl (some 22) (x27.1.map (eO 3 eI))]] [(0, 0), ((Int.toNat x27.2), 0)] = some [.sl (some 3) (v30.map eI)], getRow [[.sl (some 22) (x27.1.map (eO 3 eI))]] [(0, 0), ((Int.toNat x27.2), 0), ((Int.toNat x27.2), 0)] = some [.raw (.int .i64 v31)], (SV.ov false [.sl (some 22) (setL (x27.1.map (eO 3 eI)) [((Int.toNat x27.2), 0), ((Int.toNat x27.2), 0)] [.raw (.int .i64 1)])] : SV) = .ov false [.sl (some 22) ((x27.1.set (Int.toNat x27.2) (v30.set (Int.toNat x27.2) 1)).map (eO 3 eI))]] (by kernel_rfl) ⟨(idxO_some hv30).1, (map_get (eO 3 eI) (idxO_some hv30).2), rfl, ((gr0 rfl).trans (gre (map_get (eO 3 eI) (idxO_some hv30).2))), (idxO_some hv31).1, (map_get eI (idxO_some hv31).2), ((gr0 rfl).trans (gre (map_get (eO 3 eI) (idxO_some hv30).2))), ((gr0 rfl).trans ((grs (map_get (eO 3 eI) (idxO_some hv30).2) rfl).trans (gre (map_get eI (idxO_some hv31).2)))), (congrArg (fun z => SV.ov false [.sl (some 22) z]) (set2 (f := (eO 3 eI)) (y := (v30.set (Int.toNat x27.2) 1)) (idxO_some hv30).2 rfl (set1 (f := eI) (y := 1) (idxO_some hv31).2 rfl) rfl)), trivial⟩) ?_
      refine b_n ?_
      refine q_n ?_
      refine k_reg (r_go [(0, .d false [.sl none (a0.map (eF eI))]), (1, .p (.int .i64 a1)), (2, .p (.int .i64 a2)), (7, .ov false [.sl (some 22) ((x27.1.set (Int.toNat x27.2) (v30.set (Int.toNat x27.2) 1)).map (eO 3 eI))]), (20, .p (.int .i64 (v1.length : Int))), (21, .p (.int .i64 (w64 (x27.2 + 1))))] [] [] (by kernel_rfl) trivial) ?_
      exact lq_n ((x27.1.set (Int.toNat x27.2) (v30.set (Int.toNat x27.2) 1)), (w64 (x27.2 + 1))) (Option.some.inj h).symm (wk_of (by kernel_rfl) (by kernel_rfl))
    · replace h := ite_f hc5_28 h
      refine k_exit ?_
      refine q_x ?_
      refine lq_x ?_
      refine b_x ?_
      have hyy := hy_x27 _ (Option.some.inj h).symm
      subst hyy
      have h := hk_x27
      refine q_n ?_
      exact ⟨x27.1, h, (wk_of (by kernel_rfl) (by kernel_rfl))⟩
theorem wk_impl_power {a0 : (List (List Int))} {a1 : Int}  {r : (List (List Int))} (h : impl_power a0 a1 = some r) : Meets Try.prog 67 [.d false [.sl none (a0.map (eF eI))], .v (.int .i64 a1)] { vals := [.ov false [.sl (some 22) (r.map (eO 3 eI))]] } := by
  refine Meets_ofL (by kernel_rfl) Try.func67 rfl (by kernel_rfl) (l0 := [(0, .d false [.sl none (a0.map (eF eI))]), (1, .p (.int .i64 a1))]) (by kernel_rfl) ?_
  unfold impl_power at h
  refine k_sreg (r_go [(0, .d false [.sl none (a0.map (eF eI))]), (1, .p (.int .i64 a1))] [] [] (by kernel_rfl) trivial) ?_
  replace h := bind_some' h
  obtain ⟨v1, hv1, h⟩ := h
  refine k_sreg (r_go [(4, .ov false [.sl (some 22) (v1.map (eO 3 eI))])] [(2, {call := some ([.d false [.sl none (a0.map (eF eI))], .v (.int .i64 a1), .v (.int .i64 1000000001)], [.ov false [.sl (some 22) (v1.map (eO 3 eI))]], true)})] [([.d false [.sl none (a0.map (eF eI))], .v (.int .i64 a1), .v (.int .i64 1000000001)] : List Arg) = [.d false [.sl none (a0.map (eF eI))], .v (.int .i64 a1), .v (.int .i64 1000000001)], Meets Try.prog 99 ([.d false [.sl none (a0.map (eF eI))], .v (.int .i64 a1), .v (.int .i64 1000000001)] ++ []) { vals := [.ov false [.sl (some 22) (v1.map (eO 3 eI))]] }, List.all [.ov false [.sl (some 22) (v1.map (eO 3 eI))]] simpleR = true] (by kernel_rfl) ⟨rfl, (wk_impl_powerUpTo hv1), (sa_o (wnR1 (wnL_enc (wn_O wn_I)) rfl) rfl), trivial⟩) ?_
  refine k_ret ?_
  obtain rfl := Option.some.inj h
  exact e_ret (ls := [(.ov false [.sl (some 22) (v1.map (eO 3 eI))], 4)]) (by kernel_rfl) rfl (by kernel_rfl) rfl
theorem wk_impl_closedWalks {a0 : (List (List Int))} {a1 : Int}  {r : (Int × Bool)} (h : impl_closedWalks a0 a1 = some r) : Meets Try.prog 105 [.d false [.sl none (a0.map (eF eI))], .v (.int .i64 a1)] { vals := [.p (.int .i64 r.1), .p (.bool r.2)] } := by
  refine Meets_ofL (by kernel_rfl) Try.func105 rfl (by kernel_rfl) (l0 := [(0, .d false [.sl none (a0.map (eF eI))]), (1, .p (.int .i64 a1))]) (by kernel_rfl) ?_
  unfold impl_closedWalks at h
  refine k_sreg (r_go [(0, .d false [.sl none (a0.map (eF eI))]), (1, .p (.int .i64 a1))] [] [] (by kernel_rfl) trivial) ?_
  refine k_sreg (r_go [(0, .d false [.sl none (a0.map (eF eI))]), (1, .p (.int .i64 a1)), (6, .p (.int .i64 0))] [] [] (by kernel_rfl) trivial) ?_
  refine k_join (J := fun (x : Int) => [(6, .p (.int .i64 x))]) (K := fun x => impl_closedWalks_k1 x = some r) (fun x1 h => ?_) ?_
  · unfold impl_closedWalks_k1 at h
    refine k_seq ?_
    refine k_sreg (r_go [(6, .p (.int .i64 x1)), (26, .p (.bool (decide (x1 > 1000000000))))] [] [] (by kernel_rfl) trivial) ?_
    refine k_cond (b := (decide (x1 > 1000000000))) (by kernel_rfl) (fun hc2_1 => ?_) (fun hc2_1 => ?_)
    · replace h := ite_t hc2_1 h
      refine k_sreg (r_go [(4, .p (.int .i64 0)), (5, .p (.bool false))] [] [] (by kernel_rfl) trivial) ?_
      refine k_ret ?_
      refine q_r ?_
      obtain rfl := Option.some.inj h
      exact e_ret (ls := [(.p (.int .i64 0), 4), (.p (.bool false), 5)]) (by kernel_rfl) rfl (by kernel_rfl) rfl
    · replace h := ite_f hc2_1 h
      refine k_skip ?_
      refine q_n ?_
      refine k_sreg (r_go [(4, .p (.int .i64 x1)), (5, .p (.bool true))] [] [] (by kernel_rfl) trivial) ?_
      refine k_ret ?_
      obtain rfl := Option.some.inj h
      exact e_ret (ls := [(.p (.int .i64 x1), 4), (.p (.bool true), 5)]) (by kernel_rfl) rfl (by kernel_rfl) rfl
  · replace h := bind_some' h
    obtain ⟨v3, hv3, h⟩ := h
    refine k_sreg (r_go [(6, .p (.int .i64 0)), (11, .ov false [.sl (some 22) (v3.map (eO 3 eI))]), (12, .p (.int .i64 (v3.length : Int))), (13, .p (.int .i64 0))] [(2, {call := some ([.d false [.sl none (a0.map (eF eI))], .v (.int .i64 a1)], [.ov false [.sl (some 22) (v3.map (eO 3 eI))]], true)}), (3, {n := some v3.length})] [([.d false [.sl none (a0.map (eF eI))], .v (.int .i64 a1)] : List Arg) = [.d false [.sl none (a0.map (eF eI))], .v (.int .i64 a1)], Meets Try.prog 67 ([.d false [.sl none (a0.map (eF eI))], .v (.int .i64 a1)] ++ []) { vals := [.ov false [.sl (some 22) (v3.map (eO 3 eI))]] }, List.all [.ov false [.sl (some 22) (v3.map (eO 3 eI))]] simpleR = true, (v3.map (eO 3 eI)).length = v3.length] (by kernel_rfl) ⟨rfl, (wk_impl_power hv3), (sa_o (wnR1 (wnL_enc (wn_O wn_I)) rfl) rfl), (List.length_map ..), trivial⟩) ?_
    refine k_block ?_
    obtain ⟨y5, hl_x4, hk_x4⟩ := bind_some' h
    clear h
    refine k_loop (J := fun (x : (Int × Int)) => [(6, .p (.int .i64 x.1)), (11, .ov false [.sl (some 22) (v3.map (eO 3 eI))]), (12, .p (.int .i64 (v3.length : Int))), (13, .p (.int .i64 x.2))]) hl_x4 (wk_of (by kernel_rfl) (by kernel_rfl)) (fun x4 o_x4 h hy_x4 => ?_)
    unfold impl_closedWalks_b1 at h
    refine k_sreg (r_go [(6, .p (.int .i64 x4.1)), (11, .ov false [.sl (some 22) (v3.map (eO 3 eI))]), (12, .p (.int .i64 (v3.length : Int))), (13, .p (.int .i64 x4.2)), (14, .p (.bool (decide (x4.2 < (v3.length : Int)))))] [] [] (by kernel_rfl) trivial) ?_
    refine k_seq ?_
    refine k_cond (b := (decide (x4.2 < (v3.length : Int)))) (by kernel_rfl) (fun hc5_5 => ?_) (fun hc5_5 => ?_)
    · replace h := ite_t hc5_5 h
      refine k_skip ?_
      refine q_n ?_
      refine k_seq ?_
      refine k_block ?_
      replace h := bind_some' h
      obtain ⟨v7, hv7, h⟩ := h
      refine k_sreg (r_go [(6, .p (.int .i64 x4.1)), (7, .p (.int .i64 x4.2)), (8, .ref 11 [(0, 0), ((Int.toNat x4.2), 0)] none), (11, .ov false [.sl (some 22) (v3.map (eO 3 eI))]), (12, .p (.int .i64 (v3.length : Int))), (13, .p (.int .i64 x4.2))] [(1, {row := some [.sl (some 3) (v7.map eI)]}), (2, {row := some [.sl (some 3) (v7.map eI)]})] [0 ≤ x4.2, (v3.map (eO 3 eI))[(Int.toNat x4.2)]? = some [.sl (some 3) (v7.map eI)], frR [.sl (some 3) (v7.map eI)] = false, getRow [[.sl (some 22) (v3.map (eO 3 eI))]] [(0, 0), ((Int.toNat x4.2), 0)] = some [.sl (some 3) (v7.map eI)]] (by kernel_rfl) ⟨(idxO_some hv7).1, (map_get (eO 3 eI) (idxO_some hv7).2), rfl, ((gr0 rfl).trans (gre (map_get (eO 3 eI) (idxO_some hv7).2))), trivial⟩) ?_
      replace h := bind_some' h
      obtain ⟨v8, hv8, h⟩ := h
      refine k_reg (r_go [(6, .p (.int .i64 (w64 (x4.1 + v8)))), (11, .ov false [.sl (some 22) (v3.map (eO 3 eI))]), (12, .p (.int .i64 (v3.length : Int))), (13, .p (.int .i64 x4.2))] [(3, {deep := some [.sl (some 3) (v7.map eI)], row := some [.raw (.int .i64 v8)]}), (4, {row := some [.raw (.int .i64 v8)]})] [0 ≤ x4.2, (v7.map eI)[(Int.toNat x4.2)]? = some [.raw (.int .i64 v8)], getRow [[.sl (some 22) (v3.map (eO 3 eI))]] [(0, 0), ((Int.toNat x4.2), 0)] = some [.sl (some 3) (v7.map eI)], getRow [[.sl (some 22) (v3.map (eO 3 eI))]] [(0, 0), ((Int.toNat x4.2), 0), ((Int.toNat x4.2), 0)] = some [.raw (.int .i64 v8)]] (by kernel_rfl) ⟨(idxO_some hv8).1, (map_get eI (idxO_some hv8).2), ((gr0 rfl).trans (gre (map_get (eO 3 eI) (idxO_some hv7).2))), ((gr0 rfl).trans ((grs (map_get (eO 3 eI) (idxO_some hv7).2) rfl).trans (gre (map_get eI (idxO_some hv8).2)))), trivial⟩) ?_
      refine b_n ?_
      refine q_n ?_
      refine k_reg (r_go [(6, .p (.int .i64 (w64 (x4.1 + v8)))), (11, .ov false [.sl (some 22) (v3.map (eO 3 eI))]), (12, .p (.int .i64 (v3.length : Int))), (13, .p (.int .i64 (w64 (x4.2 + 1))))] [] [] (by kernel_rfl) trivial) ?_
      exact lq_n ((w64 (x4.1 + v8)), (w64 (x4.2 + 1))) (Option.some.inj h).symm (wk_of (by kernel_rfl) (by kernel_rfl))
    · replace h := ite_f hc5_5 h
      refine k_exit ?_
      refine q_x ?_
      refine lq_x ?_
      refine b_x ?_
      have hyy := hy_x4 _ (Option.some.inj h).symm
      subst hyy
      have h := hk_x4
      refine q_n ?_
      exact ⟨x4.1, h, (wk_of (by kernel_rfl) (by kernel_rfl))⟩
theorem wk_impl_moebius {a0 : Int}  {r : Int} (h : impl_moebius a0 = some r) : Meets Try.prog 106 [.v (.int .i64 a0)] { vals := [.p (.int .i64 r)] } := by
  refine Meets_ofL (by kernel_rfl) Try.func106 rfl (by kernel_rfl) (l0 := [(0, .p (.int .i64 a0))]) (by kernel_rfl) ?_
  unfold impl_moebius at h
  refine k_sreg (r_go [(0, .p (.int .i64 a0))] [] [] (by kernel_rfl) trivial) ?_
  refine k_sreg (r_go [(0, .p (.int .i64 a0)), (3, .p (.int .i64 1))] [] [] (by kernel_rfl) trivial) ?_
  refine k_join (J := fun (x : Int) => [(3, .p (.int .i64 x))]) (K := fun x => impl_moebius_k1 x = some r) (fun x1 h => ?_) ?_
  · unfold impl_moebius_k1 at h
    refine k_sreg (r_go [(2, .p (.int .i64 x1))] [] [] (by kernel_rfl) trivial) ?_
    refine k_ret ?_
    obtain rfl := Option.some.inj h
    exact e_ret (ls := [(.p (.int .i64 x1), 2)]) (by kernel_rfl) rfl (by kernel_rfl) rfl
  · refine k_sreg (r_go [(0, .p (.int .i64 a0)), (3, .p (.int .i64 1)), (4, .p (.int .i64 2))] [] [] (by kernel_rfl) trivial) ?_
    refine k_block ?_
    obtain ⟨y3, hl_x2, hk_x2⟩ := bind_some' h
    clear h
    refine k_loop (J := fun (x : (Int × Int × Int)) => [(0, .p (.int .i64 x.1)), (3, .p (.int .i64 x.2.1)), (4, .p (.int .i64 x.2.2))]) hl_x2 (wk_of (by kernel_rfl) (by kernel_rfl)) (fun x2 o_x2 h hy_x2 => ?_)
    unfold impl_moebius_b1 at h
    refine k_seq ?_
    refine k_sreg (r_go [(0, .p (.int .i64 x2.1)), (3, .p (.int .i64 x2.2.1)), (4, .p (.int .i64 x2.2.2)), (7, .p (.bool (decide (x2.2.2 ≤ x2.1))))] [] [] (by kernel_rfl) trivial) ?_
    refine k_cond (b := (decide (x2.2.2 ≤ x2.1))) (by kernel_rfl) (fun hc5_3 => ?_) (fun hc5_3 => ?_)
    · replace h := ite_t hc5_3 h
      refine k_skip ?_
      refine q_n ?_
      refine k_seq ?_
      refine k_block ?_
      replace h := bind_some' h
      obtain ⟨u5, hu5, h⟩ := h
      refine k_sreg (r_go [(0, .p (.int .i64 x2.1)), (3, .p (.int .i64 x2.2.1)), (4, .p (.int .i64 x2.2.2)), (13, .p (.bool ((Int.tmod x2.1 x2.2.2) == 0)))] [] [x2.2.2 ≠ (0 : Int)] (by kernel_rfl) ⟨(guardO_some hu5), trivial⟩) ?_
      refine k_cond (b := ((Int.tmod x2.1 x2.2.2) == 0)) (by kernel_rfl) (fun hc6_5 => ?_) (fun hc6_5 => ?_)
      · replace h := ite_t hc6_5 h
        refine k_sreg (r_go [(0, .p (.int .i64 (w64 (Int.tdiv x2.1 x2.2.2)))), (3, .p (.int .i64 x2.2.1)), (4, .p (.int .i64 x2.2.2))] [] [x2.2.2 ≠ (0 : Int)] (by kernel_rfl) ⟨(guardO_some hu5), trivial⟩) ?_
        refine k_sreg (r_go [(0, .p (.int .i64 (w64 (Int.tdiv x2.1 x2.2.2)))), (3, .p (.int .i64 (w64 (0 - x2.2.1)))), (4, .p (.int .i64 x2.2.2))] [] [] (by kernel_rfl) trivial) ?_
        refine k_sreg (r_go [(0, .p (.int .i64 (w64 (Int.tdiv x2.1 x2.2.2)))), (3, .p (.int .i64 (w64 (0 - x2.2.1)))), (4, .p (.int .i64 x2.2.2)), (22, .p (.bool ((Int.tmod (w64 (Int.tdiv x2.1 x2.2.2)) x2.2.2) == 0)))] [] [x2.2.2 ≠ (0 : Int)] (by kernel_rfl) ⟨(guardO_some hu5), trivial⟩) ?_
        refine k_cond (b := ((Int.tmod (w64 (Int.tdiv x2.1 x2.2.2)) x2.2.2) == 0)) (by kernel_rfl) (fun hc6_6 => ?_) (fun hc6_6 => ?_)
        · replace h := ite_t hc6_6 h
          refine k_sreg (r_go [(2, .p (.int .i64 0))] [] [] (by kernel_rfl) trivial) ?_
          refine k_ret ?_
          refine b_r ?_
          refine q_r ?_
          refine lq_r ?_
          refine b_r ?_
          refine q_r ?_
          have hyy := hy_x2 _ (Option.some.inj h).symm
          subst hyy
          have h := hk_x2
          dsimp only [Sum.elim] at h
          obtain rfl := Option.some.inj h
          exact e_ret (ls := [(.p (.int .i64 0), 2)]) (by kernel_rfl) rfl (by kernel_rfl) rfl
        · replace h := ite_f hc6_6 h
          refine k_skip ?_
          refine b_n ?_
          refine q_n ?_
          refine k_reg (r_go [(0, .p (.int .i64 (w64 (Int.tdiv x2.1 x2.2.2)))), (3, .p (.int .i64 (w64 (0 - x2.2.1)))), (4, .p (.int .i64 (w64 (x2.2.2 + 1))))] [] [] (by kernel_rfl) trivial) ?_
          exact lq_n ((w64 (Int.tdiv x2.1 x2.2.2)), (w64 (0 - x2.2.1)), (w64 (x2.2.2 + 1))) (Option.some.inj h).symm (wk_of (by kernel_rfl) (by kernel_rfl))
      · replace h := ite_f hc6_5 h
        refine k_skip ?_
        refine b_n ?_
        refine q_n ?_
        refine k_reg (r_go [(0, .p (.int .i64 x2.1)), (3, .p (.int .i64 x2.2.1)), (4, .p (.int .i64 (w64 (x2.2.2 + 1))))] [] [] (by kernel_rfl) trivial) ?_
        exact lq_n (x2.1, x2.2.1, (w64 (x2.2.2 + 1))) (Option.some.inj h).symm (wk_of (by kernel_rfl) (by kernel_rfl))
    · replace h := ite_f hc5_3 h
      refine k_exit ?_
      refine q_x ?_
      refine lq_x ?_
      refine b_x ?_
      have hyy := hy_x2 _ (Option.some.inj h).symm
      subst hyy
      have h := hk_x2
      dsimp only [Sum.elim] at h
      refine q_n ?_
      exact ⟨x2.2.1, h, (wk_of (by kernel_rfl) (by kernel_rfl))⟩
theorem wk_impl_cycleCount {a0 : (List (List Int))} {a1 : Int}  {r : (Int × Bool)} (h : impl_cycleCount a0 a1 = some r) : Meets Try.prog 73 [.d false [.sl none (a0.map (eF eI))], .v (.int .i64 a1)] { vals := [.p (.int .i64 r.1), .p (.bool r.2)] } := by
  refine Meets_ofL (by kernel_rfl) Try.func73 rfl (by kernel_rfl) (l0 := [(0, .d false [.sl none (a0.map (eF eI))]), (1, .p (.int .i64 a1))]) (by kernel_rfl) ?_
  unfold impl_cycleCount at h
  refine k_sreg (r_go [(0, .d false [.sl none (a0.map (eF eI))]), (1, .p (.int .i64 a1))] [] [] (by kernel_rfl) trivial) ?_
  refine k_sreg (r_go [(0, .d false [.sl none (a0.map (eF eI))]), (1, .p (.int .i64 a1)), (6, .p (.int .i64 0))] [] [] (by kernel_rfl) trivial) ?_
  refine k_join (J := fun (x : Int) => [(1, .p (.int .i64 a1)), (6, .p (.int .i64 x))]) (K := fun x => impl_cycleCount_k1 a1 x = some r) (fun x1 h => ?_) ?_
  · unfold impl_cycleCount_k1 at h
    replace h := bind_some' h
    obtain ⟨u2, hu2, h⟩ := h
    refine k_sreg (r_go [(4, .p (.int .i64 (w64 (Int.tdiv x1 a1)))), (5, .p (.bool true))] [] [a1 ≠ (0 : Int)] (by kernel_rfl) ⟨(guardO_some hu2), trivial⟩) ?_
    refine k_ret ?_
    obtain rfl := Option.some.inj h
    exact e_ret (ls := [(.p (.int .i64 (w64 (Int.tdiv x1 a1))), 4), (.p (.bool true), 5)]) (by kernel_rfl) rfl (by kernel_rfl) rfl
  · refine k_sreg (r_go [(0, .d false [.sl none (a0.map (eF eI))]), (1, .p (.int .i64 a1)), (6, .p (.int .i64 0)), (7, .p (.int .i64 1))] [] [] (by kernel_rfl) trivial) ?_
    refine k_block ?_
    obtain ⟨y4, hl_x3, hk_x3⟩ := bind_some' h
    clear h
    refine k_loop (J := fun (x : (Int × Int)) => [(0, .d false [.sl none (a0.map (eF eI))]), (1, .p (.int .i64 a1)), (6, .p (.int .i64 x.1)), (7, .p (.int .i64 x.2))]) hl_x3 (wk_of (by kernel_rfl) (by kernel_rfl)) (fun x3 o_x3 h hy_x3 => ?_)
    unfold impl_cycleCount_b1 at h
    refine k_seq ?_
    refine k_sreg (r_go [(0, .d false [.sl none (a0.map (eF eI))]), (1, .p (.int .i64 a1)), (6, .p (.int .i64 x3.1)), (7, .p (.int .i64 x3.2)), (12, .p (.bool (decide (x3.2 ≤ a1))))] [] [] (by kernel_rfl) trivial) ?_
    refine k_cond (b := (decide (x3.2 ≤ a1))) (by kernel_rfl) (fun hc5_4 => ?_) (fun hc5_4 => ?_)
    · replace h := ite_t hc5_4 h
      refine k_skip ?_
      refine q_n ?_
      refine k_seq ?_
      refine k_block ?_
      replace h := bind_some' h
      obtain ⟨u6, hu6, h⟩ := h
      refine k_sreg (r_go [(0, .d false [.sl none (a0.map (eF eI))]), (1, .p (.int .i64 a1)), (6, .p (.int .i64 x3.1)), (7, .p (.int .i64 x3.2)), (18, .p (.bool ((Int.tmod a1 x3.2) == 0)))] [] [x3.2 ≠ (0 : Int)] (by kernel_rfl) ⟨(guardO_some hu6), trivial⟩) ?_
      refine k_cond (b := ((Int.tmod a1 x3.2) == 0)) (by kernel_rfl) (fun hc6_6 => ?_) (fun hc6_6 => ?_)
      · replace h := ite_t hc6_6 h
        replace h := bind_some' h
        obtain ⟨v8, hv8, h⟩ := h
        refine k_sreg (r_go [(0, .d false [.sl none (a0.map (eF eI))]), (1, .p (.int .i64 a1)), (6, .p (.int .i64 x3.1)), (7, .p (.int .i64 x3.2)), (8, .p (.int .i64 v8.1)), (9, .p (.bool v8.2))] [(2, {call := some ([.d false [.sl none (a0.map (eF eI))], .v (.int .i64 x3.2)], [.p (.int .i64 v8.1), .p (.bool v8.2)], true)})] [([.d false [.sl none (a0.map (eF eI))], .v (.int .i64 x3.2)] : List Arg) = [.d false [.sl none (a0.map (eF eI))], .v (.int .i64 x3.2)], Meets Try.prog 105 ([.d false [.sl none (a0.map (eF eI))], .v (.int .i64 x3.2)] ++ []) { vals := [.p (.int .i64 v8.1), .p (.bool v8.2)] }, List.all [.p (.int .i64 v8.1), .p (.bool v8.2)] simpleR = true] (by kernel_rfl) ⟨rfl, (wk_impl_closedWalks hv8), rfl, trivial⟩) ?_
        refine k_seq ?_
        refine k_sreg (r_go [(0, .d false [.sl none (a0.map (eF eI))]), (1, .p (.int .i64 a1)), (6, .p (.int .i64 x3.1)), (7, .p (.int .i64 x3.2)), (8, .p (.int .i64 v8.1)), (26, .p (.bool (!v8.2)))] [] [] (by kernel_rfl) trivial) ?_
        refine k_cond (b := (!v8.2)) (by kernel_rfl) (fun hc7_8 => ?_) (fun hc7_8 => ?_)
        · replace h := ite_t hc7_8 h
          refine k_sreg (r_go [(4, .p (.int .i64 0)), (5, .p (.bool false))] [] [] (by kernel_rfl) trivial) ?_
          refine k_ret ?_
          refine q_r ?_
          refine b_r ?_
          refine q_r ?_
          refine lq_r ?_
          refine b_r ?_
          refine q_r ?_
          have hyy := hy_x3 _ (Option.some.inj h).symm
          subst hyy
          have h := hk_x3
          dsimp only [Sum.elim] at h
          obtain rfl := Option.some.inj h
          exact e_ret (ls := [(.p (.int .i64 0), 4), (.p (.bool false), 5)]) (by kernel_rfl) rfl (by kernel_rfl) rfl
        · replace h := ite_f hc7_8 h
          refine k_skip ?_
          refine q_n ?_
          replace h := bind_some' h
          obtain ⟨v10, hv10, h⟩ := h
          refine k_reg (r_go [(0, .d false [.sl none (a0.map (eF eI))]), (1, .p (.int .i64 a1)), (6, .p (.int .i64 (w64 (x3.1 + (w64 (v10 * v8.1)))))), (7, .p (.int .i64 x3.2))] [(4, {call := some ([.v (.int .i64 (w64 (Int.tdiv a1 x3.2)))], [.p (.int .i64 v10)], true)})] [x3.2 ≠ (0 : Int), ([.v (.int .i64 (w64 (Int.tdiv a1 x3.2)))] : List Arg) = [.v (.int .i64 (w64 (Int.tdiv a1 x3.2)))], Meets Try.prog 106 ([.v (.int .i64 (w64 (Int.tdiv a1 x3.2)))] ++ []) { vals := [.p (.int .i64 v10)] }, List.all [.p (.int .i64 v10)] simpleR = true] (by kernel_rfl) ⟨(guardO_some hu6), rfl, (wk_impl_moebius hv10), rfl, trivial⟩) ?_
          refine b_n ?_
          refine q_n ?_
          refine k_reg (r_go [(0, .d false [.sl none (a0.map (eF eI))]), (1, .p (.int .i64 a1)), (6, .p (.int .i64 (w64 (x3.1 + (w64 (v10 * v8.1)))))), (7, .p (.int .i64 (w64 (x3.2 + 1))))] [] [] (by kernel_rfl) trivial) ?_
          exact lq_n ((w64 (x3.1 + (w64 (v10 * v8.1)))), (w64 (x3.2 + 1))) (Option.some.inj h).symm (wk_of (by kernel_rfl) (by kernel_rfl))
      · replace h := ite_f hc6_6 h
        refine k_skip ?_
        refine b_n ?_
        refine q_n ?_
        refine k_reg (r_go [(0, .d false [.sl none (a0.map (eF eI))]), (1, .p (.int .i64 a1)), (6, .p (.int .i64 x3.1)), (7, .p (.int .i64 (w64 (x3.2 + 1))))] [] [] (by kernel_rfl) trivial) ?_
        exact lq_n (x3.1, (w64 (x3.2 + 1))) (Option.some.inj h).symm (wk_of (by kernel_rfl) (by kernel_rfl))
    · replace h := ite_f hc5_4 h
      refine k_exit ?_
      refine q_x ?_
      refine lq_x ?_
      refine b_x ?_
      have hyy := hy_x3 _ (Option.some.inj h).symm
      subst hyy
      have h := hk_x3
      dsimp only [Sum.elim] at h
      refine q_n ?_
      exact ⟨x3.1, h, (wk_of (by kernel_rfl) (by kernel_rfl))⟩
theorem wk_impl_CycleTable {a0 : (List (List Int))} {a1 : Int}  {r : ((List Int) × Bool)} (h : impl_CycleTable a0 a1 = some r) : Meets Try.prog 46 [.d false [.sl none (a0.map (eF eI))], .v (.int .i64 a1)] { vals := [.ov false [.sl (some 3) (r.1.map eI)], .p (.bool r.2)] } := by
  refine Meets_ofL (by kernel_rfl) Try.func46 rfl (by kernel_rfl) (l0 := [(0, .d false [.sl none (a0.map (eF eI))]), (1, .p (.int .i64 a1))]) (by kernel_rfl) ?_
  unfold impl_CycleTable at h
  refine k_sreg (r_go [(0, .d false [.sl none (a0.map (eF eI))]), (1, .p (.int .i64 a1))] [] [] (by kernel_rfl) trivial) ?_
  refine k_seq ?_
  replace h := bind_some' h
  obtain ⟨v1, hv1, h⟩ := h
  refine k_sreg (r_go [(0, .d false [.sl none (a0.map (eF eI))]), (1, .p (.int .i64 a1)), (13, .p (.bool (!v1)))] [(2, {call := some ([.d false [.sl none (a0.map (eF eI))], .v (.int .i64 a1)], [.p (.bool v1)], true)})] [([.d false [.sl none (a0.map (eF eI))], .v (.int .i64 a1)] : List Arg) = [.d false [.sl none (a0.map (eF eI))], .v (.int .i64 a1)], Meets Try.prog 72 ([.d false [.sl none (a0.map (eF eI))], .v (.int .i64 a1)] ++ []) { vals := [.p (.bool v1)] }, List.all [.p (.bool v1)] simpleR = true] (by kernel_rfl) ⟨rfl, (wk_impl_isLength hv1), rfl, trivial⟩) ?_
  refine k_cond (b := (!v1)) (by kernel_rfl) (fun hc2_1 => ?_) (fun hc2_1 => ?_)
  · replace h := ite_t hc2_1 h
    refine k_sreg (r_go [(4, .ov false [.sl (some 3) []]), (5, .p (.bool false))] [] [] (by kernel_rfl) trivial) ?_
    refine k_ret ?_
    refine q_r ?_
    obtain rfl := Option.some.inj h
    exact e_ret (ls := [(.ov false [.sl (some 3) []], 4), (.p (.bool false), 5)]) (by kernel_rfl) rfl (by kernel_rfl) rfl
  · replace h := ite_f hc2_1 h
    refine k_skip ?_
    refine q_n ?_
    refine k_sreg (r_go [(0, .d false [.sl none (a0.map (eF eI))]), (1, .p (.int .i64 a1)), (6, .ov false [.sl (some 3) []])] [] [] (by kernel_rfl) trivial) ?_
    refine k_join (J := fun (x : (List Int)) => [(6, .ov false [.sl (some 3) (x.map eI)])]) (K := fun x => impl_CycleTable_k1 x = some r) (fun x3 h => ?_) ?_
    · unfold impl_CycleTable_k1 at h
      refine k_sreg (r_go [(4, .ov false [.sl (some 3) (x3.map eI)]), (5, .p (.bool true))] [] [] (by kernel_rfl) trivial) ?_
      refine k_ret ?_
      obtain rfl := Option.some.inj h
      exact e_ret (ls := [(.ov false [.sl (some 3) (x3.map eI)], 4), (.p (.bool true), 5)]) (by kernel_rfl) rfl (by kernel_rfl) rfl
    · refine k_sreg (r_go [(0, .d false [.sl none (a0.map (eF eI))]), (1, .p (.int .i64 a1)), (6, .ov false [.sl (some 3) []]), (7, .p (.int .i64 1))] [] [] (by kernel_rfl) trivial) ?_
      refine k_block ?_
      obtain ⟨y5, hl_x4, hk_x4⟩ := bind_some' h
      clear h
      refine k_loop (J := fun (x : ((List Int) × Int)) => [(0, .d false [.sl none (a0.map (eF eI))]), (1, .p (.int .i64 a1)), (6, .ov false [.sl (some 3) (x.1.map eI)]), (7, .p (.int .i64 x.2))]) hl_x4 (wk_of (by kernel_rfl) (by kernel_rfl)) (fun x4 o_x4 h hy_x4 => ?_)
      unfold impl_CycleTable_b1 at h
      refine k_seq ?_
      refine k_sreg (r_go [(0, .d false [.sl none (a0.map (eF eI))]), (1, .p (.int .i64 a1)), (6, .ov false [.sl (some 3) (x4.1.map eI)]), (7, .p (.int .i64 x4.2)), (16, .p (.bool (decide (x4.2 ≤ a1))))] [] [] (by kernel_rfl) trivial) ?_
      refine k_cond (b := (decide (x4.2 ≤ a1))) (by kernel_rfl) (fun hc5_5 => ?_) (fun hc5_5 => ?_)
      · replace h := ite_t hc5_5 h
        refine k_skip ?_
        refine q_n ?_
        refine k_seq ?_
        refine k_block ?_
        replace h := bind_some' h
        obtain ⟨v7, hv7, h⟩ := h
        refine k_sreg (r_go [(0, .d false [.sl none (a0.map (eF eI))]), (1, .p (.int .i64 a1)), (6, .ov false [.sl (some 3) (x4.1.map eI)]), (7, .p (.int .i64 x4.2)), (8, .p (.int .i64 v7.1)), (9, .p (.bool v7.2))] [(2, {call := some ([.d false [.sl none (a0.map (eF eI))], .v (.int .i64 x4.2)], [.p (.int .i64 v7.1), .p (.bool v7.2)], true)})] [([.d false [.sl none (a0.map (eF eI))], .v (.int .i64 x4.2)] : List Arg) = [.d false [.sl none (a0.map (eF eI))], .v (.int .i64 x4.2)], Meets Try.prog 73 ([.d false [.sl none (a0.map (eF eI))], .v (.int .i64 x4.2)] ++ []) { vals := [.p (.int .i64 v7.1), .p (.bool v7.2)] }, List.all [.p (.int .i64 v7.1), .p (.bool v7.2)] simpleR = true] (by kernel_rfl) ⟨rfl, (wk_impl_cycleCount hv7), rfl, trivial⟩) ?_
        refine k_seq ?_
        refine k_sreg (r_go [(0, .d false [.sl none (a0.map (eF eI))]), (1, .p (.int .i64 a1)), (6, .ov false [.sl (some 3) (x4.1.map eI)]), (7, .p (.int .i64 x4.2)), (8, .p (.int .i64 v7.1)), (26, .p (.bool (!v7.2)))] [] [] (by kernel_rfl) trivial) ?_
        refine k_cond (b := (!v7.2)) (by kernel_rfl) (fun hc7_7 => ?_) (fun hc7_7 => ?_)
        · replace h := ite_t hc7_7 h
          refine k_sreg (r_go [(4, .ov false [.sl (some 3) []]), (5, .p (.bool false))] [] [] (by kernel_rfl) trivial) ?_
          refine k_ret ?_
          refine q_r ?_
          refine b_r ?_
          refine q_r ?_
          refine lq_r ?_
          refine b_r ?_
          refine q_r ?_
          have hyy := hy_x4 _ (Option.some.inj h).symm
          subst hyy
          have h := hk_x4
          dsimp only [Sum.elim] at h
          obtain rfl := Option.some.inj h
          exact e_ret (ls := [(.ov false [.sl (some 3) []], 4), (.p (.bool false), 5)]) (by kernel_rfl) rfl (by kernel_rfl) rfl
        · replace h := ite_f hc7_7 h
          refine k_skip ?_
          refine q_n ?_
          replace h := bind_some' h
          obtain ⟨u9, hu9, h⟩ := h
          refine k_reg (r_go [(0, .d false [.sl none (a0.map (eF eI))]), (1, .p (.int .i64 a1)), (6, .ov false [.sl (some 3) ((x4.1 ++ [v7.1]).map eI)]), (7, .p (.int .i64 x4.2))] [(3, {fix := some (30, .ov false [.sl (some 3) ((x4.1 ++ [v7.1]).map eI)])})] [List.length ((x4.1.map eI) : List (List C)) + List.length ((([v7.1]).map eI) : List (List C)) ≤ 1099511627776, ∀ row ∈ ((([v7.1]).map eI) : List (List C)), row.length = 1, (SV.ov false [.sl (some 3) ((x4.1.map eI) ++ (([v7.1]).map eI))] : SV) = .ov false [.sl (some 3) ((x4.1 ++ [v7.1]).map eI)]] (by kernel_rfl) ⟨(by have hg := (guardO_some hu9); simpa using hg), (rows_len fun _ => rfl), (congrArg (fun z => SV.ov false [.sl (some 3) z]) (List.map_append ..).symm), trivial⟩) ?_
          refine b_n ?_
          refine q_n ?_
          refine k_reg (r_go [(0, .d false [.sl none (a0.map (eF eI))]), (1, .p (.int .i64 a1)), (6, .ov false [.sl (some 3) ((x4.1 ++ [v7.1]).map eI)]), (7, .p (.int .i64 (w64 (x4.2 + 1))))] [] [] (by kernel_rfl) trivial) ?_
          exact lq_n ((x4.1 ++ [v7.1]), (w64 (x4.2 + 1))) (Option.some.inj h).symm (wk_of (by kernel_rfl) (by kernel_rfl))
      · replace h := ite_f hc5_5 h
        refine k_exit ?_
        refine q_x ?_
        refine lq_x ?_
        refine b_x ?_
        have hyy := hy_x4 _ (Option.some.inj h).symm
        subst hyy
        have h := hk_x4
        dsimp only [Sum.elim] at h
        refine q_n ?_
        exact ⟨x4.1, h, (wk_of (by kernel_rfl) (by kernel_rfl))⟩
theorem wk_laws_eqIntS {a0 : (List Int)} {a1 : (List Int)}  {r : Bool} (h : laws_eqIntS a0 a1 = some r) : Meets Try.prog 18 [.d false [.sl none (a0.map eI)], .d false [.sl none (a1.map eI)]] { vals := [.p (.bool r)] } := by
  refine Meets_ofL (by kernel_rfl) Try.func18 rfl (by kernel_rfl) (l0 := [(0, .d false [.sl none (a0.map eI)]), (1, .d false [.sl none (a1.map eI)])]) (by kernel_rfl) ?_
  unfold laws_eqIntS at h
  refine k_sreg (r_go [(0, .d false [.sl none (a0.map eI)]), (1, .d false [.sl none (a1.map eI)])] [] [] (by kernel_rfl) trivial) ?_
  refine k_seq ?_
  refine k_sreg (r_go [(0, .d false [.sl none (a0.map eI)]), (1, .d false [.sl none (a1.map eI)]), (10, .p (.bool ((a0.length : Int) != (a1.length : Int))))] [(1, {n := some a0.length}), (3, {n := some a1.length})] [(a0.map eI).length = a0.length, (a1.map eI).length = a1.length] (by kernel_rfl) ⟨(List.length_map ..), (List.length_map ..), trivial⟩) ?_
  refine k_cond (b := ((a0.length : Int) != (a1.length : Int))) (by kernel_rfl) (fun hc2_0 => ?_) (fun hc2_0 => ?_)
  · replace h := ite_t hc2_0 h
    refine k_sreg (r_go [(4, .p (.bool false))] [] [] (by kernel_rfl) trivial) ?_
    refine k_ret ?_
    refine q_r ?_
    obtain rfl := Option.some.inj h
    exact e_ret (ls := [(.p (.bool false), 4)]) (by kernel_rfl) rfl (by kernel_rfl) rfl
  · replace h := ite_f hc2_0 h
    refine k_skip ?_
    refine q_n ?_
    refine k_join (J := fun (x : Unit) => []) (K := fun x => laws_eqIntS_k1 x = some r) (fun x2 h => ?_) ?_
    · unfold laws_eqIntS_k1 at h
      refine k_sreg (r_go [(4, .p (.bool true))] [] [] (by kernel_rfl) trivial) ?_
      refine k_ret ?_
      obtain rfl := Option.some.inj h
      exact e_ret (ls := [(.p (.bool true), 4)]) (by kernel_rfl) rfl (by kernel_rfl) rfl
    · refine k_sreg (r_go [(0, .d false [.sl none (a0.map eI)]), (1, .d false [.sl none (a1.map eI)]), (5, .p (.int .i64 0))] [] [] (by kernel_rfl) trivial) ?_
      refine k_block ?_
      obtain ⟨y4, hl_x3, hk_x3⟩ := bind_some' h
      clear h
      refine k_loop (J := fun (x : Int) => [(0, .d false [.sl none (a0.map eI)]), (1, .d false [.sl none (a1.map eI)]), (5, .p (.int .i64 x))]) hl_x3 (wk_of (by kernel_rfl) (by kernel_rfl)) (fun x3 o_x3 h hy_x3 => ?_)
      unfold laws_eqIntS_b1 at h
      refine k_seq ?_
      refine k_sreg (r_go [(0, .d false [.sl none (a0.map eI)]), (1, .d false [.sl none (a1.map eI)]), (5, .p (.int .i64 x3)), (14, .p (.bool (decide (x3 < (a0.length : Int)))))] [(2, {n := some a0.length})] [(a0.map eI).length = a0.length] (by kernel_rfl) ⟨(List.length_map ..), trivial⟩) ?_
      refine k_cond (b := (decide (x3 < (a0.length : Int)))) (by kernel_rfl) (fun hc5_4 => ?_) (fun hc5_4 => ?_)
      · replace h := ite_t hc5_4 h
        refine k_skip ?_
        refine q_n ?_
        refine k_seq ?_
        refine k_block ?_
        replace h := bind_some' h
        obtain ⟨v6, hv6, h⟩ := h
        replace h := bind_some' h
        obtain ⟨v7, hv7, h⟩ := h
        refine k_sreg (r_draw Try_mixed 8 [] [(0, .d false [.sl none (a0.map eI)]), (1, .d false [.sl none (a1.map eI)]), (5, .p (.int .i64 x3)), (25, .p (.bool (v6 != v7)))] [(2, {row := some [.raw (.int .i64 v6)]}), (6, {row := some [.raw (.int .i64 v7)]})] [0 ≤ x3, (a0.map eI)[(Int.toNat x3)]? = some [.raw (.int .i64 v6)], 0 ≤ x3, (a1.map eI)[(Int.toNat x3)]? = some [.raw (.int .i64 v7)]] (by kernel_rfl) ⟨(idxO_some hv6).1, (map_get eI (idxO_some hv6).2), (idxO_some hv7).1, (map_get eI (idxO_some hv7).2), trivial⟩) ?_
        refine k_cond (b := (v6 != v7)) (by kernel_rfl) (fun hc6_7 => ?_) (fun hc6_7 => ?_)
        · replace h := ite_t hc6_7 h
          refine k_sreg (r_go [(4, .p (.bool false))] [] [] (by kernel_rfl) trivial) ?_
          refine k_ret ?_
          refine b_r ?_
          refine q_r ?_
          refine lq_r ?_
          refine b_r ?_
          refine q_r ?_
          have hyy := hy_x3 _ (Option.some.inj h).symm
          subst hyy
          have h := hk_x3
          dsimp only [Sum.elim] at h
          obtain rfl := Option.some.inj h
          exact e_ret (ls := [(.p (.bool false), 4)]) (by kernel_rfl) rfl (by kernel_rfl) rfl
        · replace h := ite_f hc6_7 h
          refine k_skip ?_
          refine b_n ?_
          refine q_n ?_
          refine k_reg (r_go [(0, .d false [.sl none (a0.map eI)]), (1, .d false [.sl none (a1.map eI)]), (5, .p (.int .i64 (w64 (x3 + 1))))] [] [] (by kernel_rfl) trivial) ?_
          exact lq_n (w64 (x3 + 1)) (Option.some.inj h).symm (wk_of (by kernel_rfl) (by kernel_rfl))
      · replace h := ite_f hc5_4 h
        refine k_exit ?_
        refine q_x ?_
        refine lq_x ?_
        refine b_x ?_
        have hyy := hy_x3 _ (Option.some.inj h).symm
        subst hyy
        have h := hk_x3
        dsimp only [Sum.elim] at h
        refine q_n ?_
        exact ⟨(), h, (wk_of (by kernel_rfl) (by kernel_rfl))⟩
theorem wk_laws_eqIntSS {a0 : (List (List Int))} {a1 : (List (List Int))}  {r : Bool} (h : laws_eqIntSS a0 a1 = some r) : Meets Try.prog 27 [.d false [.sl none (a0.map (eF eI))], .d false [.sl none (a1.map (eF eI))]] { vals := [.p (.bool r)] } := by
  refine Meets_ofL (by kernel_rfl) Try.func27 rfl (by kernel_rfl) (l0 := [(0, .d false [.sl none (a0.map (eF eI))]), (1, .d false [.sl none (a1.map (eF eI))])]) (by kernel_rfl) ?_
  unfold laws_eqIntSS at h
  refine k_sreg (r_go [(0, .d false [.sl none (a0.map (eF eI))]), (1, .d false [.sl none (a1.map (eF eI))])] [] [] (by kernel_rfl) trivial) ?_
  refine k_seq ?_
  refine k_sreg (r_go [(0, .d false [.sl none (a0.map (eF eI))]), (1, .d false [.sl none (a1.map (eF eI))]), (10, .p (.bool ((a0.length : Int) != (a1.length : Int))))] [(1, {n := some a0.length}), (3, {n := some a1.length})] [(a0.map (eF eI)).length = a0.length, (a1.map (eF eI)).length = a1.length] (by kernel_rfl) ⟨(List.length_map ..), (List.length_map ..), trivial⟩) ?_
  refine k_cond (b := ((a0.length : Int) != (a1.length : Int))) (by kernel_rfl) (fun hc2_0 => ?_) (fun hc2_0 => ?_)
  · replace h := ite_t hc2_0 h
    refine k_sreg (r_go [(4, .p (.bool false))] [] [] (by kernel_rfl) trivial) ?_
    refine k_ret ?_
    refine q_r ?_
    obtain rfl := Option.some.inj h
    exact e_ret (ls := [(.p (.bool false), 4)]) (by kernel_rfl) rfl (by kernel_rfl) rfl
  · replace h := ite_f hc2_0 h
    refine k_skip ?_
    refine q_n ?_
    refine k_join (J := fun (x : Unit) => []) (K := fun x => laws_eqIntSS_k1 x = some r) (fun x2 h => ?_) ?_
    · unfold laws_eqIntSS_k1 at h
      refine k_sreg (r_go [(4, .p (.bool true))] [] [] (by kernel_rfl) trivial) ?_
      refine k_ret ?_
      obtain rfl := Option.some.inj h
      exact e_ret (ls := [(.p (.bool true), 4)]) (by kernel_rfl) rfl (by kernel_rfl) rfl
    · refine k_sreg (r_go [(0, .d false [.sl none (a0.map (eF eI))]), (1, .d false [.sl none (a1.map (eF eI))]), (5, .p (.int .i64 0))] [] [] (by kernel_rfl) trivial) ?_
      refine k_block ?_
      obtain ⟨y4, hl_x3, hk_x3⟩ := bind_some' h
      clear h
      refine k_loop (J := fun (x : Int) => [(0, .d false [.sl none (a0.map (eF eI))]), (1, .d false [.sl none (a1.map (eF eI))]), (5, .p (.int .i64 x))]) hl_x3 (wk_of (by kernel_rfl) (by kernel_rfl)) (fun x3 o_x3 h hy_x3 => ?_)
      unfold laws_eqIntSS_b1 at h
      refine k_seq ?_
      refine k_sreg (r_go [(0, .d false [.sl none (a0.map (eF eI))]), (1, .d false [.sl none (a1.map (eF eI))]), (5, .p (.int .i64 x3)), (14, .p (.bool (decide (x3 < (a0.length : Int)))))] [(2, {n := some a0.length})] [(a0.map (eF eI)).length = a0.length] (by kernel_rfl) ⟨(List.length_map ..), trivial⟩) ?_
      refine k_cond (b := (decide (x3 < (a0.length : Int)))) (by kernel_rfl) (fun hc5_4 => ?_) (fun hc5_4 => ?_)
      · replace h := ite_t hc5_4 h
        refine k_skip ?_
        refine q_n ?_
        refine k_seq ?_
        refine k_block ?_
        replace h := bind_some' h
        obtain ⟨v6, hv6, h⟩ := h
        replace h := bind_some' h
        obtain ⟨v7, hv7, h⟩ := h
        replace h := bind_some' h
        obtain ⟨v8, hv8, h⟩ := h
        refine k_sreg (r_draw Try_mixed 8 [] [(0, .d false [.sl none (a0.map (eF eI))]), (1, .d false [.sl none (a1.map (eF eI))]), (5, .p (.int .i64 x3)), (26, .p (.bool (!v8)))] [(2, {row := some [.sl none (v6.map eI)]}), (6, {row := some [.sl none (v7.map eI)]}), (8, {call := some ([.d false [.sl none (v6.map eI)], .d false [.sl none (v7.map eI)]], [.p (.bool v8)], true)})] [0 ≤ x3, (a0.map (eF eI))[(Int.toNat x3)]? = some [.sl none (v6.map eI)], 0 ≤ x3, (a1.map (eF eI))[(Int.toNat x3)]? = some [.sl none (v7.map eI)], ([.d false [.sl none (v6.map eI)], .d false [.sl none (v7.map eI)]] : List Arg) = [.d false [.sl none (v6.map eI)], .d false [.sl none (v7.map eI)]], Meets Try.prog 18 ([.d false [.sl none (v6.map eI)], .d false [.sl none (v7.map eI)]] ++ []) { vals := [.p (.bool v8)] }, List.all [.p (.bool v8)] simpleR = true] (by kernel_rfl) ⟨(idxO_some hv6).1, (map_get (eF eI) (idxO_some hv6).2), (idxO_some hv7).1, (map_get (eF eI) (idxO_some hv7).2), rfl, (wk_laws_eqIntS hv8), rfl, trivial⟩) ?_
        refine k_cond (b := (!v8)) (by kernel_rfl) (fun hc6_8 => ?_) (fun hc6_8 => ?_)
        · replace h := ite_t hc6_8 h
          refine k_sreg (r_go [(4, .p (.bool false))] [] [] (by kernel_rfl) trivial) ?_
          refine k_ret ?_
          refine b_r ?_
          refine q_r ?_
          refine lq_r ?_
          refine b_r ?_
          refine q_r ?_
          have hyy := hy_x3 _ (Option.some.inj h).symm
          subst hyy
          have h := hk_x3
          dsimp only [Sum.elim] at h
          obtain rfl := Option.some.inj h
          exact e_ret (ls := [(.p (.bool false), 4)]) (by kernel_rfl) rfl (by kernel_rfl) rfl
        · replace h := ite_f hc6_8 h
          refine k_skip ?_
          refine b_n ?_
          refine q_n ?_
          refine k_reg (r_go [(0, .d false [.sl none (a0.map (eF eI))]), (1, .d false [.sl none (a1.map (eF eI))]), (5, .p (.int .i64 (w64 (x3 + 1))))] [] [] (by kernel_rfl) trivial) ?_
          exact lq_n (w64 (x3 + 1)) (Option.some.inj h).symm (wk_of (by kernel_rfl) (by kernel_rfl))
      · replace h := ite_f hc5_4 h
        refine k_exit ?_
        refine q_x ?_
        refine lq_x ?_
        refine b_x ?_
        have hyy := hy_x3 _ (Option.some.inj h).symm
        subst hyy
        have h := hk_x3
        dsimp only [Sum.elim] at h
        refine q_n ?_
        exact ⟨(), h, (wk_of (by kernel_rfl) (by kernel_rfl))⟩
theorem wk_laws_markIntS {a0 : (List Int)} {a1 : Int}  {r : (Int × (List Int))} (h : laws_markIntS a0 a1 = some r) : MeetsB Try.prog 29 (.ov false [.sl (some 3) (a0.map eI)]) [.v (.int .i64 a1)] [.p (.int .i64 r.1)] (.ov false [.sl (some 3) (r.2.map eI)]) := by
  refine MeetsB_ofL (by kernel_rfl) Try.func29 rfl (by kernel_rfl) rfl (l0 := [(0, .ov false [.sl (some 3) (a0.map eI)]), (1, .p (.int .i64 a1))]) (by kernel_rfl) ?_
  unfold laws_markIntS at h
  refine k_sreg (r_go [(0, .ov false [.sl (some 3) (a0.map eI)]), (1, .p (.int .i64 a1))] [] [] (by kernel_rfl) trivial) ?_
  refine k_join (J := fun (x : ((List Int) × Int)) => [(0, .ov false [.sl (some 3) (x.1.map eI)]), (1, .p (.int .i64 x.2))]) (K := fun x => laws_markIntS_k1 x = some r) (fun x1 h => ?_) ?_
  · unfold laws_markIntS_k1 at h
    refine k_sreg (r_go [(0, .ov false [.sl (some 3) (x1.1.map eI)]), (4, .p (.int .i64 x1.2))] [] [] (by kernel_rfl) trivial) ?_
    refine k_ret ?_
    obtain rfl := Option.some.inj h
    exact eb_ret (ls := [(.p (.int .i64 x1.2), 4)]) (by kernel_rfl) rfl rfl (by kernel_rfl) (by kernel_rfl)
  · refine k_sreg (r_go [(0, .ov false [.sl (some 3) (a0.map eI)]), (1, .p (.int .i64 a1)), (5, .p (.int .i64 0))] [] [] (by kernel_rfl) trivial) ?_
    refine k_block ?_
    obtain ⟨y3, hl_x2, hk_x2⟩ := bind_some' h
    clear h
    refine k_loop (J := fun (x : ((List Int) × Int × Int)) => [(0, .ov false [.sl (some 3) (x.1.map eI)]), (1, .p (.int .i64 x.2.1)), (5, .p (.int .i64 x.2.2))]) hl_x2 (wk_of (by kernel_rfl) (by kernel_rfl)) (fun x2 o_x2 h hy_x2 => ?_)
    unfold laws_markIntS_b1 at h
    refine k_seq ?_
    refine k_sreg (r_go [(0, .ov false [.sl (some 3) (x2.1.map eI)]), (1, .p (.int .i64 x2.2.1)), (5, .p (.int .i64 x2.2.2)), (9, .p (.bool (decide (x2.2.2 < (x2.1.length : Int)))))] [(2, {n := some x2.1.length})] [(x2.1.map eI).length = x2.1.length] (by kernel_rfl) ⟨(List.length_map ..), trivial⟩) ?_
    refine k_cond (b := (decide (x2.2.2 < (x2.1.length : Int)))) (by kernel_rfl) (fun hc5_3 => ?_) (fun hc5_3 => ?_)
    · replace h := ite_t hc5_3 h
      refine k_skip ?_
      refine q_n ?_
      refine k_seq ?_
      refine k_block ?_
      replace h := bind_some' h
      obtain ⟨v5, hv5, h⟩ := h
      refine k_sreg (r_go [(0, .ov false [.sl (some 3) ((x2.1.set (Int.toNat x2.2.2) x2.2.1).map eI)]), (1, .p (.int .i64 x2.2.1)), (5, .p (.int .i64 x2.2.2))] [(3, {row := some [.raw (.int .i64 v5)]}), (4, {row := some [.raw (.int .i64 v5)], fix := some (0, .ov false [.sl (some 3) ((x2.1.set (Int.toNat x2.2.2) x2.2.1).map eI)])})] [0 ≤ x2.2.2, (x2.1.map eI)[(Int.toNat x2.2.2)]? = some [.raw (.int .i64 v5)], getRow [[.sl (some 3) (x2.1.map eI)]] [(0, 0), ((Int.toNat x2.2.2), 0)] = some [.raw (.int .i64 v5)], (SV.ov false [.sl (some 3) (setL (x2.1.map eI) [((Int.toNat x2.2.2), 0)] [.raw (.int .i64 x2.2.1)])] : SV) = .ov false [.sl (some 3) ((x2.1.set (Int.toNat x2.2.2) x2.2.1).map eI)]] (by kernel_rfl) ⟨(idxO_some hv5).1, (map_get eI (idxO_some hv5).2), ((gr0 rfl).trans (gre (map_get eI (idxO_some hv5).2))), (congrArg (fun z => SV.ov false [.sl (some 3) z]) (set1 (f := eI) (y := x2.2.1) (idxO_some hv5).2 rfl)), trivial⟩) ?_
      refine k_reg (r_go [(0, .ov false [.sl (some 3) ((x2.1.set (Int.toNat x2.2.2) x2.2.1).map eI)]), (1, .p (.int .i64 (w64 (x2.2.1 + 1)))), (5, .p (.int .i64 x2.2.2))] [] [] (by kernel_rfl) trivial) ?_
      refine b_n ?_
      refine q_n ?_
      refine k_reg (r_go [(0, .ov false [.sl (some 3) ((x2.1.set (Int.toNat x2.2.2) x2.2.1).map eI)]), (1, .p (.int .i64 (w64 (x2.2.1 + 1)))), (5, .p (.int .i64 (w64 (x2.2.2 + 1))))] [] [] (by kernel_rfl) trivial) ?_
      exact lq_n ((x2.1.set (Int.toNat x2.2.2) x2.2.1), (w64 (x2.2.1 + 1)), (w64 (x2.2.2 + 1))) (Option.some.inj h).symm (wk_of (by kernel_rfl) (by kernel_rfl))
    · replace h := ite_f hc5_3 h
      refine k_exit ?_
      refine q_x ?_
      refine lq_x ?_
      refine b_x ?_
      have hyy := hy_x2 _ (Option.some.inj h).symm
      subst hyy
      have h := hk_x2
      refine q_n ?_
      exact ⟨(x2.1, x2.2.1), h, (wk_of (by kernel_rfl) (by kernel_rfl))⟩
theorem wk_laws_markIntSS {a0 : (List (List Int))} {a1 : Int}  {r : (Int × (List (List Int)))} (h : laws_markIntSS a0 a1 = some r) : MeetsB Try.prog 28 (.ov false [.sl (some 22) (a0.map (eO 3 eI))]) [.v (.int .i64 a1)] [.p (.int .i64 r.1)] (.ov false [.sl (some 22) (r.2.map (eO 3 eI))]) := by
  refine MeetsB_ofL (by kernel_rfl) Try.func28 rfl (by kernel_rfl) rfl (l0 := [(0, .ov false [.sl (some 22) (a0.map (eO 3 eI))]), (1, .p (.int .i64 a1))]) (by kernel_rfl) ?_
  unfold laws_markIntSS at h
  refine k_sreg (r_go [(0, .ov false [.sl (some 22) (a0.map (eO 3 eI))]), (1, .p (.int .i64 a1))] [] [] (by kernel_rfl) trivial) ?_
  refine k_join (J := fun (x : ((List (List Int)) × Int)) => [(0, .ov false [.sl (some 22) (x.1.map (eO 3 eI))]), (1, .p (.int .i64 x.2))]) (K := fun x => laws_markIntSS_k1 x = some r) (fun x1 h => ?_) ?_
  · unfold laws_markIntSS_k1 at h
    refine k_sreg (r_go [(0, .ov false [.sl (some 22) (x1.1.map (eO 3 eI))]), (4, .p (.int .i64 x1.2))] [] [] (by kernel_rfl) trivial) ?_
    refine k_ret ?_
    obtain rfl := Option.some.inj h
    exact eb_ret (ls := [(.p (.int .i64 x1.2), 4)]) (by kernel_rfl) rfl rfl (by kernel_rfl) (by kernel_rfl)
  · refine k_sreg (r_go [(0, .ov false [.sl (some 22) (a0.map (eO 3 eI))]), (1, .p (.int .i64 a1)), (5, .p (.int .i64 0))] [] [] (by kernel_rfl) trivial) ?_
    refine k_block ?_
    obtain ⟨y3, hl_x2, hk_x2⟩ := bind_some' h
    clear h
    refine k_loop (J := fun (x : ((List (List Int)) × Int × Int)) => [(0, .ov false [.sl (some 22) (x.1.map (eO 3 eI))]), (1, .p (.int .i64 x.2.1)), (5, .p (.int .i64 x.2.2))]) hl_x2 (wk_of (by kernel_rfl) (by kernel_rfl)) (fun x2 o_x2 h hy_x2 => ?_)
    unfold laws_markIntSS_b1 at h
    refine k_seq ?_
    refine k_sreg (r_go [(0, .ov false [.sl (some 22) (x2.1.map (eO 3 eI))]), (1, .p (.int .i64 x2.2.1)), (5, .p (.int .i64 x2.2.2)), (9, .p (.bool (decide (x2.2.2 < (x2.1.length : Int)))))] [(2, {n := some x2.1.length})] [(x2.1.map (eO 3 eI)).length = x2.1.length] (by kernel_rfl) ⟨(List.length_map ..), trivial⟩) ?_
    refine k_cond (b := (decide (x2.2.2 < (x2.1.length : Int)))) (by kernel_rfl) (fun hc5_3 => ?_) (fun hc5_3 => ?_)
    · replace h := ite_t hc5_3 h
      refine k_skip ?_
      refine q_n ?_
      refine k_seq ?_
      refine k_block ?_
      replace h := bind_some' h
      obtain ⟨v5, hv5, h⟩ := h
      replace h := bind_some' h
      obtain ⟨v6, hv6, h⟩ := h
      refine k_reg (r_go [(0, .ov false [.sl (some 22) ((x2.1.set (Int.toNat x2.2.2) v6.2).map (eO 3 eI))]), (1, .p (.int .i64 v6.1)), (5, .p (.int .i64 x2.2.2))] [(2, {row := some [.sl (some 3) (v5.map eI)]}), (3, {row := some [.sl (some 3) (v5.map eI)]}), (5, {lend := some ([.v (.int .i64 x2.2.1)], [.p (.int .i64 v6.1)], .ov false [.sl (some 3) (v6.2.map eI)], true), deep := some [.sl (some 3) (v5.map eI)], fix := some (0, .ov false [.sl (some 22) ((x2.1.set (Int.toNat x2.2.2) v6.2).map (eO 3 eI))])})] [0 ≤ x2.2.2, (x2.1.map (eO 3 eI))[(Int.toNat x2.2.2)]? = some [.sl (some 3) (v5.map eI)], frR [.sl (some 3) (v5.map eI)] = false, getRow [[.sl (some 22) (x2.1.map (eO 3 eI))]] [(0, 0), ((Int.toNat x2.2.2), 0)] = some [.sl (some 3) (v5.map eI)], ([.v (.int .i64 x2.2.1)] : List Arg) = [.v (.int .i64 x2.2.1)], MeetsB Try.prog 29 (.ov false [.sl (some 3) (v5.map eI)]) [.v (.int .i64 x2.2.1)] [.p (.int .i64 v6.1)] (.ov false [.sl (some 3) (v6.2.map eI)]), (List.all [.p (.int .i64 v6.1)] simpleR && wnS (.ov false [.sl (some 3) (v6.2.map eI)])) = true, getRow [[.sl (some 22) (x2.1.map (eO 3 eI))]] [(0, 0), ((Int.toNat x2.2.2), 0)] = some [.sl (some 3) (v5.map eI)], (SV.ov false [.sl (some 22) (setL (x2.1.map (eO 3 eI)) [((Int.toNat x2.2.2), 0)] [.sl (some 3) (v6.2.map eI)])] : SV) = .ov false [.sl (some 22) ((x2.1.set (Int.toNat x2.2.2) v6.2).map (eO 3 eI))]] (by kernel_rfl) ⟨(idxO_some hv5).1, (map_get (eO 3 eI) (idxO_some hv5).2), rfl, ((gr0 rfl).trans (gre (map_get (eO 3 eI) (idxO_some hv5).2))), rfl, (wk_laws_markIntS hv6), (ls_t rfl (wnR1 (wnL_enc wn_I) rfl)), ((gr0 rfl).trans (gre (map_get (eO 3 eI) (idxO_some hv5).2))), (congrArg (fun z => SV.ov false [.sl (some 22) z]) (set1 (f := (eO 3 eI)) (y := v6.2) (idxO_some hv5).2 rfl)), trivial⟩) ?_
      refine b_n ?_
      refine q_n ?_
      refine k_reg (r_go [(0, .ov false [.sl (some 22) ((x2.1.set (Int.toNat x2.2.2) v6.2).map (eO 3 eI))]), (1, .p (.int .i64 v6.1)), (5, .p (.int .i64 (w64 (x2.2.2 + 1))))] [] [] (by kernel_rfl) trivial) ?_
      exact lq_n ((x2.1.set (Int.toNat x2.2.2) v6.2), v6.1, (w64 (x2.2.2 + 1))) (Option.some.inj h).symm (wk_of (by kernel_rfl) (by kernel_rfl))
    · replace h := ite_f hc5_3 h
      refine k_exit ?_
      refine q_x ?_
      refine lq_x ?_
      refine b_x ?_
      have hyy := hy_x2 _ (Option.some.inj h).symm
      subst hyy
      have h := hk_x2
      refine q_n ?_
      exact ⟨(x2.1, x2.2.1), h, (wk_of (by kernel_rfl) (by kernel_rfl))⟩
theorem wk_laws_heldIntS {a0 : (List Int)} {a1 : Int}  {r : Int} (h : laws_heldIntS a0 a1 = some r) : Meets Try.prog 30 [.d false [.sl none (a0.map eI)], .v (.int .i64 a1)] { vals := [.p (.int .i64 r)] } := by
  refine Meets_ofL (by kernel_rfl) Try.func30 rfl (by kernel_rfl) (l0 := [(0, .d false [.sl none (a0.map eI)]), (1, .p (.int .i64 a1))]) (by kernel_rfl) ?_
  unfold laws_heldIntS at h
  refine k_sreg (r_go [(0, .d false [.sl none (a0.map eI)]), (1, .p (.int .i64 a1))] [] [] (by kernel_rfl) trivial) ?_
  refine k_join (J := fun (x : Int) => [(1, .p (.int .i64 x))]) (K := fun x => laws_heldIntS_k1 x = some r) (fun x1 h => ?_) ?_
  · unfold laws_heldIntS_k1 at h
    refine k_sreg (r_go [(4, .p (.int .i64 x1))] [] [] (by kernel_rfl) trivial) ?_
    refine k_ret ?_
    obtain rfl := Option.some.inj h
    exact e_ret (ls := [(.p (.int .i64 x1), 4)]) (by kernel_rfl) rfl (by kernel_rfl) rfl
  · refine k_sreg (r_go [(0, .d false [.sl none (a0.map eI)]), (1, .p (.int .i64 a1)), (5, .p (.int .i64 0))] [] [] (by kernel_rfl) trivial) ?_
    refine k_block ?_
    obtain ⟨y3, hl_x2, hk_x2⟩ := bind_some' h
    clear h
    refine k_loop (J := fun (x : (Int × Int)) => [(0, .d false [.sl none (a0.map eI)]), (1, .p (.int .i64 x.1)), (5, .p (.int .i64 x.2))]) hl_x2 (wk_of (by kernel_rfl) (by kernel_rfl)) (fun x2 o_x2 h hy_x2 => ?_)
    unfold laws_heldIntS_b1 at h
    refine k_seq ?_
    refine k_sreg (r_go [(0, .d false [.sl none (a0.map eI)]), (1, .p (.int .i64 x2.1)), (5, .p (.int .i64 x2.2)), (9, .p (.bool (decide (x2.2 < (a0.length : Int)))))] [(2, {n := some a0.length})] [(a0.map eI).length = a0.length] (by kernel_rfl) ⟨(List.length_map ..), trivial⟩) ?_
    refine k_cond (b := (decide (x2.2 < (a0.length : Int)))) (by kernel_rfl) (fun hc5_3 => ?_) (fun hc5_3 => ?_)
    · replace h := ite_t hc5_3 h
      refine k_skip ?_
      refine q_n ?_
      refine k_seq ?_
      refine k_block ?_
      refine k_seq ?_
      replace h := bind_some' h
      obtain ⟨v5, hv5, h⟩ := h
      refine k_sreg (r_go [(0, .d false [.sl none (a0.map eI)]), (1, .p (.int .i64 x2.1)), (5, .p (.int .i64 x2.2)), (17, .p (.bool (v5 != x2.1)))] [(2, {row := some [.raw (.int .i64 v5)]})] [0 ≤ x2.2, (a0.map eI)[(Int.toNat x2.2)]? = some [.raw (.int .i64 v5)]] (by kernel_rfl) ⟨(idxO_some hv5).1, (map_get eI (idxO_some hv5).2), trivial⟩) ?_
      refine k_cond (b := (v5 != x2.1)) (by kernel_rfl) (fun hc7_5 => ?_) (fun hc7_5 => ?_)
      · replace h := ite_t hc7_5 h
        refine k_sreg (r_go [(4, .p (.int .i64 (-1)))] [] [] (by kernel_rfl) trivial) ?_
        refine k_ret ?_
        refine q_r ?_
        refine b_r ?_
        refine q_r ?_
        refine lq_r ?_
        refine b_r ?_
        refine q_r ?_
        have hyy := hy_x2 _ (Option.some.inj h).symm
        subst hyy
        have h := hk_x2
        dsimp only [Sum.elim] at h
        obtain rfl := Option.some.inj h
        exact e_ret (ls := [(.p (.int .i64 (-1)), 4)]) (by kernel_rfl) rfl (by kernel_rfl) rfl
      · replace h := ite_f hc7_5 h
        refine k_skip ?_
        refine q_n ?_
        refine k_reg (r_go [(0, .d false [.sl none (a0.map eI)]), (1, .p (.int .i64 (w64 (x2.1 + 1)))), (5, .p (.int .i64 x2.2))] [] [] (by kernel_rfl) trivial) ?_
        refine b_n ?_
        refine q_n ?_
        refine k_reg (r_go [(0, .d false [.sl none (a0.map eI)]), (1, .p (.int .i64 (w64 (x2.1 + 1)))), (5, .p (.int .i64 (w64 (x2.2 + 1))))] [] [] (by kernel_rfl) trivial) ?_
        exact lq_n ((w64 (x2.1 + 1)), (w64 (x2.2 + 1))) (Option.some.inj h).symm (wk_of (by kernel_rfl) (by kernel_rfl))
    · replace h := ite_f hc5_3 h
      refine k_exit ?_
      refine q_x ?_
      refine lq_x ?_
      refine b_x ?_
      have hyy := hy_x2 _ (Option.some.inj h).symm
      subst hyy
      have h := hk_x2
      dsimp only [Sum.elim] at h
      refine q_n ?_
      exact ⟨x2.1, h, (wk_of (by kernel_rfl) (by kernel_rfl))⟩
theorem wk_laws_FnExactCycleTable {a0 : (List (List Int))} {a1 : Int}  {r : Bool} (h : laws_FnExactCycleTable a0 a1 = some r) : Meets Try.prog 13 [.d false [.sl none (a0.map (eF eI))], .v (.int .i64 a1)] { vals := [.p (.bool r)] } := by
  refine Meets_ofL (by kernel_rfl) Try.func13 rfl (by kernel_rfl) (l0 := [(0, .d false [.sl none (a0.map (eF eI))]), (1, .p (.int .i64 a1))]) (by kernel_rfl) ?_
  unfold laws_FnExactCycleTable at h
  refine k_sreg (r_go [(0, .d false [.sl none (a0.map (eF eI))]), (1, .p (.int .i64 a1))] [] [] (by kernel_rfl) trivial) ?_
  refine k_sreg (r_go [(0, .d false [.sl none (a0.map (eF eI))]), (1, .p (.int .i64 a1)), (5, .p (.int .i64 1048576))] [] [] (by kernel_rfl) trivial) ?_
  replace h := bind_some' h
  obtain ⟨v1, hv1, h⟩ := h
  refine k_sreg (r_go [(0, .d false [.sl none (a0.map (eF eI))]), (1, .p (.int .i64 a1)), (5, .p (.int .i64 v1))] [(2, {call := some ([.d false [.sl none (a0.map (eF eI))], .v (.int .i64 1048576)], [.p (.int .i64 v1)], true)})] [([.d false [.sl none (a0.map (eF eI))], .v (.int .i64 1048576)] : List Arg) = [.d false [.sl none (a0.map (eF eI))], .v (.int .i64 1048576)], Meets Try.prog 23 ([.d false [.sl none (a0.map (eF eI))], .v (.int .i64 1048576)] ++ []) { vals := [.p (.int .i64 v1)] }, List.all [.p (.int .i64 v1)] simpleR = true] (by kernel_rfl) ⟨rfl, (wk_laws_szIntSS hv1), rfl, trivial⟩) ?_
  refine k_seq ?_
  refine k_sreg (r_go [(0, .d false [.sl none (a0.map (eF eI))]), (1, .p (.int .i64 a1)), (20, .p (.bool (decide (v1 < 0))))] [] [] (by kernel_rfl) trivial) ?_
  refine k_cond (b := (decide (v1 < 0))) (by kernel_rfl) (fun hc2_1 => ?_) (fun hc2_1 => ?_)
  · replace h := ite_t hc2_1 h
    refine k_sreg (r_go [(4, .p (.bool true))] [] [] (by kernel_rfl) trivial) ?_
    refine k_ret ?_
    refine q_r ?_
    obtain rfl := Option.some.inj h
    exact e_ret (ls := [(.p (.bool true), 4)]) (by kernel_rfl) rfl (by kernel_rfl) rfl
  · replace h := ite_f hc2_1 h
    refine k_skip ?_
    refine q_n ?_
    replace h := bind_some' h
    obtain ⟨v3, hv3, h⟩ := h
    replace h := bind_some' h
    obtain ⟨v4, hv4, h⟩ := h
    refine k_sreg (r_go [(0, .d false [.sl none (a0.map (eF eI))]), (1, .p (.int .i64 a1)), (6, .ov false [.sl (some 3) (v4.1.map eI)]), (7, .p (.bool v4.2))] [(1, {call := some ([.d false [.sl none (a0.map (eF eI))]], [.ov false [.sl (some 22) (v3.map (eO 3 eI))]], true)}), (3, {call := some ([.d false [.sl none (v3.map (eF eI))], .v (.int .i64 a1)], [.ov false [.sl (some 3) (v4.1.map eI)], .p (.bool v4.2)], true)})] [([.d false [.sl none (a0.map (eF eI))]] : List Arg) = [.d false [.sl none (a0.map (eF eI))]], Meets Try.prog 25 ([.d false [.sl none (a0.map (eF eI))]] ++ []) { vals := [.ov false [.sl (some 22) (v3.map (eO 3 eI))]] }, List.all [.ov false [.sl (some 22) (v3.map (eO 3 eI))]] simpleR = true, ([.d false [.sl none (eraL (v3.map (eO 3 eI)))], .v (.int .i64 a1)] : List Arg) = [.d false [.sl none (v3.map (eF eI))], .v (.int .i64 a1)], Meets Try.prog 45 ([.d false [.sl none (v3.map (eF eI))], .v (.int .i64 a1)] ++ []) { vals := [.ov false [.sl (some 3) (v4.1.map eI)], .p (.bool v4.2)] }, List.all [.ov false [.sl (some 3) (v4.1.map eI)], .p (.bool v4.2)] simpleR = true] (by kernel_rfl) ⟨rfl, (wk_laws_toIntSS hv3), (sa_o (wnR1 (wnL_enc (wn_O wn_I)) rfl) rfl), (by simp only [eraL_enc (h := (eF eI)) (era_O er_I)]), (wk_spec_CycleTable hv4), (sa_o (wnR1 (wnL_enc wn_I) rfl) (sa_p rfl)), trivial⟩) ?_
    replace h := bind_some' h
    obtain ⟨v5, hv5, h⟩ := h
    refine k_sreg (r_go [(0, .d false [.sl none (a0.map (eF eI))]), (1, .p (.int .i64 a1)), (6, .ov false [.sl (some 3) (v4.1.map eI)]), (7, .p (.bool v4.2)), (8, .ov false [.sl (some 22) (v5.map (eO 3 eI))])] [(1, {call := some ([.d false [.sl none (a0.map (eF eI))]], [.ov false [.sl (some 22) (v5.map (eO 3 eI))]], true)})] [([.d false [.sl none (a0.map (eF eI))]] : List Arg) = [.d false [.sl none (a0.map (eF eI))]], Meets Try.prog 25 ([.d false [.sl none (a0.map (eF eI))]] ++ []) { vals := [.ov false [.sl (some 22) (v5.map (eO 3 eI))]] }, List.all [.ov false [.sl (some 22) (v5.map (eO 3 eI))]] simpleR = true] (by kernel_rfl) ⟨rfl, (wk_laws_toIntSS hv5), (sa_o (wnR1 (wnL_enc (wn_O wn_I)) rfl) rfl), trivial⟩) ?_
    replace h := bind_some' h
    obtain ⟨v6, hv6, h⟩ := h
    refine k_sreg (r_go [(0, .d false [.sl none (a0.map (eF eI))]), (1, .p (.int .i64 a1)), (6, .ov false [.sl (some 3) (v4.1.map eI)]), (7, .p (.bool v4.2)), (8, .ov false [.sl (some 22) (v5.map (eO 3 eI))]), (9, .ov false [.sl (some 3) (v6.1.map eI)]), (10, .p (.bool v6.2))] [(2, {call := some ([.d false [.sl none (v5.map (eF eI))], .v (.int .i64 a1)], [.ov false [.sl (some 3) (v6.1.map eI)], .p (.bool v6.2)], true)})] [([.d false [.sl none (eraL (v5.map (eO 3 eI)))], .v (.int .i64 a1)] : List Arg) = [.d false [.sl none (v5.map (eF eI))], .v (.int .i64 a1)], Meets Try.prog 46 ([.d false [.sl none (v5.map (eF eI))], .v (.int .i64 a1)] ++ []) { vals := [.ov false [.sl (some 3) (v6.1.map eI)], .p (.bool v6.2)] }, List.all [.ov false [.sl (some 3) (v6.1.map eI)], .p (.bool v6.2)] simpleR = true] (by kernel_rfl) ⟨(by simp only [eraL_enc (h := (eF eI)) (era_O er_I)]), (wk_impl_CycleTable hv6), (sa_o (wnR1 (wnL_enc wn_I) rfl) (sa_p rfl)), trivial⟩) ?_
    refine k_seq ?_
    replace h := bind_some' h
    obtain ⟨v7, hv7, h⟩ := h
    refine k_sreg (l1 := [(0, .d false [.sl none (a0.map (eF eI))]), (1, .p (.int .i64 a1)), (6, .ov false [.sl (some 3) (v4.1.map eI)]), (7, .p (.bool v4.2)), (8, .ov false [.sl (some 22) (v5.map (eO 3 eI))]), (9, .ov false [.sl (some 3) (v6.1.map eI)]), (10, .p (.bool v6.2)), (44, .p (.bool ((!v7) || (!(v6.2 == v4.2)))))]) ?_ ?_
    · rcases Bool.eq_false_or_eq_true (!v7) with ha1 | ha1
      · exact RegOk.of_eq (l2 := [(0, .d false [.sl none (a0.map (eF eI))]), (1, .p (.int .i64 a1)), (6, .ov false [.sl (some 3) (v4.1.map eI)]), (7, .p (.bool v4.2)), (8, .ov false [.sl (some 22) (v5.map (eO 3 eI))]), (9, .ov false [.sl (some 3) (v6.1.map eI)]), (10, .p (.bool v6.2)), (44, .p (.bool ((!v7) || (!(v6.2 == v4.2)))))]) (r_go [(0, .d false [.sl none (a0.map (eF eI))]), (1, .p (.int .i64 a1)), (6, .ov false [.sl (some 3) (v4.1.map eI)]), (7, .p (.bool v4.2)), (8, .ov false [.sl (some 22) (v5.map (eO 3 eI))]), (9, .ov false [.sl (some 3) (v6.1.map eI)]), (10, .p (.bool v6.2)), (44, .p (.bool true))] [(2, {call := some ([.d false [.sl none (v6.1.map eI)], .d false [.sl none (v4.1.map eI)]], [.p (.bool v7)], true)}), (5, {g := some true}), (6, {g := some true}), (7, {g := some true}), (8, {b := some true})] [([.d false [.sl none (eraL (v6.1.map eI))], .d false [.sl none (eraL (v4.1.map eI))]] : List Arg) = [.d false [.sl none (v6.1.map eI)], .d false [.sl none (v4.1.map eI)]], Meets Try.prog 18 ([.d false [.sl none (v6.1.map eI)], .d false [.sl none (v4.1.map eI)]] ++ []) { vals := [.p (.bool v7)] }, List.all [.p (.bool v7)] simpleR = true, (!v7) = true, (!v7) = true, (!v7) = true, (!v7) = true] (by kernel_rfl) ⟨(by simp only [eraL_enc (h := eI) er_I, eraL_enc (h := eI) er_I]), (wk_laws_eqIntS hv7), rfl, ha1, ha1, ha1, ha1, trivial⟩) (by simp [ha1])
      · exact RegOk.of_eq (l2 := [(0, .d false [.sl none (a0.map (eF eI))]), (1, .p (.int .i64 a1)), (6, .ov false [.sl (some 3) (v4.1.map eI)]), (7, .p (.bool v4.2)), (8, .ov false [.sl (some 22) (v5.map (eO 3 eI))]), (9, .ov false [.sl (some 3) (v6.1.map eI)]), (10, .p (.bool v6.2)), (44, .p (.bool ((!v7) || (!(v6.2 == v4.2)))))]) (r_go [(0, .d false [.sl none (a0.map (eF eI))]), (1, .p (.int .i64 a1)), (6, .ov false [.sl (some 3) (v4.1.map eI)]), (7, .p (.bool v4.2)), (8, .ov false [.sl (some 22) (v5.map (eO 3 eI))]), (9, .ov false [.sl (some 3) (v6.1.map eI)]), (10, .p (.bool v6.2)), (44, .p (.bool (!(v6.2 == v4.2))))] [(2, {call := some ([.d false [.sl none (v6.1.map eI)], .d false [.sl none (v4.1.map eI)]], [.p (.bool v7)], true)}), (5, {g := some false}), (6, {g := some false}), (7, {g := some false}), (8, {b := some false})] [([.d false [.sl none (eraL (v6.1.map eI))], .d false [.sl none (eraL (v4.1.map eI))]] : List Arg) = [.d false [.sl none (v6.1.map eI)], .d false [.sl none (v4.1.map eI)]], Meets Try.prog 18 ([.d false [.sl none (v6.1.map eI)], .d false [.sl none (v4.1.map eI)]] ++ []) { vals := [.p (.bool v7)] }, List.all [.p (.bool v7)] simpleR = true, (!v7) = false, (!v7) = false, (!v7) = false, (!v7) = false] (by kernel_rfl) ⟨(by simp only [eraL_enc (h := eI) er_I, eraL_enc (h := eI) er_I]), (wk_laws_eqIntS hv7), rfl, ha1, ha1, ha1, ha1, trivial⟩) (by simp [ha1])
    · refine k_cond (b := ((!v7) || (!(v6.2 == v4.2)))) (by kernel_rfl) (fun hc2_7 => ?_) (fun hc2_7 => ?_)
      · replace h := ite_t hc2_7 h
        refine k_sreg (r_go [(4, .p (.bool false))] [] [] (by kernel_rfl) trivial) ?_
        refine k_ret ?_
        refine q_r ?_
        obtain rfl := Option.some.inj h
        exact e_ret (ls := [(.p (.bool false), 4)]) (by kernel_rfl) rfl (by kernel_rfl) rfl
      · replace h := ite_f hc2_7 h
        refine k_skip ?_
        refine q_n ?_
        refine k_seq ?_
        replace h := bind_some' h
        obtain ⟨v9, hv9, h⟩ := h
        replace h := bind_some' h
        obtain ⟨v10, hv10, h⟩ := h
        refine k_sreg (r_go [(0, .d false [.sl none (a0.map (eF eI))]), (1, .p (.int .i64 a1)), (6, .ov false [.sl (some 3) (v4.1.map eI)]), (7, .p (.bool v4.2)), (8, .ov false [.sl (some 22) (v5.map (eO 3 eI))]), (9, .ov false [.sl (some 3) (v6.1.map eI)]), (10, .p (.bool v6.2)), (49, .p (.bool (!v10)))] [(2, {call := some ([.d false [.sl none (a0.map (eF eI))]], [.ov false [.sl (some 22) (v9.map (eO 3 eI))]], true)}), (3, {call := some ([.d false [.sl none (v5.map (eF eI))], .d false [.sl none (v9.map (eF eI))]], [.p (.bool v10)], true)})] [([.d false [.sl none (a0.map (eF eI))]] : List Arg) = [.d false [.sl none (a0.map (eF eI))]], Meets Try.prog 25 ([.d false [.sl none (a0.map (eF eI))]] ++ []) { vals := [.ov false [.sl (some 22) (v9.map (eO 3 eI))]] }, List.all [.ov false [.sl (some 22) (v9.map (eO 3 eI))]] simpleR = true, ([.d false [.sl none (eraL (v5.map (eO 3 eI)))], .d false [.sl none (eraL (v9.map (eO 3 eI)))]] : List Arg) = [.d false [.sl none (v5.map (eF eI))], .d false [.sl none (v9.map (eF eI))]], Meets Try.prog 27 ([.d false [.sl none (v5.map (eF eI))], .d false [.sl none (v9.map (eF eI))]] ++ []) { vals := [.p (.bool v10)] }, List.all [.p (.bool v10)] simpleR = true] (by kernel_rfl) ⟨rfl, (wk_laws_toIntSS hv9), (sa_o (wnR1 (wnL_enc (wn_O wn_I)) rfl) rfl), (by simp only [eraL_enc (h := (eF eI)) (era_O er_I), eraL_enc (h := (eF eI)) (era_O er_I)]), (wk_laws_eqIntSS hv10), rfl, trivial⟩) ?_
        refine k_cond (b := (!v10)) (by kernel_rfl) (fun hc2_10 => ?_) (fun hc2_10 => ?_)
        · replace h := ite_t hc2_10 h
          refine k_sreg (r_go [(4, .p (.bool false))] [] [] (by kernel_rfl) trivial) ?_
          refine k_ret ?_
          refine q_r ?_
          obtain rfl := Option.some.inj h
          exact e_ret (ls := [(.p (.bool false), 4)]) (by kernel_rfl) rfl (by kernel_rfl) rfl
        · replace h := ite_f hc2_10 h
          refine k_skip ?_
          refine q_n ?_
          refine k_sreg (r_go [(0, .d false [.sl none (a0.map (eF eI))]), (1, .p (.int .i64 a1)), (6, .ov false [.sl (some 3) (v4.1.map eI)]), (7, .p (.bool v4.2)), (8, .ov false [.sl (some 22) (v5.map (eO 3 eI))]), (9, .ov false [.sl (some 3) (v6.1.map eI)]), (10, .p (.bool v6.2)), (11, .p (.int .i64 1))] [] [] (by kernel_rfl) trivial) ?_
          replace h := bind_some' h
          obtain ⟨v12, hv12, h⟩ := h
          refine k_sreg (r_go [(0, .d false [.sl none (a0.map (eF eI))]), (1, .p (.int .i64 a1)), (6, .ov false [.sl (some 3) (v4.1.map eI)]), (7, .p (.bool v4.2)), (9, .ov false [.sl (some 3) (v6.1.map eI)]), (10, .p (.bool v6.2)), (11, .p (.int .i64 v12.1))] [(2, {lend := some ([.v (.int .i64 1)], [.p (.int .i64 v12.1)], .ov false [.sl (some 22) (v12.2.map (eO 3 eI))], true)})] [([.v (.int .i64 1)] : List Arg) = [.v (.int .i64 1)], MeetsB Try.prog 28 (.ov false [.sl (some 22) (v5.map (eO 3 eI))]) [.v (.int .i64 1)] [.p (.int .i64 v12.1)] (.ov false [.sl (some 22) (v12.2.map (eO 3 eI))]), (List.all [.p (.int .i64 v12.1)] simpleR && wnS (.ov false [.sl (some 22) (v12.2.map (eO 3 eI))])) = true] (by kernel_rfl) ⟨rfl, (wk_laws_markIntSS hv12), (ls_t rfl (wnR1 (wnL_enc (wn_O wn_I)) rfl)), trivial⟩) ?_
          refine k_seq ?_
          replace h := bind_some' h
          obtain ⟨w14, hw14, h⟩ := h
          refine k_sreg (l1 := [(0, .d false [.sl none (a0.map (eF eI))]), (1, .p (.int .i64 a1)), (6, .ov false [.sl (some 3) (v4.1.map eI)]), (7, .p (.bool v4.2)), (9, .ov false [.sl (some 3) (v6.1.map eI)]), (65, .p (.bool w14))]) ?_ ?_
          · clear h
            rcases Bool.eq_false_or_eq_true (decide (v12.1 < 0)) with ha3 | ha3
            · replace hw14 := ite_t ha3 hw14
              have hw14 := Option.some.inj hw14
              subst hw14
              exact (r_go [(0, .d false [.sl none (a0.map (eF eI))]), (1, .p (.int .i64 a1)), (6, .ov false [.sl (some 3) (v4.1.map eI)]), (7, .p (.bool v4.2)), (9, .ov false [.sl (some 3) (v6.1.map eI)]), (65, .p (.bool true))] [(3, {g := some true}), (4, {g := some true}), (5, {g := some true}), (6, {g := some true}), (7, {b := some true}), (9, {g := some true}), (10, {g := some true}), (11, {g := some true}), (12, {b := some true})] [(decide (v12.1 < 0)) = true, (decide (v12.1 < 0)) = true, (decide (v12.1 < 0)) = true, (decide (v12.1 < 0)) = true, (decide (v12.1 < 0)) = true, true = true, true = true, true = true, true = true] (by kernel_rfl) ⟨ha3, ha3, ha3, ha3, ha3, rfl, rfl, rfl, rfl, trivial⟩)
            · replace hw14 := ite_f ha3 hw14
              replace hw14 := bind_some' hw14
              obtain ⟨v13, hv13, hw14⟩ := hw14
              rcases Bool.eq_false_or_eq_true (!v13) with ha4 | ha4
              · replace hw14 := ite_t ha4 hw14
                have hw14 := Option.some.inj hw14
                subst hw14
                exact (r_go [(0, .d false [.sl none (a0.map (eF eI))]), (1, .p (.int .i64 a1)), (6, .ov false [.sl (some 3) (v4.1.map eI)]), (7, .p (.bool v4.2)), (9, .ov false [.sl (some 3) (v6.1.map eI)]), (65, .p (.bool true))] [(3, {g := some false}), (4, {g := some false}), (5, {g := some false, call := some ([.d false [.sl none (v6.1.map eI)], .d false [.sl none (v4.1.map eI)]], [.p (.bool v13)], true)}), (6, {g := some false}), (7, {b := some false}), (9, {g := some true}), (10, {g := some true}), (11, {g := some true}), (12, {b := some true})] [(decide (v12.1 < 0)) = false, (decide (v12.1 < 0)) = false, (decide (v12.1 < 0)) = false, ([.d false [.sl none (eraL (v6.1.map eI))], .d false [.sl none (eraL (v4.1.map eI))]] : List Arg) = [.d false [.sl none (v6.1.map eI)], .d false [.sl none (v4.1.map eI)]], Meets Try.prog 18 ([.d false [.sl none (v6.1.map eI)], .d false [.sl none (v4.1.map eI)]] ++ []) { vals := [.p (.bool v13)] }, List.all [.p (.bool v13)] simpleR = true, (decide (v12.1 < 0)) = false, (decide (v12.1 < 0)) = false, (!v13) = true, (!v13) = true, (!v13) = true, (!v13) = true] (by kernel_rfl) ⟨ha3, ha3, ha3, (by simp only [eraL_enc (h := eI) er_I, eraL_enc (h := eI) er_I]), (wk_laws_eqIntS hv13), rfl, ha3, ha3, ha4, ha4, ha4, ha4, trivial⟩)
              · replace hw14 := ite_f ha4 hw14
                have hw14 := Option.some.inj hw14
                subst hw14
                exact (r_go [(0, .d false [.sl none (a0.map (eF eI))]), (1, .p (.int .i64 a1)), (6, .ov false [.sl (some 3) (v4.1.map eI)]), (7, .p (.bool v4.2)), (9, .ov false [.sl (some 3) (v6.1.map eI)]), (65, .p (.bool (!(v6.2 == v4.2))))] [(3, {g := some false}), (4, {g := some false}), (5, {g := some false, call := some ([.d false [.sl none (v6.1.map eI)], .d false [.sl none (v4.1.map eI)]], [.p (.bool v13)], true)}), (6, {g := some false}), (7, {b := some false}), (9, {g := some false}), (10, {g := some false}), (11, {g := some false}), (12, {b := some false})] [(decide (v12.1 < 0)) = false, (decide (v12.1 < 0)) = false, (decide (v12.1 < 0)) = false, ([.d false [.sl none (eraL (v6.1.map eI))], .d false [.sl none (eraL (v4.1.map eI))]] : List Arg) = [.d false [.sl none (v6.1.map eI)], .d false [.sl none (v4.1.map eI)]], Meets Try.prog 18 ([.d false [.sl none (v6.1.map eI)], .d false [.sl none (v4.1.map eI)]] ++ []) { vals := [.p (.bool v13)] }, List.all [.p (.bool v13)] simpleR = true, (decide (v12.1 < 0)) = false, (decide (v12.1 < 0)) = false, (!v13) = false, (!v13) = false, (!v13) = false, (!v13) = false] (by kernel_rfl) ⟨ha3, ha3, ha3, (by simp only [eraL_enc (h := eI) er_I, eraL_enc (h := eI) er_I]), (wk_laws_eqIntS hv13), rfl, ha3, ha3, ha4, ha4, ha4, ha4, trivial⟩)
          · refine k_cond (b := w14) (by kernel_rfl) (fun hc2_14 => ?_) (fun hc2_14 => ?_)
            · replace h := ite_t hc2_14 h
              refine k_sreg (r_go [(4, .p (.bool false))] [] [] (by kernel_rfl) trivial) ?_
              refine k_ret ?_
              refine q_r ?_
              obtain rfl := Option.some.inj h
              exact e_ret (ls := [(.p (.bool false), 4)]) (by kernel_rfl) rfl (by kernel_rfl) rfl
            · replace h := ite_f hc2_14 h
              refine k_skip ?_
              refine q_n ?_
              refine k_sreg (r_go [(0, .d false [.sl none (a0.map (eF eI))]), (1, .p (.int .i64 a1)), (6, .ov false [.sl (some 3) (v4.1.map eI)]), (7, .p (.bool v4.2)), (9, .ov false [.sl (some 3) (v6.1.map eI)]), (12, .p (.int .i64 1))] [] [] (by kernel_rfl) trivial) ?_
              replace h := bind_some' h
              obtain ⟨v16, hv16, h⟩ := h
              refine k_sreg (r_go [(0, .d false [.sl none (a0.map (eF eI))]), (1, .p (.int .i64 a1)), (6, .ov false [.sl (some 3) (v4.1.map eI)]), (7, .p (.bool v4.2)), (9, .ov false [.sl (some 3) (v16.2.map eI)]), (12, .p (.int .i64 v16.1))] [(2, {lend := some ([.v (.int .i64 1)], [.p (.int .i64 v16.1)], .ov false [.sl (some 3) (v16.2.map eI)], true)})] [([.v (.int .i64 1)] : List Arg) = [.v (.int .i64 1)], MeetsB Try.prog 29 (.ov false [.sl (some 3) (v6.1.map eI)]) [.v (.int .i64 1)] [.p (.int .i64 v16.1)] (.ov false [.sl (some 3) (v16.2.map eI)]), (List.all [.p (.int .i64 v16.1)] simpleR && wnS (.ov false [.sl (some 3) (v16.2.map eI)])) = true] (by kernel_rfl) ⟨rfl, (wk_laws_markIntS hv16), (ls_t rfl (wnR1 (wnL_enc wn_I) rfl)), trivial⟩) ?_
              refine k_sreg (r_go [(0, .d false [.sl none (a0.map (eF eI))]), (1, .p (.int .i64 a1)), (6, .ov false [.sl (some 3) (v4.1.map eI)]), (7, .p (.bool v4.2)), (9, .ov false [.sl (some 3) (v16.2.map eI)]), (12, .p (.int .i64 v16.1)), (13, .p (.int .i64 1))] [] [] (by kernel_rfl) trivial) ?_
              replace h := bind_some' h
              obtain ⟨v17, hv17, h⟩ := h
              refine k_sreg (r_go [(0, .d false [.sl none (a0.map (eF eI))]), (1, .p (.int .i64 a1)), (6, .ov false [.sl (some 3) (v4.1.map eI)]), (7, .p (.bool v4.2)), (9, .ov false [.sl (some 3) (v16.2.map eI)]), (12, .p (.int .i64 v16.1)), (13, .p (.int .i64 v17))] [(2, {call := some ([.d false [.sl none (v16.2.map eI)], .v (.int .i64 1)], [.p (.int .i64 v17)], true)})] [([.d false [.sl none (eraL (v16.2.map eI))], .v (.int .i64 1)] : List Arg) = [.d false [.sl none (v16.2.map eI)], .v (.int .i64 1)], Meets Try.prog 30 ([.d false [.sl none (v16.2.map eI)], .v (.int .i64 1)] ++ []) { vals := [.p (.int .i64 v17)] }, List.all [.p (.int .i64 v17)] simpleR = true] (by kernel_rfl) ⟨(by simp only [eraL_enc (h := eI) er_I]), (wk_laws_heldIntS hv17), rfl, trivial⟩) ?_
              refine k_seq ?_
              refine k_sreg (r_go [(0, .d false [.sl none (a0.map (eF eI))]), (1, .p (.int .i64 a1)), (6, .ov false [.sl (some 3) (v4.1.map eI)]), (7, .p (.bool v4.2)), (9, .ov false [.sl (some 3) (v16.2.map eI)]), (12, .p (.int .i64 v16.1)), (13, .p (.int .i64 v17)), (73, .p (.bool (decide (v17 < 0))))] [] [] (by kernel_rfl) trivial) ?_
              refine k_cond (b := (decide (v17 < 0))) (by kernel_rfl) (fun hc2_17 => ?_) (fun hc2_17 => ?_)
              · replace h := ite_t hc2_17 h
                refine k_sreg (r_go [(4, .p (.bool false))] [] [] (by kernel_rfl) trivial) ?_
                refine k_ret ?_
                refine q_r ?_
                obtain rfl := Option.some.inj h
                exact e_ret (ls := [(.p (.bool false), 4)]) (by kernel_rfl) rfl (by kernel_rfl) rfl
              · replace h := ite_f hc2_17 h
                refine k_skip ?_
                refine q_n ?_
                refine k_seq ?_
                refine k_sreg (r_go [(0, .d false [.sl none (a0.map (eF eI))]), (1, .p (.int .i64 a1)), (6, .ov false [.sl (some 3) (v4.1.map eI)]), (7, .p (.bool v4.2)), (9, .ov false [.sl (some 3) (v16.2.map eI)]), (12, .p (.int .i64 v16.1)), (76, .p (.bool (v17 != v16.1)))] [] [] (by kernel_rfl) trivial) ?_
                refine k_cond (b := (v17 != v16.1)) (by kernel_rfl) (fun hc2_18 => ?_) (fun hc2_18 => ?_)
                · replace h := ite_t hc2_18 h
                  refine k_sreg (r_go [(4, .p (.bool false))] [] [] (by kernel_rfl) trivial) ?_
                  refine k_ret ?_
                  refine q_r ?_
                  obtain rfl := Option.some.inj h
                  exact e_ret (ls := [(.p (.bool false), 4)]) (by kernel_rfl) rfl (by kernel_rfl) rfl
                · replace h := ite_f hc2_18 h
                  refine k_skip ?_
                  refine q_n ?_
                  replace h := bind_some' h
                  obtain ⟨v20, hv20, h⟩ := h
                  replace h := bind_some' h
                  obtain ⟨v21, hv21, h⟩ := h
                  refine k_sreg (r_go [(6, .ov false [.sl (some 3) (v4.1.map eI)]), (7, .p (.bool v4.2)), (9, .ov false [.sl (some 3) (v16.2.map eI)]), (12, .p (.int .i64 v16.1)), (14, .ov false [.sl (some 3) (v21.1.map eI)]), (15, .p (.bool v21.2))] [(1, {call := some ([.d false [.sl none (a0.map (eF eI))]], [.ov false [.sl (some 22) (v20.map (eO 3 eI))]], true)}), (3, {call := some ([.d false [.sl none (v20.map (eF eI))], .v (.int .i64 a1)], [.ov false [.sl (some 3) (v21.1.map eI)], .p (.bool v21.2)], true)})] [([.d false [.sl none (a0.map (eF eI))]] : List Arg) = [.d false [.sl none (a0.map (eF eI))]], Meets Try.prog 25 ([.d false [.sl none (a0.map (eF eI))]] ++ []) { vals := [.ov false [.sl (some 22) (v20.map (eO 3 eI))]] }, List.all [.ov false [.sl (some 22) (v20.map (eO 3 eI))]] simpleR = true, ([.d false [.sl none (eraL (v20.map (eO 3 eI)))], .v (.int .i64 a1)] : List Arg) = [.d false [.sl none (v20.map (eF eI))], .v (.int .i64 a1)], Meets Try.prog 46 ([.d false [.sl none (v20.map (eF eI))], .v (.int .i64 a1)] ++ []) { vals := [.ov false [.sl (some 3) (v21.1.map eI)], .p (.bool v21.2)] }, List.all [.ov false [.sl (some 3) (v21.1.map eI)], .p (.bool v21.2)] simpleR = true] (by kernel_rfl) ⟨rfl, (wk_laws_toIntSS hv20), (sa_o (wnR1 (wnL_enc (wn_O wn_I)) rfl) rfl), (by simp only [eraL_enc (h := (eF eI)) (era_O er_I)]), (wk_impl_CycleTable hv21), (sa_o (wnR1 (wnL_enc wn_I) rfl) (sa_p rfl)), trivial⟩) ?_
                  refine k_seq ?_
                  replace h := bind_some' h
                  obtain ⟨v22, hv22, h⟩ := h
                  refine k_sreg (l1 := [(9, .ov false [.sl (some 3) (v16.2.map eI)]), (12, .p (.int .i64 v16.1)), (92, .p (.bool ((!v22) || (!(v21.2 == v4.2)))))]) ?_ ?_
                  · rcases Bool.eq_false_or_eq_true (!v22) with ha6 | ha6
                    · exact RegOk.of_eq (l2 := [(9, .ov false [.sl (some 3) (v16.2.map eI)]), (12, .p (.int .i64 v16.1)), (92, .p (.bool ((!v22) || (!(v21.2 == v4.2)))))]) (r_go [(9, .ov false [.sl (some 3) (v16.2.map eI)]), (12, .p (.int .i64 v16.1)), (92, .p (.bool true))] [(2, {call := some ([.d false [.sl none (v21.1.map eI)], .d false [.sl none (v4.1.map eI)]], [.p (.bool v22)], true)}), (5, {g := some true}), (6, {g := some true}), (7, {g := some true}), (8, {b := some true})] [([.d false [.sl none (eraL (v21.1.map eI))], .d false [.sl none (eraL (v4.1.map eI))]] : List Arg) = [.d false [.sl none (v21.1.map eI)], .d false [.sl none (v4.1.map eI)]], Meets Try.prog 18 ([.d false [.sl none (v21.1.map eI)], .d false [.sl none (v4.1.map eI)]] ++ []) { vals := [.p (.bool v22)] }, List.all [.p (.bool v22)] simpleR = true, (!v22) = true, (!v22) = true, (!v22) = true, (!v22) = true] (by kernel_rfl) ⟨(by simp only [eraL_enc (h := eI) er_I, eraL_enc (h := eI) er_I]), (wk_laws_eqIntS hv22), rfl, ha6, ha6, ha6, ha6, trivial⟩) (by simp [ha6])
                    · exact RegOk.of_eq (l2 := [(9, .ov false [.sl (some 3) (v16.2.map eI)]), (12, .p (.int .i64 v16.1)), (92, .p (.bool ((!v22) || (!(v21.2 == v4.2)))))]) (r_go [(9, .ov false [.sl (some 3) (v16.2.map eI)]), (12, .p (.int .i64 v16.1)), (92, .p (.bool (!(v21.2 == v4.2))))] [(2, {call := some ([.d false [.sl none (v21.1.map eI)], .d false [.sl none (v4.1.map eI)]], [.p (.bool v22)], true)}), (5, {g := some false}), (6, {g := some false}), (7, {g := some false}), (8, {b := some false})] [([.d false [.sl none (eraL (v21.1.map eI))], .d false [.sl none (eraL (v4.1.map eI))]] : List Arg) = [.d false [.sl none (v21.1.map eI)], .d false [.sl none (v4.1.map eI)]], Meets Try.prog 18 ([.d false [.sl none (v21.1.map eI)], .d false [.sl none (v4.1.map eI)]] ++ []) { vals := [.p (.bool v22)] }, List.all [.p (.bool v22)] simpleR = true, (!v22) = false, (!v22) = false, (!v22) = false, (!v22) = false] (by kernel_rfl) ⟨(by simp only [eraL_enc (h := eI) er_I, eraL_enc (h := eI) er_I]), (wk_laws_eqIntS hv22), rfl, ha6, ha6, ha6, ha6, trivial⟩) (by simp [ha6])
                  · refine k_cond (b := ((!v22) || (!(v21.2 == v4.2)))) (by kernel_rfl) (fun hc2_22 => ?_) (fun hc2_22 => ?_)
                    · replace h := ite_t hc2_22 h
                      refine k_sreg (r_go [(4, .p (.bool false))] [] [] (by kernel_rfl) trivial) ?_
                      refine k_ret ?_
                      refine q_r ?_
                      obtain rfl := Option.some.inj h
                      exact e_ret (ls := [(.p (.bool false), 4)]) (by kernel_rfl) rfl (by kernel_rfl) rfl
                    · replace h := ite_f hc2_22 h
                      refine k_skip ?_
                      refine q_n ?_
                      refine k_sreg (r_go [(9, .ov false [.sl (some 3) (v16.2.map eI)]), (12, .p (.int .i64 v16.1)), (13, .p (.int .i64 1))] [] [] (by kernel_rfl) trivial) ?_
                      replace h := bind_some' h
                      obtain ⟨v24, hv24, h⟩ := h
                      refine k_sreg (r_go [(12, .p (.int .i64 v16.1)), (13, .p (.int .i64 v24))] [(2, {call := some ([.d false [.sl none (v16.2.map eI)], .v (.int .i64 1)], [.p (.int .i64 v24)], true)})] [([.d false [.sl none (eraL (v16.2.map eI))], .v (.int .i64 1)] : List Arg) = [.d false [.sl none (v16.2.map eI)], .v (.int .i64 1)], Meets Try.prog 30 ([.d false [.sl none (v16.2.map eI)], .v (.int .i64 1)] ++ []) { vals := [.p (.int .i64 v24)] }, List.all [.p (.int .i64 v24)] simpleR = true] (by kernel_rfl) ⟨(by simp only [eraL_enc (h := eI) er_I]), (wk_laws_heldIntS hv24), rfl, trivial⟩) ?_
                      refine k_seq ?_
                      refine k_sreg (r_go [(12, .p (.int .i64 v16.1)), (13, .p (.int .i64 v24)), (97, .p (.bool (decide (v24 < 0))))] [] [] (by kernel_rfl) trivial) ?_
                      refine k_cond (b := (decide (v24 < 0))) (by kernel_rfl) (fun hc2_24 => ?_) (fun hc2_24 => ?_)
                      · replace h := ite_t hc2_24 h
                        refine k_sreg (r_go [(4, .p (.bool false))] [] [] (by kernel_rfl) trivial) ?_
                        refine k_ret ?_
                        refine q_r ?_
                        obtain rfl := Option.some.inj h
                        exact e_ret (ls := [(.p (.bool false), 4)]) (by kernel_rfl) rfl (by kernel_rfl) rfl
                      · replace h := ite_f hc2_24 h
                        refine k_skip ?_
                        refine q_n ?_
                        refine k_seq ?_
                        refine k_sreg (r_go [(100, .p (.bool (v24 != v16.1)))] [] [] (by kernel_rfl) trivial) ?_
                        refine k_cond (b := (v24 != v16.1)) (by kernel_rfl) (fun hc2_25 => ?_) (fun hc2_25 => ?_)
                        · replace h := ite_t hc2_25 h
                          refine k_sreg (r_go [(4, .p (.bool false))] [] [] (by kernel_rfl) trivial) ?_
                          refine k_ret ?_
                          refine q_r ?_
                          obtain rfl := Option.some.inj h
                          exact e_ret (ls := [(.p (.bool false), 4)]) (by kernel_rfl) rfl (by kernel_rfl) rfl
                        · replace h := ite_f hc2_25 h
                          refine k_skip ?_
                          refine q_n ?_
                          refine k_sreg (r_go [(4, .p (.bool true))] [] [] (by kernel_rfl) trivial) ?_
                          refine k_ret ?_
                          obtain rfl := Option.some.inj h
                          exact e_ret (ls := [(.p (.bool true), 4)]) (by kernel_rfl) rfl (by kernel_rfl) rfl
end Go.PV

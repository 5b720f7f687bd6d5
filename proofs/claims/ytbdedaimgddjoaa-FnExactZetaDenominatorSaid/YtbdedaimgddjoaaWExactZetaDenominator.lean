/-
  Walks through the functions that the law reaches: each answers as its plain definition does.
  Conditions: none.
-/
import Derived.KernelRfl
import Derived.Test.YtbdedaimgddjoaaDf
import Derived.Test.YtbdedaimgddjoaaProg
open Go Go.PV Go.Proofs
set_option linter.all false
namespace Go.PV
attribute [local irreducible] pvC pvL pvD sOp seqQ blockQ Meets MeetsB Ok OkL RegOk agree endQ seqL blockL loopQ endL endLB
theorem Try_mixed : Try.prog.follows .mixedOrders = true := by kernel_rfl
theorem wk_laws_szIntS {a0 : (List Int)} {a1 : Int}  {r : Int} (h : laws_szIntS a0 a1 = some r) : Meets Try.prog 58 [.d false [.sl none (a0.map eI)], .v (.int .i64 a1)] { vals := [.p (.int .i64 r)] } := by
  refine Meets_ofL (by kernel_rfl) Try.func58 rfl (by kernel_rfl) (l0 := [(0, .d false [.sl none (a0.map eI)]), (1, .p (.int .i64 a1))]) (by kernel_rfl) ?_
  unfold laws_szIntS at h
  refine k_sreg (r_go [(0, .d false [.sl none (a0.map eI)]), (1, .p (.int .i64 a1))] [] [] (by kernel_rfl) trivial) ?_
  refine k_sreg (r_go [(1, .p (.int .i64 (w64 (a1 - (a0.length : Int)))))] [(2, {n := some a0.length})] [(a0.map eI).length = a0.length] (by kernel_rfl) ⟨(List.length_map ..), trivial⟩) ?_
  refine k_seq ?_
  refine k_sreg (r_go [(1, .p (.int .i64 (w64 (a1 - (a0.length : Int))))), (10, .p (.bool (decide ((w64 (a1 - (a0.length : Int))) < 0))))] [] [] (by kernel_rfl) trivial) ?_
  refine k_cond (b := (decide ((w64 (a1 - (a0.length : Int))) < 0))) (by kernel_rfl) (fun hc2_0 => ?_) (fun hc2_0 => ?_)
  · replace h := ite_t hc2_0 h
    refine k_sreg (r_go [(4, .p (.int .i64 (-1)))] [] [] (by kernel_rfl) trivial) ?_
    refine k_ret ?_
    refine q_r ?_
    obtain rfl := Option.some.inj h
    exact e_ret (ls := [(.p (.int .i64 (-1)), 4)]) (by kernel_rfl) rfl (by kernel_rfl) rfl
  · replace h := ite_f hc2_0 h
    refine k_skip ?_
    refine q_n ?_
    refine k_sreg (r_go [(4, .p (.int .i64 (w64 (a1 - (a0.length : Int)))))] [] [] (by kernel_rfl) trivial) ?_
    refine k_ret ?_
    obtain rfl := Option.some.inj h
    exact e_ret (ls := [(.p (.int .i64 (w64 (a1 - (a0.length : Int)))), 4)]) (by kernel_rfl) rfl (by kernel_rfl) rfl
theorem wk_laws_szIntSS {a0 : (List (List Int))} {a1 : Int}  {r : Int} (h : laws_szIntSS a0 a1 = some r) : Meets Try.prog 23 [.d false [.sl none (a0.map (eF eI))], .v (.int .i64 a1)] { vals := [.p (.int .i64 r)] } := by
  refine Meets_ofL (by kernel_rfl) Try.func23 rfl (by kernel_rfl) (l0 := [(0, .d false [.sl none (a0.map (eF eI))]), (1, .p (.int .i64 a1))]) (by kernel_rfl) ?_
  unfold laws_szIntSS at h
  refine k_sreg (r_go [(0, .d false [.sl none (a0.map (eF eI))]), (1, .p (.int .i64 a1))] [] [] (by kernel_rfl) trivial) ?_
  refine k_sreg (r_go [(0, .d false [.sl none (a0.map (eF eI))]), (1, .p (.int .i64 (w64 (a1 - (a0.length : Int)))))] [(2, {n := some a0.length})] [(a0.map (eF eI)).length = a0.length] (by kernel_rfl) ⟨(List.length_map ..), trivial⟩) ?_
  refine k_seq ?_
  refine k_sreg (r_go [(0, .d false [.sl none (a0.map (eF eI))]), (1, .p (.int .i64 (w64 (a1 - (a0.length : Int))))), (11, .p (.bool (decide ((w64 (a1 - (a0.length : Int))) < 0))))] [] [] (by kernel_rfl) trivial) ?_
  refine k_cond (b := (decide ((w64 (a1 - (a0.length : Int))) < 0))) (by kernel_rfl) (fun hc2_0 => ?_) (fun hc2_0 => ?_)
  · replace h := ite_t hc2_0 h
    refine k_sreg (r_go [(4, .p (.int .i64 (-1)))] [] [] (by kernel_rfl) trivial) ?_
    refine k_ret ?_
    refine q_r ?_
    obtain rfl := Option.some.inj h
    exact e_ret (ls := [(.p (.int .i64 (-1)), 4)]) (by kernel_rfl) rfl (by kernel_rfl) rfl
  · replace h := ite_f hc2_0 h
    refine k_skip ?_
    refine q_n ?_
    refine k_join (J := fun (x : Int) => [(1, .p (.int .i64 x))]) (K := fun x => laws_szIntSS_k1 x = some r) (fun x2 h => ?_) ?_
    · unfold laws_szIntSS_k1 at h
      refine k_sreg (r_go [(4, .p (.int .i64 x2))] [] [] (by kernel_rfl) trivial) ?_
      refine k_ret ?_
      obtain rfl := Option.some.inj h
      exact e_ret (ls := [(.p (.int .i64 x2), 4)]) (by kernel_rfl) rfl (by kernel_rfl) rfl
    · refine k_sreg (r_go [(0, .d false [.sl none (a0.map (eF eI))]), (1, .p (.int .i64 (w64 (a1 - (a0.length : Int))))), (5, .p (.int .i64 0))] [] [] (by kernel_rfl) trivial) ?_
      refine k_block ?_
      obtain ⟨y4, hl_x3, hk_x3⟩ := bind_some' h
      clear h
      refine k_loop (J := fun (x : (Int × Int)) => [(0, .d false [.sl none (a0.map (eF eI))]), (1, .p (.int .i64 x.1)), (5, .p (.int .i64 x.2))]) hl_x3 (wk_of (by kernel_rfl) (by kernel_rfl)) (fun x3 o_x3 h hy_x3 => ?_)
      unfold laws_szIntSS_b1 at h
      refine k_seq ?_
      refine k_sreg (r_go [(0, .d false [.sl none (a0.map (eF eI))]), (1, .p (.int .i64 x3.1)), (5, .p (.int .i64 x3.2)), (15, .p (.bool (decide (x3.2 < (a0.length : Int)))))] [(2, {n := some a0.length})] [(a0.map (eF eI)).length = a0.length] (by kernel_rfl) ⟨(List.length_map ..), trivial⟩) ?_
      refine k_cond (b := (decide (x3.2 < (a0.length : Int)))) (by kernel_rfl) (fun hc5_4 => ?_) (fun hc5_4 => ?_)
      · replace h := ite_t hc5_4 h
        refine k_skip ?_
        refine q_n ?_
        refine k_seq ?_
        refine k_block ?_
        replace h := bind_some' h
        obtain ⟨v6, hv6, h⟩ := h
        replace h := bind_some' h
        obtain ⟨v7, hv7, h⟩ := h
        refine k_sreg (r_go [(0, .d false [.sl none (a0.map (eF eI))]), (1, .p (.int .i64 v7)), (5, .p (.int .i64 x3.2))] [(2, {row := some [.sl none (v6.map eI)]}), (5, {call := some ([.d false [.sl none (v6.map eI)], .v (.int .i64 x3.1)], [.p (.int .i64 v7)], true)})] [0 ≤ x3.2, (a0.map (eF eI))[(Int.toNat x3.2)]? = some [.sl none (v6.map eI)], ([.d false [.sl none (v6.map eI)], .v (.int .i64 x3.1)] : List Arg) = [.d false [.sl none (v6.map eI)], .v (.int .i64 x3.1)], Meets Try.prog 58 ([.d false [.sl none (v6.map eI)], .v (.int .i64 x3.1)] ++ []) { vals := [.p (.int .i64 v7)] }, (!true || List.all [.p (.int .i64 v7)] simpleR) = true] (by kernel_rfl) ⟨(idxO_some hv6).1, (map_get (eF eI) (idxO_some hv6).2), rfl, (wk_laws_szIntS hv7), (bt rfl), trivial⟩) ?_
        refine k_sreg (r_go [(0, .d false [.sl none (a0.map (eF eI))]), (1, .p (.int .i64 v7)), (5, .p (.int .i64 x3.2)), (25, .p (.bool (decide (v7 < 0))))] [] [] (by kernel_rfl) trivial) ?_
        refine k_cond (b := (decide (v7 < 0))) (by kernel_rfl) (fun hc6_7 => ?_) (fun hc6_7 => ?_)
        · replace h := ite_t hc6_7 h
          refine k_sreg (r_go [(4, .p (.int .i64 (-1)))] [] [] (by kernel_rfl) trivial) ?_
          refine k_ret ?_
          refine b_r ?_
          refine q_r ?_
          refine lq_r ?_
          refine b_r ?_
          refine q_r ?_
          have hyy := hy_x3 _ (Option.some.inj h).symm
          subst hyy
          have h := hk_x3
          dsimp only [Sum.elim] at h
          obtain rfl := Option.some.inj h
          exact e_ret (ls := [(.p (.int .i64 (-1)), 4)]) (by kernel_rfl) rfl (by kernel_rfl) rfl
        · replace h := ite_f hc6_7 h
          refine k_skip ?_
          refine b_n ?_
          refine q_n ?_
          refine k_reg (r_go [(0, .d false [.sl none (a0.map (eF eI))]), (1, .p (.int .i64 v7)), (5, .p (.int .i64 (w64 (x3.2 + 1))))] [] [] (by kernel_rfl) trivial) ?_
          exact lq_n (v7, (w64 (x3.2 + 1))) (Option.some.inj h).symm (wk_of (by kernel_rfl) (by kernel_rfl))
      · replace h := ite_f hc5_4 h
        refine k_exit ?_
        refine q_x ?_
        refine lq_x ?_
        refine b_x ?_
        have hyy := hy_x3 _ (Option.some.inj h).symm
        subst hyy
        have h := hk_x3
        dsimp only [Sum.elim] at h
        refine q_n ?_
        exact ⟨x3.1, h, (wk_of (by kernel_rfl) (by kernel_rfl))⟩
theorem wk_laws_toIntS {a0 : (List Int)}  {r : (List Int)} (h : laws_toIntS a0 = some r) : Meets Try.prog 16 [.d false [.sl none (a0.map eI)]] { vals := [.ov false [.sl (some 3) (r.map eI)]] } := by
  refine Meets_ofL (by kernel_rfl) Try.func16 rfl (by kernel_rfl) (l0 := [(0, .d false [.sl none (a0.map eI)])]) (by kernel_rfl) ?_
  unfold laws_toIntS at h
  refine k_sreg (r_go [(0, .d false [.sl none (a0.map eI)])] [] [] (by kernel_rfl) trivial) ?_
  replace h := bind_some' h
  obtain ⟨u1, hu1, h⟩ := h
  refine k_sreg (r_go [(0, .d false [.sl none (a0.map eI)]), (3, .ov false [.sl (some 3) ((List.replicate (Int.toNat (a0.length : Int)) (0 : Int)).map eI)])] [(1, {n := some a0.length}), (2, {fix := some (7, .ov false [.sl (some 3) ((List.replicate (Int.toNat (a0.length : Int)) (0 : Int)).map eI)])})] [(a0.map eI).length = a0.length, (a0.length : Int) = (a0.length : Int), 0 ≤ (a0.length : Int), (a0.length : Int) ≤ 1099511627776, (SV.ov false [.sl (some 3) (List.replicate (Int.toNat (a0.length : Int)) [.raw (.int .i64 0)])] : SV) = .ov false [.sl (some 3) ((List.replicate (Int.toNat (a0.length : Int)) (0 : Int)).map eI)]] (by kernel_rfl) ⟨(List.length_map ..), rfl, (guardO_some hu1).1, (guardO_some hu1).2, (congrArg (fun z => SV.ov false [.sl (some 3) z]) (rep_fix eI (0 : Int))), trivial⟩) ?_
  refine k_join (J := fun (x : (List Int)) => [(3, .ov false [.sl (some 3) (x.map eI)])]) (K := fun x => laws_toIntS_k1 x = some r) (fun x2 h => ?_) ?_
  · unfold laws_toIntS_k1 at h
    refine k_sreg (r_go [(2, .ov false [.sl (some 3) (x2.map eI)])] [] [] (by kernel_rfl) trivial) ?_
    refine k_ret ?_
    obtain rfl := Option.some.inj h
    exact e_ret (ls := [(.ov false [.sl (some 3) (x2.map eI)], 2)]) (by kernel_rfl) rfl (by kernel_rfl) rfl
  · refine k_sreg (r_go [(0, .d false [.sl none (a0.map eI)]), (3, .ov false [.sl (some 3) ((List.replicate (Int.toNat (a0.length : Int)) (0 : Int)).map eI)]), (4, .p (.int .i64 0))] [] [] (by kernel_rfl) trivial) ?_
    refine k_block ?_
    obtain ⟨y4, hl_x3, hk_x3⟩ := bind_some' h
    clear h
    refine k_loop (J := fun (x : ((List Int) × Int)) => [(0, .d false [.sl none (a0.map eI)]), (3, .ov false [.sl (some 3) (x.1.map eI)]), (4, .p (.int .i64 x.2))]) hl_x3 (wk_of (by kernel_rfl) (by kernel_rfl)) (fun x3 o_x3 h hy_x3 => ?_)
    unfold laws_toIntS_b1 at h
    refine k_seq ?_
    refine k_sreg (r_go [(0, .d false [.sl none (a0.map eI)]), (3, .ov false [.sl (some 3) (x3.1.map eI)]), (4, .p (.int .i64 x3.2)), (11, .p (.bool (decide (x3.2 < (a0.length : Int)))))] [(2, {n := some a0.length})] [(a0.map eI).length = a0.length] (by kernel_rfl) ⟨(List.length_map ..), trivial⟩) ?_
    refine k_cond (b := (decide (x3.2 < (a0.length : Int)))) (by kernel_rfl) (fun hc5_4 => ?_) (fun hc5_4 => ?_)
    · replace h := ite_t hc5_4 h
      refine k_skip ?_
      refine q_n ?_
      refine k_seq ?_
      refine k_block ?_
      replace h := bind_some' h
      obtain ⟨v6, hv6, h⟩ := h
      replace h := bind_some' h
      obtain ⟨v7, hv7, h⟩ := h
      refine k_reg (r_go [(0, .d false [.sl none (a0.map eI)]), (3, .ov false [.sl (some 3) ((x3.1.set (Int.toNat x3.2) v6).map eI)]), (4, .p (.int .i64 x3.2))] [(4, {row := some [.raw (.int .i64 v6)]}), (6, {row := some [.raw (.int .i64 v7)]}), (7, {row := some [.raw (.int .i64 v7)], fix := some (3, .ov false [.sl (some 3) ((x3.1.set (Int.toNat x3.2) v6).map eI)])})] [0 ≤ x3.2, (a0.map eI)[(Int.toNat x3.2)]? = some [.raw (.int .i64 v6)], 0 ≤ x3.2, (x3.1.map eI)[(Int.toNat x3.2)]? = some [.raw (.int .i64 v7)], getRow [[.sl (some 3) (x3.1.map eI)]] [(0, 0), ((Int.toNat x3.2), 0)] = some [.raw (.int .i64 v7)], (SV.ov false [.sl (some 3) (setL (x3.1.map eI) [((Int.toNat x3.2), 0)] [.raw (.int .i64 v6)])] : SV) = .ov false [.sl (some 3) ((x3.1.set (Int.toNat x3.2) v6).map eI)]] (by kernel_rfl) ⟨(idxO_some hv6).1, (map_get eI (idxO_some hv6).2), (idxO_some hv7).1, (map_get eI (idxO_some hv7).2), ((gr0 rfl).trans (gre (map_get eI (idxO_some hv7).2))), (congrArg (fun z => SV.ov false [.sl (some 3) z]) (set1 (f := eI) (y := v6) (idxO_some hv7).2 rfl)), trivial⟩) ?_
      refine b_n ?_
      refine q_n ?_
      refine k_reg (r_go [(0, .d false [.sl none (a0.map eI)]), (3, .ov false [.sl (some 3) ((x3.1.set (Int.toNat x3.2) v6).map eI)]), (4, .p (.int .i64 (w64 (x3.2 + 1))))] [] [] (by kernel_rfl) trivial) ?_
      exact lq_n ((x3.1.set (Int.toNat x3.2) v6), (w64 (x3.2 + 1))) (Option.some.inj h).symm (wk_of (by kernel_rfl) (by kernel_rfl))
    · replace h := ite_f hc5_4 h
      refine k_exit ?_
      refine q_x ?_
      refine lq_x ?_
      refine b_x ?_
      have hyy := hy_x3 _ (Option.some.inj h).symm
      subst hyy
      have h := hk_x3
      refine q_n ?_
      exact ⟨x3.1, h, (wk_of (by kernel_rfl) (by kernel_rfl))⟩
theorem wk_laws_toIntSS {a0 : (List (List Int))}  {r : (List (List Int))} (h : laws_toIntSS a0 = some r) : Meets Try.prog 25 [.d false [.sl none (a0.map (eF eI))]] { vals := [.ov false [.sl (some 22) (r.map (eO 3 eI))]] } := by
  refine Meets_ofL (by kernel_rfl) Try.func25 rfl (by kernel_rfl) (l0 := [(0, .d false [.sl none (a0.map (eF eI))])]) (by kernel_rfl) ?_
  unfold laws_toIntSS at h
  refine k_sreg (r_go [(0, .d false [.sl none (a0.map (eF eI))])] [] [] (by kernel_rfl) trivial) ?_
  replace h := bind_some' h
  obtain ⟨u1, hu1, h⟩ := h
  refine k_sreg (r_go [(0, .d false [.sl none (a0.map (eF eI))]), (3, .ov false [.sl (some 22) ((List.replicate (Int.toNat (a0.length : Int)) ([] : (List Int))).map (eO 3 eI))])] [(1, {n := some a0.length}), (2, {fix := some (7, .ov false [.sl (some 22) ((List.replicate (Int.toNat (a0.length : Int)) ([] : (List Int))).map (eO 3 eI))])})] [(a0.map (eF eI)).length = a0.length, (a0.length : Int) = (a0.length : Int), 0 ≤ (a0.length : Int), (a0.length : Int) ≤ 1099511627776, (SV.ov false [.sl (some 22) (List.replicate (Int.toNat (a0.length : Int)) [.sl (some 3) []])] : SV) = .ov false [.sl (some 22) ((List.replicate (Int.toNat (a0.length : Int)) ([] : (List Int))).map (eO 3 eI))]] (by kernel_rfl) ⟨(List.length_map ..), rfl, (guardO_some hu1).1, (guardO_some hu1).2, (congrArg (fun z => SV.ov false [.sl (some 22) z]) (rep_fix (eO 3 eI) ([] : (List Int)))), trivial⟩) ?_
  refine k_join (J := fun (x : (List (List Int))) => [(3, .ov false [.sl (some 22) (x.map (eO 3 eI))])]) (K := fun x => laws_toIntSS_k1 x = some r) (fun x2 h => ?_) ?_
  · unfold laws_toIntSS_k1 at h
    refine k_sreg (r_go [(2, .ov false [.sl (some 22) (x2.map (eO 3 eI))])] [] [] (by kernel_rfl) trivial) ?_
    refine k_ret ?_
    obtain rfl := Option.some.inj h
    exact e_ret (ls := [(.ov false [.sl (some 22) (x2.map (eO 3 eI))], 2)]) (by kernel_rfl) rfl (by kernel_rfl) rfl
  · refine k_sreg (r_go [(0, .d false [.sl none (a0.map (eF eI))]), (3, .ov false [.sl (some 22) ((List.replicate (Int.toNat (a0.length : Int)) ([] : (List Int))).map (eO 3 eI))]), (4, .p (.int .i64 0))] [] [] (by kernel_rfl) trivial) ?_
    refine k_block ?_
    obtain ⟨y4, hl_x3, hk_x3⟩ := bind_some' h
    clear h
    refine k_loop (J := fun (x : ((List (List Int)) × Int)) => [(0, .d false [.sl none (a0.map (eF eI))]), (3, .ov false [.sl (some 22) (x.1.map (eO 3 eI))]), (4, .p (.int .i64 x.2))]) hl_x3 (wk_of (by kernel_rfl) (by kernel_rfl)) (fun x3 o_x3 h hy_x3 => ?_)
    unfold laws_toIntSS_b1 at h
    refine k_seq ?_
    refine k_sreg (r_go [(0, .d false [.sl none (a0.map (eF eI))]), (3, .ov false [.sl (some 22) (x3.1.map (eO 3 eI))]), (4, .p (.int .i64 x3.2)), (11, .p (.bool (decide (x3.2 < (a0.length : Int)))))] [(2, {n := some a0.length})] [(a0.map (eF eI)).length = a0.length] (by kernel_rfl) ⟨(List.length_map ..), trivial⟩) ?_
    refine k_cond (b := (decide (x3.2 < (a0.length : Int)))) (by kernel_rfl) (fun hc5_4 => ?_) (fun hc5_4 => ?_)
    · replace h := ite_t hc5_4 h
      refine k_skip ?_
      refine q_n ?_
      refine k_seq ?_
      refine k_block ?_
      replace h := bind_some' h
      obtain ⟨v6, hv6, h⟩ := h
      replace h := bind_some' h
      obtain ⟨v7, hv7, h⟩ := h
      replace h := bind_some' h
      obtain ⟨v8, hv8, h⟩ := h
      refine k_reg (r_go [(0, .d false [.sl none (a0.map (eF eI))]), (3, .ov false [.sl (some 22) ((x3.1.set (Int.toNat x3.2) v7).map (eO 3 eI))]), (4, .p (.int .i64 x3.2))] [(4, {row := some [.sl none (v6.map eI)]}), (6, {call := some ([.d false [.sl none (v6.map eI)]], [.ov false [.sl (some 3) (v7.map eI)]], true)}), (7, {row := some [.sl (some 3) (v8.map eI)]}), (8, {row := some [.sl (some 3) (v8.map eI)], fix := some (3, .ov false [.sl (some 22) ((x3.1.set (Int.toNat x3.2) v7).map (eO 3 eI))])})] [0 ≤ x3.2, (a0.map (eF eI))[(Int.toNat x3.2)]? = some [.sl none (v6.map eI)], ([.d false [.sl none (v6.map eI)]] : List Arg) = [.d false [.sl none (v6.map eI)]], Meets Try.prog 16 ([.d false [.sl none (v6.map eI)]] ++ []) { vals := [.ov false [.sl (some 3) (v7.map eI)]] }, (!true || List.all [.ov false [.sl (some 3) (v7.map eI)]] simpleR) = true, 0 ≤ x3.2, (x3.1.map (eO 3 eI))[(Int.toNat x3.2)]? = some [.sl (some 3) (v8.map eI)], getRow [[.sl (some 22) (x3.1.map (eO 3 eI))]] [(0, 0), ((Int.toNat x3.2), 0)] = some [.sl (some 3) (v8.map eI)], (SV.ov false [.sl (some 22) (setL (x3.1.map (eO 3 eI)) [((Int.toNat x3.2), 0)] [.sl (some 3) (v7.map eI)])] : SV) = .ov false [.sl (some 22) ((x3.1.set (Int.toNat x3.2) v7).map (eO 3 eI))]] (by kernel_rfl) ⟨(idxO_some hv6).1, (map_get (eF eI) (idxO_some hv6).2), rfl, (wk_laws_toIntS hv7), (bt (sa_o (wnR1 (wnL_enc wn_I) rfl) rfl)), (idxO_some hv8).1, (map_get (eO 3 eI) (idxO_some hv8).2), ((gr0 rfl).trans (gre (map_get (eO 3 eI) (idxO_some hv8).2))), (congrArg (fun z => SV.ov false [.sl (some 22) z]) (set1 (f := (eO 3 eI)) (y := v7) (idxO_some hv8).2 rfl)), trivial⟩) ?_
      refine b_n ?_
      refine q_n ?_
      refine k_reg (r_go [(0, .d false [.sl none (a0.map (eF eI))]), (3, .ov false [.sl (some 22) ((x3.1.set (Int.toNat x3.2) v7).map (eO 3 eI))]), (4, .p (.int .i64 (w64 (x3.2 + 1))))] [] [] (by kernel_rfl) trivial) ?_
      exact lq_n ((x3.1.set (Int.toNat x3.2) v7), (w64 (x3.2 + 1))) (Option.some.inj h).symm (wk_of (by kernel_rfl) (by kernel_rfl))
    · replace h := ite_f hc5_4 h
      refine k_exit ?_
      refine q_x ?_
      refine lq_x ?_
      refine b_x ?_
      have hyy := hy_x3 _ (Option.some.inj h).symm
      subst hyy
      have h := hk_x3
      refine q_n ?_
      exact ⟨x3.1, h, (wk_of (by kernel_rfl) (by kernel_rfl))⟩
theorem wk_spec_l1In {a0 : Int} {a1 : Int} {a2 : Int}  {r : Bool} (h : spec_l1In a0 a1 a2 = some r) : Meets Try.prog 86 [.v (.int .i64 a0), .v (.int .i64 a1), .v (.int .i64 a2)] { vals := [.p (.bool r)] } := by
  refine Meets_ofL (by kernel_rfl) Try.func86 rfl (by kernel_rfl) (l0 := [(0, .p (.int .i64 a0)), (1, .p (.int .i64 a1)), (2, .p (.int .i64 a2))]) (by kernel_rfl) ?_
  unfold spec_l1In at h
  refine k_sreg (r_go [(0, .p (.int .i64 a0)), (1, .p (.int .i64 a1)), (2, .p (.int .i64 a2))] [] [] (by kernel_rfl) trivial) ?_
  refine k_sreg (l1 := [(6, .p (.bool ((decide (a0 ≥ a1)) && (decide (a0 ≤ a2)))))]) ?_ ?_
  · rcases Bool.eq_false_or_eq_true (decide (a0 ≥ a1)) with ha0 | ha0
    · exact RegOk.of_eq (l2 := [(6, .p (.bool ((decide (a0 ≥ a1)) && (decide (a0 ≤ a2)))))]) (r_go [(6, .p (.bool (decide (a0 ≤ a2))))] [(4, {g := some true}), (5, {g := some true}), (6, {g := some true}), (7, {b := some true})] [(decide (a0 ≥ a1)) = true, (decide (a0 ≥ a1)) = true, (decide (a0 ≥ a1)) = true, (decide (a0 ≥ a1)) = true] (by kernel_rfl) ⟨ha0, ha0, ha0, ha0, trivial⟩) (by simp [ha0])
    · exact RegOk.of_eq (l2 := [(6, .p (.bool ((decide (a0 ≥ a1)) && (decide (a0 ≤ a2)))))]) (r_go [(6, .p (.bool false))] [(4, {g := some false}), (5, {g := some false}), (6, {g := some false}), (7, {b := some false})] [(decide (a0 ≥ a1)) = false, (decide (a0 ≥ a1)) = false, (decide (a0 ≥ a1)) = false, (decide (a0 ≥ a1)) = false] (by kernel_rfl) ⟨ha0, ha0, ha0, ha0, trivial⟩) (by simp [ha0])
  · refine k_ret ?_
    obtain rfl := Option.some.inj h
    exact e_ret (ls := [(.p (.bool ((decide (a0 ≥ a1)) && (decide (a0 ≤ a2)))), 6)]) (by kernel_rfl) rfl (by kernel_rfl) rfl
theorem wk_spec_l1All {a0 : (List Int)} {a1 : Int} {a2 : Int}  {r : Bool} (h : spec_l1All a0 a1 a2 = some r) : Meets Try.prog 87 [.d false [.sl none (a0.map eI)], .v (.int .i64 a1), .v (.int .i64 a2)] { vals := [.p (.bool r)] } := by
  refine Meets_ofL (by kernel_rfl) Try.func87 rfl (by kernel_rfl) (l0 := [(0, .d false [.sl none (a0.map eI)]), (1, .p (.int .i64 a1)), (2, .p (.int .i64 a2))]) (by kernel_rfl) ?_
  unfold spec_l1All at h
  refine k_sreg (r_go [(0, .d false [.sl none (a0.map eI)]), (1, .p (.int .i64 a1)), (2, .p (.int .i64 a2))] [] [] (by kernel_rfl) trivial) ?_
  refine k_join (J := fun (x : Unit) => []) (K := fun x => spec_l1All_k1 x = some r) (fun x1 h => ?_) ?_
  · unfold spec_l1All_k1 at h
    refine k_sreg (r_go [(6, .p (.bool true))] [] [] (by kernel_rfl) trivial) ?_
    refine k_ret ?_
    obtain rfl := Option.some.inj h
    exact e_ret (ls := [(.p (.bool true), 6)]) (by kernel_rfl) rfl (by kernel_rfl) rfl
  · refine k_sreg (r_go [(1, .p (.int .i64 a1)), (2, .p (.int .i64 a2)), (9, .d false [.sl none (a0.map eI)]), (10, .p (.int .i64 (a0.length : Int))), (11, .p (.int .i64 0))] [(1, {n := some a0.length})] [(a0.map eI).length = a0.length] (by kernel_rfl) ⟨(List.length_map ..), trivial⟩) ?_
    refine k_block ?_
    obtain ⟨y3, hl_x2, hk_x2⟩ := bind_some' h
    clear h
    refine k_loop (J := fun (x : Int) => [(1, .p (.int .i64 a1)), (2, .p (.int .i64 a2)), (9, .d false [.sl none (a0.map eI)]), (10, .p (.int .i64 (a0.length : Int))), (11, .p (.int .i64 x))]) hl_x2 (wk_of (by kernel_rfl) (by kernel_rfl)) (fun x2 o_x2 h hy_x2 => ?_)
    unfold spec_l1All_b1 at h
    refine k_sreg (r_go [(1, .p (.int .i64 a1)), (2, .p (.int .i64 a2)), (9, .d false [.sl none (a0.map eI)]), (10, .p (.int .i64 (a0.length : Int))), (11, .p (.int .i64 x2)), (12, .p (.bool (decide (x2 < (a0.length : Int)))))] [] [] (by kernel_rfl) trivial) ?_
    refine k_seq ?_
    refine k_cond (b := (decide (x2 < (a0.length : Int)))) (by kernel_rfl) (fun hc5_3 => ?_) (fun hc5_3 => ?_)
    · replace h := ite_t hc5_3 h
      refine k_skip ?_
      refine q_n ?_
      refine k_seq ?_
      refine k_block ?_
      replace h := bind_some' h
      obtain ⟨v5, hv5, h⟩ := h
      refine k_sreg (r_go [(1, .p (.int .i64 a1)), (2, .p (.int .i64 a2)), (8, .p (.int .i64 v5)), (9, .d false [.sl none (a0.map eI)]), (10, .p (.int .i64 (a0.length : Int))), (11, .p (.int .i64 x2))] [(0, {row := some [.raw (.int .i64 v5)]})] [0 ≤ x2, (a0.map eI)[(Int.toNat x2)]? = some [.raw (.int .i64 v5)]] (by kernel_rfl) ⟨(idxO_some hv5).1, (map_get eI (idxO_some hv5).2), trivial⟩) ?_
      replace h := bind_some' h
      obtain ⟨v6, hv6, h⟩ := h
      refine k_sreg (r_go [(1, .p (.int .i64 a1)), (2, .p (.int .i64 a2)), (9, .d false [.sl none (a0.map eI)]), (10, .p (.int .i64 (a0.length : Int))), (11, .p (.int .i64 x2)), (19, .p (.bool (!v6)))] [(3, {call := some ([.v (.int .i64 v5), .v (.int .i64 a1), .v (.int .i64 a2)], [.p (.bool v6)], true)})] [([.v (.int .i64 v5), .v (.int .i64 a1), .v (.int .i64 a2)] : List Arg) = [.v (.int .i64 v5), .v (.int .i64 a1), .v (.int .i64 a2)], Meets Try.prog 86 ([.v (.int .i64 v5), .v (.int .i64 a1), .v (.int .i64 a2)] ++ []) { vals := [.p (.bool v6)] }, (!true || List.all [.p (.bool v6)] simpleR) = true] (by kernel_rfl) ⟨rfl, (wk_spec_l1In hv6), (bt rfl), trivial⟩) ?_
      refine k_cond (b := (!v6)) (by kernel_rfl) (fun hc6_6 => ?_) (fun hc6_6 => ?_)
      · replace h := ite_t hc6_6 h
        refine k_sreg (r_go [(6, .p (.bool false))] [] [] (by kernel_rfl) trivial) ?_
        refine k_ret ?_
        refine b_r ?_
        refine q_r ?_
        refine lq_r ?_
        refine b_r ?_
        refine q_r ?_
        have hyy := hy_x2 _ (Option.some.inj h).symm
        subst hyy
        have h := hk_x2
        dsimp only [Sum.elim] at h
        obtain rfl := Option.some.inj h
        exact e_ret (ls := [(.p (.bool false), 6)]) (by kernel_rfl) rfl (by kernel_rfl) rfl
      · replace h := ite_f hc6_6 h
        refine k_skip ?_
        refine b_n ?_
        refine q_n ?_
        refine k_reg (r_go [(1, .p (.int .i64 a1)), (2, .p (.int .i64 a2)), (9, .d false [.sl none (a0.map eI)]), (10, .p (.int .i64 (a0.length : Int))), (11, .p (.int .i64 (w64 (x2 + 1))))] [] [] (by kernel_rfl) trivial) ?_
        exact lq_n (w64 (x2 + 1)) (Option.some.inj h).symm (wk_of (by kernel_rfl) (by kernel_rfl))
    · replace h := ite_f hc5_3 h
      refine k_exit ?_
      refine q_x ?_
      refine lq_x ?_
      refine b_x ?_
      have hyy := hy_x2 _ (Option.some.inj h).symm
      subst hyy
      have h := hk_x2
      dsimp only [Sum.elim] at h
      refine q_n ?_
      exact ⟨(), h, (wk_of (by kernel_rfl) (by kernel_rfl))⟩
theorem wk_spec_grGood {a0 : (List (List Int))}  {r : Bool} (h : spec_grGood a0 = some r) : Meets Try.prog 63 [.d false [.sl none (a0.map (eF eI))]] { vals := [.p (.bool r)] } := by
  refine Meets_ofL (by kernel_rfl) Try.func63 rfl (by kernel_rfl) (l0 := [(0, .d false [.sl none (a0.map (eF eI))])]) (by kernel_rfl) ?_
  unfold spec_grGood at h
  refine k_sreg (r_go [(0, .d false [.sl none (a0.map (eF eI))])] [] [] (by kernel_rfl) trivial) ?_
  refine k_seq ?_
  replace h := bind_some' h
  obtain ⟨v1, hv1, h⟩ := h
  refine k_sreg (r_go [(0, .d false [.sl none (a0.map (eF eI))]), (8, .p (.bool (!v1)))] [(1, {n := some a0.length}), (2, {call := some ([.v (.int .i64 (a0.length : Int)), .v (.int .i64 1), .v (.int .i64 8)], [.p (.bool v1)], true)})] [(a0.map (eF eI)).length = a0.length, ([.v (.int .i64 (a0.length : Int)), .v (.int .i64 1), .v (.int .i64 8)] : List Arg) = [.v (.int .i64 (a0.length : Int)), .v (.int .i64 1), .v (.int .i64 8)], Meets Try.prog 86 ([.v (.int .i64 (a0.length : Int)), .v (.int .i64 1), .v (.int .i64 8)] ++ []) { vals := [.p (.bool v1)] }, (!true || List.all [.p (.bool v1)] simpleR) = true] (by kernel_rfl) ⟨(List.length_map ..), rfl, (wk_spec_l1In hv1), (bt rfl), trivial⟩) ?_
  refine k_cond (b := (!v1)) (by kernel_rfl) (fun hc2_1 => ?_) (fun hc2_1 => ?_)
  · replace h := ite_t hc2_1 h
    refine k_sreg (r_go [(2, .p (.bool false))] [] [] (by kernel_rfl) trivial) ?_
    refine k_ret ?_
    refine q_r ?_
    obtain rfl := Option.some.inj h
    exact e_ret (ls := [(.p (.bool false), 2)]) (by kernel_rfl) rfl (by kernel_rfl) rfl
  · replace h := ite_f hc2_1 h
    refine k_skip ?_
    refine q_n ?_
    refine k_join (J := fun (x : Unit) => []) (K := fun x => spec_grGood_k1 x = some r) (fun x3 h => ?_) ?_
    · unfold spec_grGood_k1 at h
      refine k_sreg (r_go [(2, .p (.bool true))] [] [] (by kernel_rfl) trivial) ?_
      refine k_ret ?_
      obtain rfl := Option.some.inj h
      exact e_ret (ls := [(.p (.bool true), 2)]) (by kernel_rfl) rfl (by kernel_rfl) rfl
    · refine k_sreg (r_go [(0, .d false [.sl none (a0.map (eF eI))]), (9, .d false [.sl none (a0.map (eF eI))]), (10, .p (.int .i64 (a0.length : Int))), (11, .p (.int .i64 0))] [(1, {n := some a0.length})] [(a0.map (eF eI)).length = a0.length] (by kernel_rfl) ⟨(List.length_map ..), trivial⟩) ?_
      refine k_block ?_
      obtain ⟨y5, hl_x4, hk_x4⟩ := bind_some' h
      clear h
      refine k_loop (J := fun (x : Int) => [(0, .d false [.sl none (a0.map (eF eI))]), (9, .d false [.sl none (a0.map (eF eI))]), (10, .p (.int .i64 (a0.length : Int))), (11, .p (.int .i64 x))]) hl_x4 (wk_of (by kernel_rfl) (by kernel_rfl)) (fun x4 o_x4 h hy_x4 => ?_)
      unfold spec_grGood_b1 at h
      refine k_sreg (r_go [(0, .d false [.sl none (a0.map (eF eI))]), (9, .d false [.sl none (a0.map (eF eI))]), (10, .p (.int .i64 (a0.length : Int))), (11, .p (.int .i64 x4)), (12, .p (.bool (decide (x4 < (a0.length : Int)))))] [] [] (by kernel_rfl) trivial) ?_
      refine k_seq ?_
      refine k_cond (b := (decide (x4 < (a0.length : Int)))) (by kernel_rfl) (fun hc5_5 => ?_) (fun hc5_5 => ?_)
      · replace h := ite_t hc5_5 h
        refine k_skip ?_
        refine q_n ?_
        refine k_seq ?_
        refine k_block ?_
        replace h := bind_some' h
        obtain ⟨v7, hv7, h⟩ := h
        refine k_sreg (r_go [(0, .d false [.sl none (a0.map (eF eI))]), (4, .d false [.sl none (v7.map eI)]), (9, .d false [.sl none (a0.map (eF eI))]), (10, .p (.int .i64 (a0.length : Int))), (11, .p (.int .i64 x4))] [(0, {row := some [.sl none (v7.map eI)]})] [0 ≤ x4, (a0.map (eF eI))[(Int.toNat x4)]? = some [.sl none (v7.map eI)]] (by kernel_rfl) ⟨(idxO_some hv7).1, (map_get (eF eI) (idxO_some hv7).2), trivial⟩) ?_
        replace h := bind_some' h
        obtain ⟨w9, hw9, h⟩ := h
        refine k_sreg (l1 := [(0, .d false [.sl none (a0.map (eF eI))]), (9, .d false [.sl none (a0.map (eF eI))]), (10, .p (.int .i64 (a0.length : Int))), (11, .p (.int .i64 x4)), (24, .p (.bool w9))]) ?_ ?_
        · clear h
          rcases Bool.eq_false_or_eq_true ((v7.length : Int) != (a0.length : Int)) with ha2 | ha2
          · replace hw9 := ite_t ha2 hw9
            have hw9 := Option.some.inj hw9
            subst hw9
            exact (r_go [(0, .d false [.sl none (a0.map (eF eI))]), (9, .d false [.sl none (a0.map (eF eI))]), (10, .p (.int .i64 (a0.length : Int))), (11, .p (.int .i64 x4)), (24, .p (.bool true))] [(1, {n := some v7.length}), (3, {n := some a0.length}), (6, {g := some true}), (7, {g := some true}), (8, {g := some true}), (9, {b := some true})] [(v7.map eI).length = v7.length, (a0.map (eF eI)).length = a0.length, ((v7.length : Int) != (a0.length : Int)) = true, ((v7.length : Int) != (a0.length : Int)) = true, ((v7.length : Int) != (a0.length : Int)) = true, ((v7.length : Int) != (a0.length : Int)) = true] (by kernel_rfl) ⟨(List.length_map ..), (List.length_map ..), ha2, ha2, ha2, ha2, trivial⟩)
          · replace hw9 := ite_f ha2 hw9
            replace hw9 := bind_some' hw9
            obtain ⟨v8, hv8, hw9⟩ := hw9
            have hw9 := Option.some.inj hw9
            subst hw9
            exact (r_go [(0, .d false [.sl none (a0.map (eF eI))]), (9, .d false [.sl none (a0.map (eF eI))]), (10, .p (.int .i64 (a0.length : Int))), (11, .p (.int .i64 x4)), (24, .p (.bool (!v8)))] [(1, {n := some v7.length}), (3, {n := some a0.length}), (6, {g := some false}), (7, {g := some false, call := some ([.d false [.sl none (v7.map eI)], .v (.int .i64 0), .v (.int .i64 9)], [.p (.bool v8)], true)}), (8, {g := some false}), (9, {b := some false})] [(v7.map eI).length = v7.length, (a0.map (eF eI)).length = a0.length, ((v7.length : Int) != (a0.length : Int)) = false, ((v7.length : Int) != (a0.length : Int)) = false, ([.d false [.sl none (v7.map eI)], .v (.int .i64 0), .v (.int .i64 9)] : List Arg) = [.d false [.sl none (v7.map eI)], .v (.int .i64 0), .v (.int .i64 9)], Meets Try.prog 87 ([.d false [.sl none (v7.map eI)], .v (.int .i64 0), .v (.int .i64 9)] ++ []) { vals := [.p (.bool v8)] }, (!true || List.all [.p (.bool v8)] simpleR) = true, ((v7.length : Int) != (a0.length : Int)) = false, ((v7.length : Int) != (a0.length : Int)) = false] (by kernel_rfl) ⟨(List.length_map ..), (List.length_map ..), ha2, ha2, rfl, (wk_spec_l1All hv8), (bt rfl), ha2, ha2, trivial⟩)
        · refine k_cond (b := w9) (by kernel_rfl) (fun hc6_9 => ?_) (fun hc6_9 => ?_)
          · replace h := ite_t hc6_9 h
            refine k_sreg (r_go [(2, .p (.bool false))] [] [] (by kernel_rfl) trivial) ?_
            refine k_ret ?_
            refine b_r ?_
            refine q_r ?_
            refine lq_r ?_
            refine b_r ?_
            refine q_r ?_
            have hyy := hy_x4 _ (Option.some.inj h).symm
            subst hyy
            have h := hk_x4
            dsimp only [Sum.elim] at h
            obtain rfl := Option.some.inj h
            exact e_ret (ls := [(.p (.bool false), 2)]) (by kernel_rfl) rfl (by kernel_rfl) rfl
          · replace h := ite_f hc6_9 h
            refine k_skip ?_
            refine b_n ?_
            refine q_n ?_
            refine k_reg (r_go [(0, .d false [.sl none (a0.map (eF eI))]), (9, .d false [.sl none (a0.map (eF eI))]), (10, .p (.int .i64 (a0.length : Int))), (11, .p (.int .i64 (w64 (x4 + 1))))] [] [] (by kernel_rfl) trivial) ?_
            exact lq_n (w64 (x4 + 1)) (Option.some.inj h).symm (wk_of (by kernel_rfl) (by kernel_rfl))
      · replace h := ite_f hc5_5 h
        refine k_exit ?_
        refine q_x ?_
        refine lq_x ?_
        refine b_x ?_
        have hyy := hy_x4 _ (Option.some.inj h).symm
        subst hyy
        have h := hk_x4
        dsimp only [Sum.elim] at h
        refine q_n ?_
        exact ⟨(), h, (wk_of (by kernel_rfl) (by kernel_rfl))⟩
theorem wk_spec_zeTimes {a0 : (List (List Int))} {a1 : (List (List Int))}  {r : (List (List Int))} (h : spec_zeTimes a0 a1 = some r) : Meets Try.prog 109 [.d false [.sl none (a0.map (eF eI))], .d false [.sl none (a1.map (eF eI))]] { vals := [.ov false [.sl (some 22) (r.map (eO 3 eI))]] } := by
  refine Meets_ofL (by kernel_rfl) Try.func109 rfl (by kernel_rfl) (l0 := [(0, .d false [.sl none (a0.map (eF eI))]), (1, .d false [.sl none (a1.map (eF eI))])]) (by kernel_rfl) ?_
  unfold spec_zeTimes at h
  refine k_sreg (r_go [(0, .d false [.sl none (a0.map (eF eI))]), (1, .d false [.sl none (a1.map (eF eI))])] [] [] (by kernel_rfl) trivial) ?_
  refine k_sreg (r_go [(0, .d false [.sl none (a0.map (eF eI))]), (1, .d false [.sl none (a1.map (eF eI))]), (5, .ov false [.sl (some 22) []])] [] [] (by kernel_rfl) trivial) ?_
  refine k_join (J := fun (x : (List (List Int))) => [(5, .ov false [.sl (some 22) (x.map (eO 3 eI))])]) (K := fun x => spec_zeTimes_k1 x = some r) (fun x1 h => ?_) ?_
  · unfold spec_zeTimes_k1 at h
    refine k_sreg (r_go [(4, .ov false [.sl (some 22) (x1.map (eO 3 eI))])] [] [] (by kernel_rfl) trivial) ?_
    refine k_ret ?_
    obtain rfl := Option.some.inj h
    exact e_ret (ls := [(.ov false [.sl (some 22) (x1.map (eO 3 eI))], 4)]) (by kernel_rfl) rfl (by kernel_rfl) rfl
  · refine k_sreg (r_go [(1, .d false [.sl none (a1.map (eF eI))]), (5, .ov false [.sl (some 22) []]), (13, .d false [.sl none (a0.map (eF eI))]), (14, .p (.int .i64 (a0.length : Int))), (15, .p (.int .i64 0))] [(1, {n := some a0.length})] [(a0.map (eF eI)).length = a0.length] (by kernel_rfl) ⟨(List.length_map ..), trivial⟩) ?_
    refine k_block ?_
    obtain ⟨y3, hl_x2, hk_x2⟩ := bind_some' h
    clear h
    refine k_loop (J := fun (x : ((List (List Int)) × Int)) => [(1, .d false [.sl none (a1.map (eF eI))]), (5, .ov false [.sl (some 22) (x.1.map (eO 3 eI))]), (13, .d false [.sl none (a0.map (eF eI))]), (14, .p (.int .i64 (a0.length : Int))), (15, .p (.int .i64 x.2))]) hl_x2 (wk_of (by kernel_rfl) (by kernel_rfl)) (fun x2 o_x2 h hy_x2 => ?_)
    unfold spec_zeTimes_b1 at h
    refine k_sreg (r_go [(1, .d false [.sl none (a1.map (eF eI))]), (5, .ov false [.sl (some 22) (x2.1.map (eO 3 eI))]), (13, .d false [.sl none (a0.map (eF eI))]), (14, .p (.int .i64 (a0.length : Int))), (15, .p (.int .i64 x2.2)), (16, .p (.bool (decide (x2.2 < (a0.length : Int)))))] [] [] (by kernel_rfl) trivial) ?_
    refine k_seq ?_
    refine k_cond (b := (decide (x2.2 < (a0.length : Int)))) (by kernel_rfl) (fun hc5_3 => ?_) (fun hc5_3 => ?_)
    · replace h := ite_t hc5_3 h
      refine k_skip ?_
      refine q_n ?_
      refine k_join (J := fun (x : (List (List Int))) => [(1, .d false [.sl none (a1.map (eF eI))]), (5, .ov false [.sl (some 22) (x.map (eO 3 eI))]), (13, .d false [.sl none (a0.map (eF eI))]), (14, .p (.int .i64 (a0.length : Int))), (15, .p (.int .i64 x2.2))]) (K := fun x => spec_zeTimes_k2 x2 x = some o_x2) (fun x5 h => ?_) ?_
      · unfold spec_zeTimes_k2 at h
        refine k_reg (r_go [(1, .d false [.sl none (a1.map (eF eI))]), (5, .ov false [.sl (some 22) (x5.map (eO 3 eI))]), (13, .d false [.sl none (a0.map (eF eI))]), (14, .p (.int .i64 (a0.length : Int))), (15, .p (.int .i64 (w64 (x2.2 + 1))))] [] [] (by kernel_rfl) trivial) ?_
        exact lq_n (x5, (w64 (x2.2 + 1))) (Option.some.inj h).symm (wk_of (by kernel_rfl) (by kernel_rfl))
      · refine k_block ?_
        replace h := bind_some' h
        obtain ⟨v6, hv6, h⟩ := h
        refine k_sreg (r_go [(1, .d false [.sl none (a1.map (eF eI))]), (5, .ov false [.sl (some 22) (x2.1.map (eO 3 eI))]), (7, .d false [.sl none (v6.map eI)]), (13, .d false [.sl none (a0.map (eF eI))]), (14, .p (.int .i64 (a0.length : Int))), (15, .p (.int .i64 x2.2))] [(0, {row := some [.sl none (v6.map eI)]})] [0 ≤ x2.2, (a0.map (eF eI))[(Int.toNat x2.2)]? = some [.sl none (v6.map eI)]] (by kernel_rfl) ⟨(idxO_some hv6).1, (map_get (eF eI) (idxO_some hv6).2), trivial⟩) ?_
        replace h := bind_some' h
        obtain ⟨u7, hu7, h⟩ := h
        refine k_sreg (r_go [(1, .d false [.sl none (a1.map (eF eI))]), (5, .ov false [.sl (some 22) (x2.1.map (eO 3 eI))]), (7, .d false [.sl none (v6.map eI)]), (8, .ov false [.sl (some 3) ((List.replicate (Int.toNat (a1.length : Int)) (0 : Int)).map eI)]), (13, .d false [.sl none (a0.map (eF eI))]), (14, .p (.int .i64 (a0.length : Int))), (15, .p (.int .i64 x2.2))] [(1, {n := some a1.length}), (2, {fix := some (21, .ov false [.sl (some 3) ((List.replicate (Int.toNat (a1.length : Int)) (0 : Int)).map eI)])})] [(a1.map (eF eI)).length = a1.length, (a1.length : Int) = (a1.length : Int), 0 ≤ (a1.length : Int), (a1.length : Int) ≤ 1099511627776, (SV.ov false [.sl (some 3) (List.replicate (Int.toNat (a1.length : Int)) [.raw (.int .i64 0)])] : SV) = .ov false [.sl (some 3) ((List.replicate (Int.toNat (a1.length : Int)) (0 : Int)).map eI)]] (by kernel_rfl) ⟨(List.length_map ..), rfl, (guardO_some hu7).1, (guardO_some hu7).2, (congrArg (fun z => SV.ov false [.sl (some 3) z]) (rep_fix eI (0 : Int))), trivial⟩) ?_
        refine k_join (J := fun (x : (List Int)) => [(1, .d false [.sl none (a1.map (eF eI))]), (5, .ov false [.sl (some 22) (x2.1.map (eO 3 eI))]), (8, .ov false [.sl (some 3) (x.map eI)]), (13, .d false [.sl none (a0.map (eF eI))]), (14, .p (.int .i64 (a0.length : Int))), (15, .p (.int .i64 x2.2))]) (K := fun x => spec_zeTimes_k3 x2 x = some o_x2) (fun x8 h => ?_) ?_
        · unfold spec_zeTimes_k3 at h
          replace h := bind_some' h
          obtain ⟨u9, hu9, h⟩ := h
          refine k_reg (r_go [(1, .d false [.sl none (a1.map (eF eI))]), (5, .ov false [.sl (some 22) ((x2.1 ++ [x8]).map (eO 3 eI))]), (13, .d false [.sl none (a0.map (eF eI))]), (14, .p (.int .i64 (a0.length : Int))), (15, .p (.int .i64 x2.2))] [(3, {fix := some (53, .ov false [.sl (some 22) ((x2.1 ++ [x8]).map (eO 3 eI))])})] [List.length ((x2.1.map (eO 3 eI)) : List (List C)) + List.length ((([x8]).map (eO 3 eI)) : List (List C)) ≤ 1099511627776, ∀ row ∈ ((([x8]).map (eO 3 eI)) : List (List C)), row.length = 1, (SV.ov false [.sl (some 22) ((x2.1.map (eO 3 eI)) ++ (([x8]).map (eO 3 eI)))] : SV) = .ov false [.sl (some 22) ((x2.1 ++ [x8]).map (eO 3 eI))]] (by kernel_rfl) ⟨(by have hg := (guardO_some hu9); simpa using hg), (rows_len fun _ => rfl), (congrArg (fun z => SV.ov false [.sl (some 22) z]) (List.map_append ..).symm), trivial⟩) ?_
          refine b_n ?_
          refine q_n ?_
          exact ⟨(x2.1 ++ [x8]), h, (wk_of (by kernel_rfl) (by kernel_rfl))⟩
        · refine k_sreg (r_go [(1, .d false [.sl none (a1.map (eF eI))]), (5, .ov false [.sl (some 22) (x2.1.map (eO 3 eI))]), (8, .ov false [.sl (some 3) ((List.replicate (Int.toNat (a1.length : Int)) (0 : Int)).map eI)]), (13, .d false [.sl none (a0.map (eF eI))]), (14, .p (.int .i64 (a0.length : Int))), (15, .p (.int .i64 x2.2)), (22, .d false [.sl none (v6.map eI)]), (23, .p (.int .i64 (v6.length : Int))), (24, .p (.int .i64 0))] [(1, {n := some v6.length})] [(v6.map eI).length = v6.length] (by kernel_rfl) ⟨(List.length_map ..), trivial⟩) ?_
          refine k_block ?_
          obtain ⟨y11, hl_x10, hk_x10⟩ := bind_some' h
          clear h
          refine k_loop (J := fun (x : ((List Int) × Int)) => [(1, .d false [.sl none (a1.map (eF eI))]), (5, .ov false [.sl (some 22) (x2.1.map (eO 3 eI))]), (8, .ov false [.sl (some 3) (x.1.map eI)]), (13, .d false [.sl none (a0.map (eF eI))]), (14, .p (.int .i64 (a0.length : Int))), (15, .p (.int .i64 x2.2)), (22, .d false [.sl none (v6.map eI)]), (23, .p (.int .i64 (v6.length : Int))), (24, .p (.int .i64 x.2))]) hl_x10 (wk_of (by kernel_rfl) (by kernel_rfl)) (fun x10 o_x10 h hy_x10 => ?_)
          unfold spec_zeTimes_b2 at h
          refine k_sreg (r_go [(1, .d false [.sl none (a1.map (eF eI))]), (5, .ov false [.sl (some 22) (x2.1.map (eO 3 eI))]), (8, .ov false [.sl (some 3) (x10.1.map eI)]), (13, .d false [.sl none (a0.map (eF eI))]), (14, .p (.int .i64 (a0.length : Int))), (15, .p (.int .i64 x2.2)), (22, .d false [.sl none (v6.map eI)]), (23, .p (.int .i64 (v6.length : Int))), (24, .p (.int .i64 x10.2)), (25, .p (.bool (decide (x10.2 < (v6.length : Int)))))] [] [] (by kernel_rfl) trivial) ?_
          refine k_seq ?_
          refine k_cond (b := (decide (x10.2 < (v6.length : Int)))) (by kernel_rfl) (fun hc10_11 => ?_) (fun hc10_11 => ?_)
          · replace h := ite_t hc10_11 h
            refine k_skip ?_
            refine q_n ?_
            refine k_join (J := fun (x : (List Int)) => [(1, .d false [.sl none (a1.map (eF eI))]), (5, .ov false [.sl (some 22) (x2.1.map (eO 3 eI))]), (8, .ov false [.sl (some 3) (x.map eI)]), (13, .d false [.sl none (a0.map (eF eI))]), (14, .p (.int .i64 (a0.length : Int))), (15, .p (.int .i64 x2.2)), (22, .d false [.sl none (v6.map eI)]), (23, .p (.int .i64 (v6.length : Int))), (24, .p (.int .i64 x10.2))]) (K := fun x => spec_zeTimes_k4 x10 x = some o_x10) (fun x13 h => ?_) ?_
            · unfold spec_zeTimes_k4 at h
              refine k_reg (r_go [(1, .d false [.sl none (a1.map (eF eI))]), (5, .ov false [.sl (some 22) (x2.1.map (eO 3 eI))]), (8, .ov false [.sl (some 3) (x13.map eI)]), (13, .d false [.sl none (a0.map (eF eI))]), (14, .p (.int .i64 (a0.length : Int))), (15, .p (.int .i64 x2.2)), (22, .d false [.sl none (v6.map eI)]), (23, .p (.int .i64 (v6.length : Int))), (24, .p (.int .i64 (w64 (x10.2 + 1))))] [] [] (by kernel_rfl) trivial) ?_
              exact lq_n (x13, (w64 (x10.2 + 1))) (Option.some.inj h).symm (wk_of (by kernel_rfl) (by kernel_rfl))
            · refine k_block ?_
              replace h := bind_some' h
              obtain ⟨v14, hv14, h⟩ := h
              refine k_sreg (r_go [(1, .d false [.sl none (a1.map (eF eI))]), (5, .ov false [.sl (some 22) (x2.1.map (eO 3 eI))]), (8, .ov false [.sl (some 3) (x10.1.map eI)]), (9, .p (.int .i64 x10.2)), (10, .p (.int .i64 v14)), (13, .d false [.sl none (a0.map (eF eI))]), (14, .p (.int .i64 (a0.length : Int))), (15, .p (.int .i64 x2.2)), (22, .d false [.sl none (v6.map eI)]), (23, .p (.int .i64 (v6.length : Int))), (24, .p (.int .i64 x10.2))] [(1, {row := some [.raw (.int .i64 v14)]})] [0 ≤ x10.2, (v6.map eI)[(Int.toNat x10.2)]? = some [.raw (.int .i64 v14)]] (by kernel_rfl) ⟨(idxO_some hv14).1, (map_get eI (idxO_some hv14).2), trivial⟩) ?_
              replace h := bind_some' h
              obtain ⟨v15, hv15, h⟩ := h
              refine k_sreg (r_go [(1, .d false [.sl none (a1.map (eF eI))]), (5, .ov false [.sl (some 22) (x2.1.map (eO 3 eI))]), (8, .ov false [.sl (some 3) (x10.1.map eI)]), (10, .p (.int .i64 v14)), (13, .d false [.sl none (a0.map (eF eI))]), (14, .p (.int .i64 (a0.length : Int))), (15, .p (.int .i64 x2.2)), (22, .d false [.sl none (v6.map eI)]), (23, .p (.int .i64 (v6.length : Int))), (24, .p (.int .i64 x10.2)), (32, .d false [.sl none (v15.map eI)]), (33, .p (.int .i64 (v15.length : Int))), (34, .p (.int .i64 0))] [(2, {row := some [.sl none (v15.map eI)]}), (4, {n := some v15.length})] [0 ≤ x10.2, (a1.map (eF eI))[(Int.toNat x10.2)]? = some [.sl none (v15.map eI)], (v15.map eI).length = v15.length] (by kernel_rfl) ⟨(idxO_some hv15).1, (map_get (eF eI) (idxO_some hv15).2), (List.length_map ..), trivial⟩) ?_
              refine k_block ?_
              obtain ⟨y17, hl_x16, hk_x16⟩ := bind_some' h
              clear h
              refine k_loop (J := fun (x : ((List Int) × Int)) => [(1, .d false [.sl none (a1.map (eF eI))]), (5, .ov false [.sl (some 22) (x2.1.map (eO 3 eI))]), (8, .ov false [.sl (some 3) (x.1.map eI)]), (10, .p (.int .i64 v14)), (13, .d false [.sl none (a0.map (eF eI))]), (14, .p (.int .i64 (a0.length : Int))), (15, .p (.int .i64 x2.2)), (22, .d false [.sl none (v6.map eI)]), (23, .p (.int .i64 (v6.length : Int))), (24, .p (.int .i64 x10.2)), (32, .d false [.sl none (v15.map eI)]), (33, .p (.int .i64 (v15.length : Int))), (34, .p (.int .i64 x.2))]) hl_x16 (wk_of (by kernel_rfl) (by kernel_rfl)) (fun x16 o_x16 h hy_x16 => ?_)
              unfold spec_zeTimes_b3 at h
              refine k_sreg (r_go [(1, .d false [.sl none (a1.map (eF eI))]), (5, .ov false [.sl (some 22) (x2.1.map (eO 3 eI))]), (8, .ov false [.sl (some 3) (x16.1.map eI)]), (10, .p (.int .i64 v14)), (13, .d false [.sl none (a0.map (eF eI))]), (14, .p (.int .i64 (a0.length : Int))), (15, .p (.int .i64 x2.2)), (22, .d false [.sl none (v6.map eI)]), (23, .p (.int .i64 (v6.length : Int))), (24, .p (.int .i64 x10.2)), (32, .d false [.sl none (v15.map eI)]), (33, .p (.int .i64 (v15.length : Int))), (34, .p (.int .i64 x16.2)), (35, .p (.bool (decide (x16.2 < (v15.length : Int)))))] [] [] (by kernel_rfl) trivial) ?_
              refine k_seq ?_
              refine k_cond (b := (decide (x16.2 < (v15.length : Int)))) (by kernel_rfl) (fun hc14_17 => ?_) (fun hc14_17 => ?_)
              · replace h := ite_t hc14_17 h
                refine k_skip ?_
                refine q_n ?_
                refine k_seq ?_
                refine k_block ?_
                replace h := bind_some' h
                obtain ⟨v19, hv19, h⟩ := h
                refine k_sreg (r_go [(1, .d false [.sl none (a1.map (eF eI))]), (5, .ov false [.sl (some 22) (x2.1.map (eO 3 eI))]), (8, .ov false [.sl (some 3) (x16.1.map eI)]), (10, .p (.int .i64 v14)), (11, .p (.int .i64 x16.2)), (12, .p (.int .i64 v19)), (13, .d false [.sl none (a0.map (eF eI))]), (14, .p (.int .i64 (a0.length : Int))), (15, .p (.int .i64 x2.2)), (22, .d false [.sl none (v6.map eI)]), (23, .p (.int .i64 (v6.length : Int))), (24, .p (.int .i64 x10.2)), (32, .d false [.sl none (v15.map eI)]), (33, .p (.int .i64 (v15.length : Int))), (34, .p (.int .i64 x16.2))] [(1, {row := some [.raw (.int .i64 v19)]})] [0 ≤ x16.2, (v15.map eI)[(Int.toNat x16.2)]? = some [.raw (.int .i64 v19)]] (by kernel_rfl) ⟨(idxO_some hv19).1, (map_get eI (idxO_some hv19).2), trivial⟩) ?_
                replace h := bind_some' h
                obtain ⟨v20, hv20, h⟩ := h
                refine k_reg (r_go [(1, .d false [.sl none (a1.map (eF eI))]), (5, .ov false [.sl (some 22) (x2.1.map (eO 3 eI))]), (8, .ov false [.sl (some 3) ((x16.1.set (Int.toNat x16.2) (w64 (v20 + (w64 (v14 * v19))))).map eI)]), (10, .p (.int .i64 v14)), (13, .d false [.sl none (a0.map (eF eI))]), (14, .p (.int .i64 (a0.length : Int))), (15, .p (.int .i64 x2.2)), (22, .d false [.sl none (v6.map eI)]), (23, .p (.int .i64 (v6.length : Int))), (24, .p (.int .i64 x10.2)), (32, .d false [.sl none (v15.map eI)]), (33, .p (.int .i64 (v15.length : Int))), (34, .p (.int .i64 x16.2))] [(2, {row := some [.raw (.int .i64 v20)]}), (3, {row := some [.raw (.int .i64 v20)]}), (8, {row := some [.raw (.int .i64 v20)]}), (9, {row := some [.raw (.int .i64 v20)], fix := some (8, .ov false [.sl (some 3) ((x16.1.set (Int.toNat x16.2) (w64 (v20 + (w64 (v14 * v19))))).map eI)])})] [0 ≤ x16.2, (x16.1.map eI)[(Int.toNat x16.2)]? = some [.raw (.int .i64 v20)], getRow [[.sl (some 3) (x16.1.map eI)]] [(0, 0), ((Int.toNat x16.2), 0)] = some [.raw (.int .i64 v20)], 0 ≤ x16.2, (x16.1.map eI)[(Int.toNat x16.2)]? = some [.raw (.int .i64 v20)], getRow [[.sl (some 3) (x16.1.map eI)]] [(0, 0), ((Int.toNat x16.2), 0)] = some [.raw (.int .i64 v20)], (SV.ov false [.sl (some 3) (setL (x16.1.map eI) [((Int.toNat x16.2), 0)] [.raw (.int .i64 (w64 (v20 + (w64 (v14 * v19)))))])] : SV) = .ov false [.sl (some 3) ((x16.1.set (Int.toNat x16.2) (w64 (v20 + (w64 (v14 * v19))))).map eI)]] (by kernel_rfl) ⟨(idxO_some hv20).1, (map_get eI (idxO_some hv20).2), ((gr0 rfl).trans (gre (map_get eI (idxO_some hv20).2))), (idxO_some hv20).1, (map_get eI (idxO_some hv20).2), ((gr0 rfl).trans (gre (map_get eI (idxO_some hv20).2))), (congrArg (fun z => SV.ov false [.sl (some 3) z]) (set1 (f := eI) (y := (w64 (v20 + (w64 (v14 * v19))))) (idxO_some hv20).2 rfl)), trivial⟩) ?_
                refine b_n ?_
                refine q_n ?_
                refine k_reg (r_go [(1, .d false [.sl none (a1.map (eF eI))]), (5, .ov false [.sl (some 22) (x2.1.map (eO 3 eI))]), (8, .ov false [.sl (some 3) ((x16.1.set (Int.toNat x16.2) (w64 (v20 + (w64 (v14 * v19))))).map eI)]), (10, .p (.int .i64 v14)), (13, .d false [.sl none (a0.map (eF eI))]), (14, .p (.int .i64 (a0.length : Int))), (15, .p (.int .i64 x2.2)), (22, .d false [.sl none (v6.map eI)]), (23, .p (.int .i64 (v6.length : Int))), (24, .p (.int .i64 x10.2)), (32, .d false [.sl none (v15.map eI)]), (33, .p (.int .i64 (v15.length : Int))), (34, .p (.int .i64 (w64 (x16.2 + 1))))] [] [] (by kernel_rfl) trivial) ?_
                exact lq_n ((x16.1.set (Int.toNat x16.2) (w64 (v20 + (w64 (v14 * v19))))), (w64 (x16.2 + 1))) (Option.some.inj h).symm (wk_of (by kernel_rfl) (by kernel_rfl))
              · replace h := ite_f hc14_17 h
                refine k_exit ?_
                refine q_x ?_
                refine lq_x ?_
                refine b_x ?_
                refine b_n ?_
                have hyy := hy_x16 _ (Option.some.inj h).symm
                subst hyy
                have h := hk_x16
                refine q_n ?_
                exact ⟨x16.1, h, (wk_of (by kernel_rfl) (by kernel_rfl))⟩
          · replace h := ite_f hc10_11 h
            refine k_exit ?_
            refine q_x ?_
            refine lq_x ?_
            refine b_x ?_
            have hyy := hy_x10 _ (Option.some.inj h).symm
            subst hyy
            have h := hk_x10
            refine q_n ?_
            exact ⟨x10.1, h, (wk_of (by kernel_rfl) (by kernel_rfl))⟩
    · replace h := ite_f hc5_3 h
      refine k_exit ?_
      refine q_x ?_
      refine lq_x ?_
      refine b_x ?_
      have hyy := hy_x2 _ (Option.some.inj h).symm
      subst hyy
      have h := hk_x2
      refine q_n ?_
      exact ⟨x2.1, h, (wk_of (by kernel_rfl) (by kernel_rfl))⟩
theorem wk_spec_zeTrace {a0 : (List (List Int))}  {r : Int} (h : spec_zeTrace a0 = some r) : Meets Try.prog 110 [.d false [.sl none (a0.map (eF eI))]] { vals := [.p (.int .i64 r)] } := by
  refine Meets_ofL (by kernel_rfl) Try.func110 rfl (by kernel_rfl) (l0 := [(0, .d false [.sl none (a0.map (eF eI))])]) (by kernel_rfl) ?_
  unfold spec_zeTrace at h
  refine k_sreg (r_go [(0, .d false [.sl none (a0.map (eF eI))])] [] [] (by kernel_rfl) trivial) ?_
  refine k_sreg (r_go [(0, .d false [.sl none (a0.map (eF eI))]), (3, .p (.int .i64 0))] [] [] (by kernel_rfl) trivial) ?_
  refine k_join (J := fun (x : Int) => [(3, .p (.int .i64 x))]) (K := fun x => spec_zeTrace_k1 x = some r) (fun x1 h => ?_) ?_
  · unfold spec_zeTrace_k1 at h
    refine k_sreg (r_go [(2, .p (.int .i64 x1))] [] [] (by kernel_rfl) trivial) ?_
    refine k_ret ?_
    obtain rfl := Option.some.inj h
    exact e_ret (ls := [(.p (.int .i64 x1), 2)]) (by kernel_rfl) rfl (by kernel_rfl) rfl
  · refine k_sreg (r_go [(3, .p (.int .i64 0)), (6, .d false [.sl none (a0.map (eF eI))]), (7, .p (.int .i64 (a0.length : Int))), (8, .p (.int .i64 0))] [(1, {n := some a0.length})] [(a0.map (eF eI)).length = a0.length] (by kernel_rfl) ⟨(List.length_map ..), trivial⟩) ?_
    refine k_block ?_
    obtain ⟨y3, hl_x2, hk_x2⟩ := bind_some' h
    clear h
    refine k_loop (J := fun (x : (Int × Int)) => [(3, .p (.int .i64 x.1)), (6, .d false [.sl none (a0.map (eF eI))]), (7, .p (.int .i64 (a0.length : Int))), (8, .p (.int .i64 x.2))]) hl_x2 (wk_of (by kernel_rfl) (by kernel_rfl)) (fun x2 o_x2 h hy_x2 => ?_)
    unfold spec_zeTrace_b1 at h
    refine k_sreg (r_go [(3, .p (.int .i64 x2.1)), (6, .d false [.sl none (a0.map (eF eI))]), (7, .p (.int .i64 (a0.length : Int))), (8, .p (.int .i64 x2.2)), (9, .p (.bool (decide (x2.2 < (a0.length : Int)))))] [] [] (by kernel_rfl) trivial) ?_
    refine k_seq ?_
    refine k_cond (b := (decide (x2.2 < (a0.length : Int)))) (by kernel_rfl) (fun hc5_3 => ?_) (fun hc5_3 => ?_)
    · replace h := ite_t hc5_3 h
      refine k_skip ?_
      refine q_n ?_
      refine k_seq ?_
      refine k_block ?_
      replace h := bind_some' h
      obtain ⟨v5, hv5, h⟩ := h
      refine k_sreg (r_go [(3, .p (.int .i64 x2.1)), (4, .p (.int .i64 x2.2)), (5, .d false [.sl none (v5.map eI)]), (6, .d false [.sl none (a0.map (eF eI))]), (7, .p (.int .i64 (a0.length : Int))), (8, .p (.int .i64 x2.2))] [(1, {row := some [.sl none (v5.map eI)]})] [0 ≤ x2.2, (a0.map (eF eI))[(Int.toNat x2.2)]? = some [.sl none (v5.map eI)]] (by kernel_rfl) ⟨(idxO_some hv5).1, (map_get (eF eI) (idxO_some hv5).2), trivial⟩) ?_
      replace h := bind_some' h
      obtain ⟨v6, hv6, h⟩ := h
      refine k_reg (r_go [(3, .p (.int .i64 (w64 (x2.1 + v6)))), (6, .d false [.sl none (a0.map (eF eI))]), (7, .p (.int .i64 (a0.length : Int))), (8, .p (.int .i64 x2.2))] [(3, {row := some [.raw (.int .i64 v6)]})] [0 ≤ x2.2, (v5.map eI)[(Int.toNat x2.2)]? = some [.raw (.int .i64 v6)]] (by kernel_rfl) ⟨(idxO_some hv6).1, (map_get eI (idxO_some hv6).2), trivial⟩) ?_
      refine b_n ?_
      refine q_n ?_
      refine k_reg (r_go [(3, .p (.int .i64 (w64 (x2.1 + v6)))), (6, .d false [.sl none (a0.map (eF eI))]), (7, .p (.int .i64 (a0.length : Int))), (8, .p (.int .i64 (w64 (x2.2 + 1))))] [] [] (by kernel_rfl) trivial) ?_
      exact lq_n ((w64 (x2.1 + v6)), (w64 (x2.2 + 1))) (Option.some.inj h).symm (wk_of (by kernel_rfl) (by kernel_rfl))
    · replace h := ite_f hc5_3 h
      refine k_exit ?_
      refine q_x ?_
      refine lq_x ?_
      refine b_x ?_
      have hyy := hy_x2 _ (Option.some.inj h).symm
      subst hyy
      have h := hk_x2
      refine q_n ?_
      exact ⟨x2.1, h, (wk_of (by kernel_rfl) (by kernel_rfl))⟩
theorem wk_spec_zeCoefficients {a0 : (List (List Int))}  {r : (List Int)} (h : spec_zeCoefficients a0 = some r) : Meets Try.prog 79 [.d false [.sl none (a0.map (eF eI))]] { vals := [.ov false [.sl (some 3) (r.map eI)]] } := by
  refine Meets_ofL (by kernel_rfl) Try.func79 rfl (by kernel_rfl) (l0 := [(0, .d false [.sl none (a0.map (eF eI))])]) (by kernel_rfl) ?_
  unfold spec_zeCoefficients at h
  refine k_sreg (r_go [(0, .d false [.sl none (a0.map (eF eI))])] [] [] (by kernel_rfl) trivial) ?_
  refine k_sreg (r_go [(0, .d false [.sl none (a0.map (eF eI))]), (3, .p (.int .i64 (a0.length : Int)))] [(1, {n := some a0.length})] [(a0.map (eF eI)).length = a0.length] (by kernel_rfl) ⟨(List.length_map ..), trivial⟩) ?_
  replace h := bind_some' h
  obtain ⟨u1, hu1, h⟩ := h
  refine k_sreg (r_go [(0, .d false [.sl none (a0.map (eF eI))]), (3, .p (.int .i64 (a0.length : Int))), (4, .ov false [.sl (some 3) ((List.replicate (Int.toNat (w64 ((a0.length : Int) + 1))) (0 : Int)).map eI)])] [(2, {fix := some (13, .ov false [.sl (some 3) ((List.replicate (Int.toNat (w64 ((a0.length : Int) + 1))) (0 : Int)).map eI)])})] [(w64 ((a0.length : Int) + 1)) = (w64 ((a0.length : Int) + 1)), 0 ≤ (w64 ((a0.length : Int) + 1)), (w64 ((a0.length : Int) + 1)) ≤ 1099511627776, (SV.ov false [.sl (some 3) (List.replicate (Int.toNat (w64 ((a0.length : Int) + 1))) [.raw (.int .i64 0)])] : SV) = .ov false [.sl (some 3) ((List.replicate (Int.toNat (w64 ((a0.length : Int) + 1))) (0 : Int)).map eI)]] (by kernel_rfl) ⟨rfl, (guardO_some hu1).1, (guardO_some hu1).2, (congrArg (fun z => SV.ov false [.sl (some 3) z]) (rep_fix eI (0 : Int))), trivial⟩) ?_
  replace h := bind_some' h
  obtain ⟨v2, hv2, h⟩ := h
  refine k_sreg (r_go [(0, .d false [.sl none (a0.map (eF eI))]), (3, .p (.int .i64 (a0.length : Int))), (4, .ov false [.sl (some 3) (((List.replicate (Int.toNat (w64 ((a0.length : Int) + 1))) (0 : Int)).set (Int.toNat (a0.length : Int)) 1).map eI)])] [(2, {row := some [.raw (.int .i64 v2)]}), (3, {row := some [.raw (.int .i64 v2)], fix := some (4, .ov false [.sl (some 3) (((List.replicate (Int.toNat (w64 ((a0.length : Int) + 1))) (0 : Int)).set (Int.toNat (a0.length : Int)) 1).map eI)])})] [0 ≤ (a0.length : Int), ((List.replicate (Int.toNat (w64 ((a0.length : Int) + 1))) (0 : Int)).map eI)[(Int.toNat (a0.length : Int))]? = some [.raw (.int .i64 v2)], getRow [[.sl (some 3) ((List.replicate (Int.toNat (w64 ((a0.length : Int) + 1))) (0 : Int)).map eI)]] [(0, 0), ((Int.toNat (a0.length : Int)), 0)] = some [.raw (.int .i64 v2)], (SV.ov false [.sl (some 3) (setL ((List.replicate (Int.toNat (w64 ((a0.length : Int) + 1))) (0 : Int)).map eI) [((Int.toNat (a0.length : Int)), 0)] [.raw (.int .i64 1)])] : SV) = .ov false [.sl (some 3) (((List.replicate (Int.toNat (w64 ((a0.length : Int) + 1))) (0 : Int)).set (Int.toNat (a0.length : Int)) 1).map eI)]] (by kernel_rfl) ⟨(idxO_some hv2).1, (map_get eI (idxO_some hv2).2), ((gr0 rfl).trans (gre (map_get eI (idxO_some hv2).2))), (congrArg (fun z => SV.ov false [.sl (some 3) z]) (set1 (f := eI) (y := 1) (idxO_some hv2).2 rfl)), trivial⟩) ?_
  refine k_sreg (r_go [(0, .d false [.sl none (a0.map (eF eI))]), (3, .p (.int .i64 (a0.length : Int))), (4, .ov false [.sl (some 3) (((List.replicate (Int.toNat (w64 ((a0.length : Int) + 1))) (0 : Int)).set (Int.toNat (a0.length : Int)) 1).map eI)]), (5, .ov false [.sl (some 22) []])] [] [] (by kernel_rfl) trivial) ?_
  refine k_join (J := fun (x : (List (List Int))) => [(0, .d false [.sl none (a0.map (eF eI))]), (3, .p (.int .i64 (a0.length : Int))), (4, .ov false [.sl (some 3) (((List.replicate (Int.toNat (w64 ((a0.length : Int) + 1))) (0 : Int)).set (Int.toNat (a0.length : Int)) 1).map eI)]), (5, .ov false [.sl (some 22) (x.map (eO 3 eI))])]) (K := fun x => spec_zeCoefficients_k1 a0 x = some r) (fun x3 h => ?_) ?_
  · unfold spec_zeCoefficients_k1 at h
    refine k_join (J := fun (x : (List Int)) => [(4, .ov false [.sl (some 3) (x.map eI)])]) (K := fun x => spec_zeCoefficients_k2 x = some r) (fun x4 h => ?_) ?_
    · unfold spec_zeCoefficients_k2 at h
      refine k_sreg (r_go [(2, .ov false [.sl (some 3) (x4.map eI)])] [] [] (by kernel_rfl) trivial) ?_
      refine k_ret ?_
      obtain rfl := Option.some.inj h
      exact e_ret (ls := [(.ov false [.sl (some 3) (x4.map eI)], 2)]) (by kernel_rfl) rfl (by kernel_rfl) rfl
    · refine k_sreg (r_go [(0, .d false [.sl none (a0.map (eF eI))]), (3, .p (.int .i64 (a0.length : Int))), (4, .ov false [.sl (some 3) (((List.replicate (Int.toNat (w64 ((a0.length : Int) + 1))) (0 : Int)).set (Int.toNat (a0.length : Int)) 1).map eI)]), (5, .ov false [.sl (some 22) (x3.map (eO 3 eI))]), (7, .p (.int .i64 1))] [] [] (by kernel_rfl) trivial) ?_
      refine k_block ?_
      obtain ⟨y6, hl_x5, hk_x5⟩ := bind_some' h
      clear h
      refine k_loop (J := fun (x : ((List Int) × (List (List Int)) × Int)) => [(0, .d false [.sl none (a0.map (eF eI))]), (3, .p (.int .i64 (a0.length : Int))), (4, .ov false [.sl (some 3) (x.1.map eI)]), (5, .ov false [.sl (some 22) (x.2.1.map (eO 3 eI))]), (7, .p (.int .i64 x.2.2))]) hl_x5 (wk_of (by kernel_rfl) (by kernel_rfl)) (fun x5 o_x5 h hy_x5 => ?_)
      unfold spec_zeCoefficients_b1 at h
      refine k_seq ?_
      refine k_sreg (r_go [(0, .d false [.sl none (a0.map (eF eI))]), (3, .p (.int .i64 (a0.length : Int))), (4, .ov false [.sl (some 3) (x5.1.map eI)]), (5, .ov false [.sl (some 22) (x5.2.1.map (eO 3 eI))]), (7, .p (.int .i64 x5.2.2)), (36, .p (.bool (decide (x5.2.2 ≤ (a0.length : Int)))))] [] [] (by kernel_rfl) trivial) ?_
      refine k_cond (b := (decide (x5.2.2 ≤ (a0.length : Int)))) (by kernel_rfl) (fun hc5_6 => ?_) (fun hc5_6 => ?_)
      · replace h := ite_t hc5_6 h
        refine k_skip ?_
        refine q_n ?_
        refine k_join (J := fun (x : ((List Int) × (List (List Int)))) => [(0, .d false [.sl none (a0.map (eF eI))]), (3, .p (.int .i64 (a0.length : Int))), (4, .ov false [.sl (some 3) (x.1.map eI)]), (5, .ov false [.sl (some 22) (x.2.map (eO 3 eI))]), (7, .p (.int .i64 x5.2.2))]) (K := fun x => spec_zeCoefficients_k3 x5 x = some o_x5) (fun x8 h => ?_) ?_
        · unfold spec_zeCoefficients_k3 at h
          refine k_reg (r_go [(0, .d false [.sl none (a0.map (eF eI))]), (3, .p (.int .i64 (a0.length : Int))), (4, .ov false [.sl (some 3) (x8.1.map eI)]), (5, .ov false [.sl (some 22) (x8.2.map (eO 3 eI))]), (7, .p (.int .i64 (w64 (x5.2.2 + 1))))] [] [] (by kernel_rfl) trivial) ?_
          exact lq_n (x8.1, x8.2, (w64 (x5.2.2 + 1))) (Option.some.inj h).symm (wk_of (by kernel_rfl) (by kernel_rfl))
        · refine k_block ?_
          replace h := bind_some' h
          obtain ⟨v9, hv9, h⟩ := h
          refine k_sreg (r_go [(0, .d false [.sl none (a0.map (eF eI))]), (3, .p (.int .i64 (a0.length : Int))), (4, .ov false [.sl (some 3) (x5.1.map eI)]), (5, .ov false [.sl (some 22) (v9.map (eO 3 eI))]), (7, .p (.int .i64 x5.2.2))] [(2, {call := some ([.d false [.sl none (a0.map (eF eI))], .d false [.sl none (x5.2.1.map (eF eI))]], [.ov false [.sl (some 22) (v9.map (eO 3 eI))]], true)})] [([.d false [.sl none (a0.map (eF eI))], .d false [.sl none (eraL (x5.2.1.map (eO 3 eI)))]] : List Arg) = [.d false [.sl none (a0.map (eF eI))], .d false [.sl none (x5.2.1.map (eF eI))]], Meets Try.prog 109 ([.d false [.sl none (a0.map (eF eI))], .d false [.sl none (x5.2.1.map (eF eI))]] ++ []) { vals := [.ov false [.sl (some 22) (v9.map (eO 3 eI))]] }, (!true || List.all [.ov false [.sl (some 22) (v9.map (eO 3 eI))]] simpleR) = true] (by kernel_rfl) ⟨(by simp only [eraL_enc (h := (eF eI)) (era_O er_I)]), (wk_spec_zeTimes hv9), (bt (sa_o (wnR1 (wnL_enc (wn_O wn_I)) rfl) rfl)), trivial⟩) ?_
          replace h := bind_some' h
          obtain ⟨v10, hv10, h⟩ := h
          replace h := bind_some' h
          obtain ⟨u11, hu11, h⟩ := h
          replace h := bind_some' h
          obtain ⟨v12, hv12, h⟩ := h
          refine k_sreg (r_go [(0, .d false [.sl none (a0.map (eF eI))]), (3, .p (.int .i64 (a0.length : Int))), (4, .ov false [.sl (some 3) ((x5.1.set (Int.toNat (w64 ((a0.length : Int) - x5.2.2))) (w64 (Int.tdiv (w64 (0 - v10)) x5.2.2))).map eI)]), (5, .ov false [.sl (some 22) (v9.map (eO 3 eI))]), (7, .p (.int .i64 x5.2.2))] [(5, {call := some ([.d false [.sl none (v9.map (eF eI))]], [.p (.int .i64 v10)], true)}), (9, {row := some [.raw (.int .i64 v12)]}), (10, {row := some [.raw (.int .i64 v12)], fix := some (4, .ov false [.sl (some 3) ((x5.1.set (Int.toNat (w64 ((a0.length : Int) - x5.2.2))) (w64 (Int.tdiv (w64 (0 - v10)) x5.2.2))).map eI)])})] [([.d false [.sl none (eraL (v9.map (eO 3 eI)))]] : List Arg) = [.d false [.sl none (v9.map (eF eI))]], Meets Try.prog 110 ([.d false [.sl none (v9.map (eF eI))]] ++ []) { vals := [.p (.int .i64 v10)] }, (!true || List.all [.p (.int .i64 v10)] simpleR) = true, x5.2.2 ≠ (0 : Int), 0 ≤ (w64 ((a0.length : Int) - x5.2.2)), (x5.1.map eI)[(Int.toNat (w64 ((a0.length : Int) - x5.2.2)))]? = some [.raw (.int .i64 v12)], getRow [[.sl (some 3) (x5.1.map eI)]] [(0, 0), ((Int.toNat (w64 ((a0.length : Int) - x5.2.2))), 0)] = some [.raw (.int .i64 v12)], (SV.ov false [.sl (some 3) (setL (x5.1.map eI) [((Int.toNat (w64 ((a0.length : Int) - x5.2.2))), 0)] [.raw (.int .i64 (w64 (Int.tdiv (w64 (0 - v10)) x5.2.2)))])] : SV) = .ov false [.sl (some 3) ((x5.1.set (Int.toNat (w64 ((a0.length : Int) - x5.2.2))) (w64 (Int.tdiv (w64 (0 - v10)) x5.2.2))).map eI)]] (by kernel_rfl) ⟨(by simp only [eraL_enc (h := (eF eI)) (era_O er_I)]), (wk_spec_zeTrace hv10), (bt rfl), (guardO_some hu11), (idxO_some hv12).1, (map_get eI (idxO_some hv12).2), ((gr0 rfl).trans (gre (map_get eI (idxO_some hv12).2))), (congrArg (fun z => SV.ov false [.sl (some 3) z]) (set1 (f := eI) (y := (w64 (Int.tdiv (w64 (0 - v10)) x5.2.2))) (idxO_some hv12).2 rfl)), trivial⟩) ?_
          refine k_sreg (r_go [(0, .d false [.sl none (a0.map (eF eI))]), (3, .p (.int .i64 (a0.length : Int))), (4, .ov false [.sl (some 3) ((x5.1.set (Int.toNat (w64 ((a0.length : Int) - x5.2.2))) (w64 (Int.tdiv (w64 (0 - v10)) x5.2.2))).map eI)]), (5, .ov false [.sl (some 22) (v9.map (eO 3 eI))]), (7, .p (.int .i64 x5.2.2)), (53, .p (.int .i64 (v9.length : Int))), (54, .p (.int .i64 0))] [(1, {n := some v9.length})] [(v9.map (eO 3 eI)).length = v9.length] (by kernel_rfl) ⟨(List.length_map ..), trivial⟩) ?_
          refine k_block ?_
          obtain ⟨y14, hl_x13, hk_x13⟩ := bind_some' h
          clear h
          refine k_loop (J := fun (x : ((List (List Int)) × Int)) => [(0, .d false [.sl none (a0.map (eF eI))]), (3, .p (.int .i64 (a0.length : Int))), (4, .ov false [.sl (some 3) ((x5.1.set (Int.toNat (w64 ((a0.length : Int) - x5.2.2))) (w64 (Int.tdiv (w64 (0 - v10)) x5.2.2))).map eI)]), (5, .ov false [.sl (some 22) (x.1.map (eO 3 eI))]), (7, .p (.int .i64 x5.2.2)), (53, .p (.int .i64 (v9.length : Int))), (54, .p (.int .i64 x.2))]) hl_x13 (wk_of (by kernel_rfl) (by kernel_rfl)) (fun x13 o_x13 h hy_x13 => ?_)
          unfold spec_zeCoefficients_b2 at h
          refine k_sreg (r_go [(0, .d false [.sl none (a0.map (eF eI))]), (3, .p (.int .i64 (a0.length : Int))), (4, .ov false [.sl (some 3) ((x5.1.set (Int.toNat (w64 ((a0.length : Int) - x5.2.2))) (w64 (Int.tdiv (w64 (0 - v10)) x5.2.2))).map eI)]), (5, .ov false [.sl (some 22) (x13.1.map (eO 3 eI))]), (7, .p (.int .i64 x5.2.2)), (53, .p (.int .i64 (v9.length : Int))), (54, .p (.int .i64 x13.2)), (55, .p (.bool (decide (x13.2 < (v9.length : Int)))))] [] [] (by kernel_rfl) trivial) ?_
          refine k_seq ?_
          refine k_cond (b := (decide (x13.2 < (v9.length : Int)))) (by kernel_rfl) (fun hc9_14 => ?_) (fun hc9_14 => ?_)
          · replace h := ite_t hc9_14 h
            refine k_skip ?_
            refine q_n ?_
            refine k_seq ?_
            refine k_block ?_
            refine k_sreg (r_go [(0, .d false [.sl none (a0.map (eF eI))]), (3, .p (.int .i64 (a0.length : Int))), (4, .ov false [.sl (some 3) ((x5.1.set (Int.toNat (w64 ((a0.length : Int) - x5.2.2))) (w64 (Int.tdiv (w64 (0 - v10)) x5.2.2))).map eI)]), (5, .ov false [.sl (some 22) (x13.1.map (eO 3 eI))]), (7, .p (.int .i64 x5.2.2)), (8, .p (.int .i64 x13.2)), (53, .p (.int .i64 (v9.length : Int))), (54, .p (.int .i64 x13.2))] [] [] (by kernel_rfl) trivial) ?_
            replace h := bind_some' h
            obtain ⟨v16, hv16, h⟩ := h
            replace h := bind_some' h
            obtain ⟨v17, hv17, h⟩ := h
            replace h := bind_some' h
            obtain ⟨v18, hv18, h⟩ := h
            refine k_reg (r_draw Try_mixed 13 [] [(0, .d false [.sl none (a0.map (eF eI))]), (3, .p (.int .i64 (a0.length : Int))), (4, .ov false [.sl (some 3) ((x5.1.set (Int.toNat (w64 ((a0.length : Int) - x5.2.2))) (w64 (Int.tdiv (w64 (0 - v10)) x5.2.2))).map eI)]), (5, .ov false [.sl (some 22) ((x13.1.set (Int.toNat x13.2) (v16.set (Int.toNat x13.2) (w64 (v17 + v18)))).map (eO 3 eI))]), (7, .p (.int .i64 x5.2.2)), (53, .p (.int .i64 (v9.length : Int))), (54, .p (.int .i64 x13.2))] [(2, {row := some [.sl (some 3) (v16.map eI)]}), (3, {row := some [.sl (some 3) (v16.map eI)]}), (5, {deep := some [.sl (some 3) (v16.map eI)], row := some [.raw (.int .i64 v17)]}), (6, {row := some [.raw (.int .i64 v17)]}), (11, {row := some [.raw (.int .i64 v18)]}), (12, {row := some [.raw (.int .i64 v18)]}), (14, {deep := some [.sl (some 3) (v16.map eI)], row := some [.raw (.int .i64 v17)]}), (15, {row := some [.raw (.int .i64 v17)], fix := some (5, .ov false [.sl (some 22) ((x13.1.set (Int.toNat x13.2) (v16.set (Int.toNat x13.2) (w64 (v17 + v18)))).map (eO 3 eI))])})] [0 ≤ x13.2, (x13.1.map (eO 3 eI))[(Int.toNat x13.2)]? = some [.sl (some 3) (v16.map eI)], frR [.sl (some 3) (v16.map eI)] = false, getRow [[.sl (some 22) (x13.1.map (eO 3 eI))]] [(0, 0), ((Int.toNat x13.2), 0)] = some [.sl (some 3) (v16.map eI)], 0 ≤ x13.2, (v16.map eI)[(Int.toNat x13.2)]? = some [.raw (.int .i64 v17)], getRow [[.sl (some 22) (x13.1.map (eO 3 eI))]] [(0, 0), ((Int.toNat x13.2), 0)] = some [.sl (some 3) (v16.map eI)], getRow [[.sl (some 22) (x13.1.map (eO 3 eI))]] [(0, 0), ((Int.toNat x13.2), 0), ((Int.toNat x13.2), 0)] = some [.raw (.int .i64 v17)], 0 ≤ (w64 ((a0.length : Int) - x5.2.2)), ((x5.1.set (Int.toNat (w64 ((a0.length : Int) - x5.2.2))) (w64 (Int.tdiv (w64 (0 - v10)) x5.2.2))).map eI)[(Int.toNat (w64 ((a0.length : Int) - x5.2.2)))]? = some [.raw (.int .i64 v18)], getRow [[.sl (some 3) ((x5.1.set (Int.toNat (w64 ((a0.length : Int) - x5.2.2))) (w64 (Int.tdiv (w64 (0 - v10)) x5.2.2))).map eI)]] [(0, 0), ((Int.toNat (w64 ((a0.length : Int) - x5.2.2))), 0)] = some [.raw (.int .i64 v18)], 0 ≤ x13.2, (v16.map eI)[(Int.toNat x13.2)]? = some [.raw (.int .i64 v17)], getRow [[.sl (some 22) (x13.1.map (eO 3 eI))]] [(0, 0), ((Int.toNat x13.2), 0)] = some [.sl (some 3) (v16.map eI)], getRow [[.sl (some 22) (x13.1.map (eO 3 eI))]] [(0, 0), ((Int.toNat x13.2), 0), ((Int.toNat x13.2), 0)] = some [.raw (.int .i64 v17)], (SV.ov false [.sl (some 22) (setL (x13.1.map (eO 3 eI)) [((Int.toNat x13.2), 0), ((Int.toNat x13.2), 0)] [.raw (.int .i64 (w64 (v17 + v18)))])] : SV) = .ov false [.sl (some 22) ((x13.1.set (Int.toNat x13.2) (v16.set (Int.toNat x13.2) (w64 (v17 + v18)))).map (eO 3 eI))]] (by kernel_rfl) ⟨(idxO_some hv16).1, (map_get (eO 3 eI) (idxO_some hv16).2), rfl, ((gr0 rfl).trans (gre (map_get (eO 3 eI) (idxO_some hv16).2))), (idxO_some hv17).1, (map_get eI (idxO_some hv17).2), ((gr0 rfl).trans (gre (map_get (eO 3 eI) (idxO_some hv16).2))), ((gr0 rfl).trans ((grs (map_get (eO 3 eI) (idxO_some hv16).2) rfl).trans (gre (map_get eI (idxO_some hv17).2)))), (idxO_some hv18).1, (map_get eI (idxO_some hv18).2), ((gr0 rfl).trans (gre (map_get eI (idxO_some hv18).2))), (idxO_some hv17).1, (map_get eI (idxO_some hv17).2), ((gr0 rfl).trans (gre (map_get (eO 3 eI) (idxO_some hv16).2))), ((gr0 rfl).trans ((grs (map_get (eO 3 eI) (idxO_some hv16).2) rfl).trans (gre (map_get eI (idxO_some hv17).2)))), (congrArg (fun z => SV.ov false [.sl (some 22) z]) (set2 (f := (eO 3 eI)) (y := (v16.set (Int.toNat x13.2) (w64 (v17 + v18)))) (idxO_some hv16).2 rfl (set1 (f := eI) (y := (w64 (v17 + v18))) (idxO_some hv17).2 rfl) rfl)), trivial⟩) ?_
            refine b_n ?_
            refine q_n ?_
            refine k_reg (r_go [(0, .d false [.sl none (a0.map (eF eI))]), (3, .p (.int .i64 (a0.length : Int))), (4, .ov false [.sl (some 3) ((x5.1.set (Int.toNat (w64 ((a0.length : Int) - x5.2.2))) (w64 (Int.tdiv (w64 (0 - v10)) x5.2.2))).map eI)]), (5, .ov false [.sl (some 22) ((x13.1.set (Int.toNat x13.2) (v16.set (Int.toNat x13.2) (w64 (v17 + v18)))).map (eO 3 eI))]), (7, .p (.int .i64 x5.2.2)), (53, .p (.int .i64 (v9.length : Int))), (54, .p (.int .i64 (w64 (x13.2 + 1))))] [] [] (by kernel_rfl) trivial) ?_
            exact lq_n ((x13.1.set (Int.toNat x13.2) (v16.set (Int.toNat x13.2) (w64 (v17 + v18)))), (w64 (x13.2 + 1))) (Option.some.inj h).symm (wk_of (by kernel_rfl) (by kernel_rfl))
          · replace h := ite_f hc9_14 h
            refine k_exit ?_
            refine q_x ?_
            refine lq_x ?_
            refine b_x ?_
            refine b_n ?_
            have hyy := hy_x13 _ (Option.some.inj h).symm
            subst hyy
            have h := hk_x13
            refine q_n ?_
            exact ⟨((x5.1.set (Int.toNat (w64 ((a0.length : Int) - x5.2.2))) (w64 (Int.tdiv (w64 (0 - v10)) x5.2.2))), x13.1), h, (wk_of (by kernel_rfl) (by kernel_rfl))⟩
      · replace h := ite_f hc5_6 h
        refine k_exit ?_
        refine q_x ?_
        refine lq_x ?_
        refine b_x ?_
        have hyy := hy_x5 _ (Option.some.inj h).symm
        subst hyy
        have h := hk_x5
        refine q_n ?_
        exact ⟨x5.1, h, (wk_of (by kernel_rfl) (by kernel_rfl))⟩
  · refine k_sreg (r_go [(0, .d false [.sl none (a0.map (eF eI))]), (3, .p (.int .i64 (a0.length : Int))), (4, .ov false [.sl (some 3) (((List.replicate (Int.toNat (w64 ((a0.length : Int) + 1))) (0 : Int)).set (Int.toNat (a0.length : Int)) 1).map eI)]), (5, .ov false [.sl (some 22) []]), (18, .p (.int .i64 (a0.length : Int))), (19, .p (.int .i64 0))] [(1, {n := some a0.length})] [(a0.map (eF eI)).length = a0.length] (by kernel_rfl) ⟨(List.length_map ..), trivial⟩) ?_
    refine k_block ?_
    obtain ⟨y20, hl_x19, hk_x19⟩ := bind_some' h
    clear h
    refine k_loop (J := fun (x : ((List (List Int)) × Int)) => [(0, .d false [.sl none (a0.map (eF eI))]), (3, .p (.int .i64 (a0.length : Int))), (4, .ov false [.sl (some 3) (((List.replicate (Int.toNat (w64 ((a0.length : Int) + 1))) (0 : Int)).set (Int.toNat (a0.length : Int)) 1).map eI)]), (5, .ov false [.sl (some 22) (x.1.map (eO 3 eI))]), (18, .p (.int .i64 (a0.length : Int))), (19, .p (.int .i64 x.2))]) hl_x19 (wk_of (by kernel_rfl) (by kernel_rfl)) (fun x19 o_x19 h hy_x19 => ?_)
    unfold spec_zeCoefficients_b3 at h
    refine k_sreg (r_go [(0, .d false [.sl none (a0.map (eF eI))]), (3, .p (.int .i64 (a0.length : Int))), (4, .ov false [.sl (some 3) (((List.replicate (Int.toNat (w64 ((a0.length : Int) + 1))) (0 : Int)).set (Int.toNat (a0.length : Int)) 1).map eI)]), (5, .ov false [.sl (some 22) (x19.1.map (eO 3 eI))]), (18, .p (.int .i64 (a0.length : Int))), (19, .p (.int .i64 x19.2)), (20, .p (.bool (decide (x19.2 < (a0.length : Int)))))] [] [] (by kernel_rfl) trivial) ?_
    refine k_seq ?_
    refine k_cond (b := (decide (x19.2 < (a0.length : Int)))) (by kernel_rfl) (fun hc5_20 => ?_) (fun hc5_20 => ?_)
    · replace h := ite_t hc5_20 h
      refine k_skip ?_
      refine q_n ?_
      refine k_seq ?_
      refine k_block ?_
      refine k_sreg (r_go [(0, .d false [.sl none (a0.map (eF eI))]), (3, .p (.int .i64 (a0.length : Int))), (4, .ov false [.sl (some 3) (((List.replicate (Int.toNat (w64 ((a0.length : Int) + 1))) (0 : Int)).set (Int.toNat (a0.length : Int)) 1).map eI)]), (5, .ov false [.sl (some 22) (x19.1.map (eO 3 eI))]), (6, .p (.int .i64 x19.2)), (18, .p (.int .i64 (a0.length : Int))), (19, .p (.int .i64 x19.2))] [] [] (by kernel_rfl) trivial) ?_
      replace h := bind_some' h
      obtain ⟨u22, hu22, h⟩ := h
      replace h := bind_some' h
      obtain ⟨u23, hu23, h⟩ := h
      refine k_sreg (r_go [(0, .d false [.sl none (a0.map (eF eI))]), (3, .p (.int .i64 (a0.length : Int))), (4, .ov false [.sl (some 3) (((List.replicate (Int.toNat (w64 ((a0.length : Int) + 1))) (0 : Int)).set (Int.toNat (a0.length : Int)) 1).map eI)]), (5, .ov false [.sl (some 22) ((x19.1 ++ [(List.replicate (Int.toNat (a0.length : Int)) (0 : Int))]).map (eO 3 eI))]), (6, .p (.int .i64 x19.2)), (18, .p (.int .i64 (a0.length : Int))), (19, .p (.int .i64 x19.2))] [(2, {fix := some (24, .ov false [.sl (some 3) ((List.replicate (Int.toNat (a0.length : Int)) (0 : Int)).map eI)])}), (4, {fix := some (26, .ov false [.sl (some 22) ((x19.1 ++ [(List.replicate (Int.toNat (a0.length : Int)) (0 : Int))]).map (eO 3 eI))])})] [(a0.length : Int) = (a0.length : Int), 0 ≤ (a0.length : Int), (a0.length : Int) ≤ 1099511627776, (SV.ov false [.sl (some 3) (List.replicate (Int.toNat (a0.length : Int)) [.raw (.int .i64 0)])] : SV) = .ov false [.sl (some 3) ((List.replicate (Int.toNat (a0.length : Int)) (0 : Int)).map eI)], List.length ((x19.1.map (eO 3 eI)) : List (List C)) + List.length ((([(List.replicate (Int.toNat (a0.length : Int)) (0 : Int))]).map (eO 3 eI)) : List (List C)) ≤ 1099511627776, ∀ row ∈ ((([(List.replicate (Int.toNat (a0.length : Int)) (0 : Int))]).map (eO 3 eI)) : List (List C)), row.length = 1, (SV.ov false [.sl (some 22) ((x19.1.map (eO 3 eI)) ++ (([(List.replicate (Int.toNat (a0.length : Int)) (0 : Int))]).map (eO 3 eI)))] : SV) = .ov false [.sl (some 22) ((x19.1 ++ [(List.replicate (Int.toNat (a0.length : Int)) (0 : Int))]).map (eO 3 eI))]] (by kernel_rfl) ⟨rfl, (guardO_some hu22).1, (guardO_some hu22).2, (congrArg (fun z => SV.ov false [.sl (some 3) z]) (rep_fix eI (0 : Int))), (by have hg := (guardO_some hu23); simpa using hg), (rows_len fun _ => rfl), (congrArg (fun z => SV.ov false [.sl (some 22) z]) (List.map_append ..).symm), trivial⟩) ?_
      replace h := bind_some' h
      obtain ⟨v24, hv24, h⟩ := h
      replace h := bind_some' h
      obtain ⟨v25, hv25, h⟩ := h
      refine k_reg (r_go [(0, .d false [.sl none (a0.map (eF eI))]), (3, .p (.int .i64 (a0.length : Int))), (4, .ov false [.sl (some 3) (((List.replicate (Int.toNat (w64 ((a0.length : Int) + 1))) (0 : Int)).set (Int.toNat (a0.length : Int)) 1).map eI)]), (5, .ov false [.sl (some 22) (((x19.1 ++ [(List.replicate (Int.toNat (a0.length : Int)) (0 : Int))]).set (Int.toNat x19.2) (v24.set (Int.toNat x19.2) 1)).map (eO 3 eI))]), (18, .p (.int .i64 (a0.length : Int))), (19, .p (.int .i64 x19.2))] [(2, {row := some [.sl (some 3) (v24.map eI)]}), (3, {row := some [.sl (some 3) (v24.map eI)]}), (5, {deep := some [.sl (some 3) (v24.map eI)], row := some [.raw (.int .i64 v25)]}), (6, {row := some [.raw (.int .i64 v25)], fix := some (5, .ov false [.sl (some 22) (((x19.1 ++ [(List.replicate (Int.toNat (a0.length : Int)) (0 : Int))]).set (Int.toNat x19.2) (v24.set (Int.toNat x19.2) 1)).map (eO 3 eI))])})] [0 ≤ x19.2, ((x19.1 ++ [(List.replicate (Int.toNat (a0.length : Int)) (0 : Int))]).map (eO 3 eI))[(Int.toNat x19.2)]? = some [.sl (some 3) (v24.map eI)], frR [.sl (some 3) (v24.map eI)] = false, getRow [[.sl (some 22) ((x19.1 ++ [(List.replicate (Int.toNat (a0.length : Int)) (0 : Int))]).map (eO 3 eI))]] [(0, 0), ((Int.toNat x19.2), 0)] = some [.sl (some 3) (v24.map eI)], 0 ≤ x19.2, (v24.map eI)[(Int.toNat x19.2)]? = some [.raw (.int .i64 v25)], getRow [[.sl (some 22) ((x19.1 ++ [(List.replicate (Int.toNat (a0.length : Int)) (0 : Int))]).map (eO 3 eI))]] [(0, 0), ((Int.toNat x19.2), 0)] = some [.sl (some 3) (v24.map eI)], getRow [[.sl (some 22) ((x19.1 ++ [(List.replicate (Int.toNat (a0.length : Int)) (0 : Int))]).map (eO 3 eI))]] [(0, 0), ((Int.toNat x19.2), 0), ((Int.toNat x19.2), 0)] = some [.raw (.int .i64 v25)], (SV.ov false [.sl (some 22) (setL ((x19.1 ++ [(List.replicate (Int.toNat (a0.length : Int)) (0 : Int))]).map (eO 3 eI)) [((Int.toNat x19.2), 0), ((Int.toNat x19.2), 0)] [.raw (.int .i64 1)])] : SV) = .ov false [.sl (some 22) (((x19.1 ++ [(List.replicate (Int.toNat (a0.length : Int)) (0 : Int))]).set (Int.toNat x19.2) (v24.set (Int.toNat x19.2) 1)).map (eO 3 eI))]] (by kernel_rfl) ⟨(idxO_some hv24).1, (map_get (eO 3 eI) (idxO_some hv24).2), rfl, ((gr0 rfl).trans (gre (map_get (eO 3 eI) (idxO_some hv24).2))), (idxO_some hv25).1, (map_get eI (idxO_some hv25).2), ((gr0 rfl).trans (gre (map_get (eO 3 eI) (idxO_some hv24).2))), ((gr0 rfl).trans ((grs (map_get (eO 3 eI) (idxO_some hv24).2) rfl).trans (gre (map_get eI (idxO_some hv25).2)))), (congrArg (fun z => SV.ov false [.sl (some 22) z]) (set2 (f := (eO 3 eI)) (y := (v24.set (Int.toNat x19.2) 1)) (idxO_some hv24).2 rfl (set1 (f := eI) (y := 1) (idxO_some hv25).2 rfl) rfl)), trivial⟩) ?_
      refine b_n ?_
      refine q_n ?_
      refine k_reg (r_go [(0, .d false [.sl none (a0.map (eF eI))]), (3, .p (.int .i64 (a0.length : Int))), (4, .ov false [.sl (some 3) (((List.replicate (Int.toNat (w64 ((a0.length : Int) + 1))) (0 : Int)).set (Int.toNat (a0.length : Int)) 1).map eI)]), (5, .ov false [.sl (some 22) (((x19.1 ++ [(List.replicate (Int.toNat (a0.length : Int)) (0 : Int))]).set (Int.toNat x19.2) (v24.set (Int.toNat x19.2) 1)).map (eO 3 eI))]), (18, .p (.int .i64 (a0.length : Int))), (19, .p (.int .i64 (w64 (x19.2 + 1))))] [] [] (by kernel_rfl) trivial) ?_
      exact lq_n (((x19.1 ++ [(List.replicate (Int.toNat (a0.length : Int)) (0 : Int))]).set (Int.toNat x19.2) (v24.set (Int.toNat x19.2) 1)), (w64 (x19.2 + 1))) (Option.some.inj h).symm (wk_of (by kernel_rfl) (by kernel_rfl))
    · replace h := ite_f hc5_20 h
      refine k_exit ?_
      refine q_x ?_
      refine lq_x ?_
      refine b_x ?_
      have hyy := hy_x19 _ (Option.some.inj h).symm
      subst hyy
      have h := hk_x19
      refine q_n ?_
      exact ⟨x19.1, h, (wk_of (by kernel_rfl) (by kernel_rfl))⟩
theorem wk_spec_zeBack {a0 : (List Int)}  {r : (List Int)} (h : spec_zeBack a0 = some r) : Meets Try.prog 82 [.d false [.sl none (a0.map eI)]] { vals := [.ov false [.sl (some 3) (r.map eI)]] } := by
  refine Meets_ofL (by kernel_rfl) Try.func82 rfl (by kernel_rfl) (l0 := [(0, .d false [.sl none (a0.map eI)])]) (by kernel_rfl) ?_
  unfold spec_zeBack at h
  refine k_sreg (r_go [(0, .d false [.sl none (a0.map eI)])] [] [] (by kernel_rfl) trivial) ?_
  refine k_sreg (r_go [(0, .d false [.sl none (a0.map eI)]), (3, .ov false [.sl (some 3) []])] [] [] (by kernel_rfl) trivial) ?_
  refine k_join (J := fun (x : (List Int)) => [(3, .ov false [.sl (some 3) (x.map eI)])]) (K := fun x => spec_zeBack_k1 x = some r) (fun x1 h => ?_) ?_
  · unfold spec_zeBack_k1 at h
    refine k_sreg (r_go [(2, .ov false [.sl (some 3) (x1.map eI)])] [] [] (by kernel_rfl) trivial) ?_
    refine k_ret ?_
    obtain rfl := Option.some.inj h
    exact e_ret (ls := [(.ov false [.sl (some 3) (x1.map eI)], 2)]) (by kernel_rfl) rfl (by kernel_rfl) rfl
  · refine k_sreg (r_go [(0, .d false [.sl none (a0.map eI)]), (3, .ov false [.sl (some 3) []]), (4, .p (.int .i64 (w64 ((a0.length : Int) - 1))))] [(1, {n := some a0.length})] [(a0.map eI).length = a0.length] (by kernel_rfl) ⟨(List.length_map ..), trivial⟩) ?_
    refine k_block ?_
    obtain ⟨y3, hl_x2, hk_x2⟩ := bind_some' h
    clear h
    refine k_loop (J := fun (x : ((List Int) × Int)) => [(0, .d false [.sl none (a0.map eI)]), (3, .ov false [.sl (some 3) (x.1.map eI)]), (4, .p (.int .i64 x.2))]) hl_x2 (wk_of (by kernel_rfl) (by kernel_rfl)) (fun x2 o_x2 h hy_x2 => ?_)
    unfold spec_zeBack_b1 at h
    refine k_seq ?_
    refine k_sreg (r_go [(0, .d false [.sl none (a0.map eI)]), (3, .ov false [.sl (some 3) (x2.1.map eI)]), (4, .p (.int .i64 x2.2)), (9, .p (.bool (decide (x2.2 ≥ 0))))] [] [] (by kernel_rfl) trivial) ?_
    refine k_cond (b := (decide (x2.2 ≥ 0))) (by kernel_rfl) (fun hc5_3 => ?_) (fun hc5_3 => ?_)
    · replace h := ite_t hc5_3 h
      refine k_skip ?_
      refine q_n ?_
      refine k_seq ?_
      refine k_block ?_
      replace h := bind_some' h
      obtain ⟨v5, hv5, h⟩ := h
      replace h := bind_some' h
      obtain ⟨u6, hu6, h⟩ := h
      refine k_reg (r_go [(0, .d false [.sl none (a0.map eI)]), (3, .ov false [.sl (some 3) ((x2.1 ++ [v5]).map eI)]), (4, .p (.int .i64 x2.2))] [(3, {row := some [.raw (.int .i64 v5)]}), (6, {fix := some (18, .ov false [.sl (some 3) ((x2.1 ++ [v5]).map eI)])})] [0 ≤ x2.2, (a0.map eI)[(Int.toNat x2.2)]? = some [.raw (.int .i64 v5)], List.length ((x2.1.map eI) : List (List C)) + List.length ((([v5]).map eI) : List (List C)) ≤ 1099511627776, ∀ row ∈ ((([v5]).map eI) : List (List C)), row.length = 1, (SV.ov false [.sl (some 3) ((x2.1.map eI) ++ (([v5]).map eI))] : SV) = .ov false [.sl (some 3) ((x2.1 ++ [v5]).map eI)]] (by kernel_rfl) ⟨(idxO_some hv5).1, (map_get eI (idxO_some hv5).2), (by have hg := (guardO_some hu6); simpa using hg), (rows_len fun _ => rfl), (congrArg (fun z => SV.ov false [.sl (some 3) z]) (List.map_append ..).symm), trivial⟩) ?_
      refine b_n ?_
      refine q_n ?_
      refine k_reg (r_go [(0, .d false [.sl none (a0.map eI)]), (3, .ov false [.sl (some 3) ((x2.1 ++ [v5]).map eI)]), (4, .p (.int .i64 (w64 (x2.2 - 1))))] [] [] (by kernel_rfl) trivial) ?_
      exact lq_n ((x2.1 ++ [v5]), (w64 (x2.2 - 1))) (Option.some.inj h).symm (wk_of (by kernel_rfl) (by kernel_rfl))
    · replace h := ite_f hc5_3 h
      refine k_exit ?_
      refine q_x ?_
      refine lq_x ?_
      refine b_x ?_
      have hyy := hy_x2 _ (Option.some.inj h).symm
      subst hyy
      have h := hk_x2
      refine q_n ?_
      exact ⟨x2.1, h, (wk_of (by kernel_rfl) (by kernel_rfl))⟩
theorem wk_spec_l1Own {a0 : (List Int)}  {r : (List Int)} (h : spec_l1Own a0 = some r) : Meets Try.prog 130 [.d false [.sl none (a0.map eI)]] { vals := [.ov false [.sl (some 3) (r.map eI)]] } := by
  refine Meets_ofL (by kernel_rfl) Try.func130 rfl (by kernel_rfl) (l0 := [(0, .d false [.sl none (a0.map eI)])]) (by kernel_rfl) ?_
  unfold spec_l1Own at h
  refine k_sreg (r_go [(0, .d false [.sl none (a0.map eI)])] [] [] (by kernel_rfl) trivial) ?_
  replace h := bind_some' h
  obtain ⟨u1, hu1, h⟩ := h
  refine k_sreg (r_go [(2, .ov false [.sl (some 3) (a0.map eI)])] [] [List.length ([] : List (List C)) + List.length ((a0.map eI) : List (List C)) ≤ 1099511627776, ∀ row ∈ ((a0.map eI) : List (List C)), row.length = 1] (by kernel_rfl) ⟨(by have hg := (guardO_some hu1); simpa using hg), (rows_len fun _ => rfl), trivial⟩) ?_
  refine k_ret ?_
  obtain rfl := Option.some.inj h
  exact e_ret (ls := [(.ov false [.sl (some 3) (a0.map eI)], 2)]) (by kernel_rfl) rfl (by kernel_rfl) rfl
theorem wk_spec_poTrim {a0 : (List Int)}  {r : (List Int)} (h : spec_poTrim a0 = some r) : Meets Try.prog 107 [.d false [.sl none (a0.map eI)]] { vals := [.ov false [.sl (some 3) (r.map eI)]] } := by
  refine Meets_ofL (by kernel_rfl) Try.func107 rfl (by kernel_rfl) (l0 := [(0, .d false [.sl none (a0.map eI)])]) (by kernel_rfl) ?_
  unfold spec_poTrim at h
  refine k_sreg (r_go [(0, .d false [.sl none (a0.map eI)])] [] [] (by kernel_rfl) trivial) ?_
  refine k_join (J := fun (x : (List Int)) => [(0, .d false [.sl none (x.map eI)])]) (K := fun x => spec_poTrim_k1 x = some r) (fun x1 h => ?_) ?_
  · unfold spec_poTrim_k1 at h
    replace h := bind_some' h
    obtain ⟨v2, hv2, h⟩ := h
    refine k_sreg (r_go [(2, .ov false [.sl (some 3) (v2.map eI)])] [(1, {call := some ([.d false [.sl none (x1.map eI)]], [.ov false [.sl (some 3) (v2.map eI)]], true)})] [([.d false [.sl none (x1.map eI)]] : List Arg) = [.d false [.sl none (x1.map eI)]], Meets Try.prog 130 ([.d false [.sl none (x1.map eI)]] ++ []) { vals := [.ov false [.sl (some 3) (v2.map eI)]] }, (!true || List.all [.ov false [.sl (some 3) (v2.map eI)]] simpleR) = true] (by kernel_rfl) ⟨rfl, (wk_spec_l1Own hv2), (bt (sa_o (wnR1 (wnL_enc wn_I) rfl) rfl)), trivial⟩) ?_
    refine k_ret ?_
    obtain rfl := Option.some.inj h
    exact e_ret (ls := [(.ov false [.sl (some 3) (v2.map eI)], 2)]) (by kernel_rfl) rfl (by kernel_rfl) rfl
  · refine k_block ?_
    obtain ⟨y4, hl_x3, hk_x3⟩ := bind_some' h
    clear h
    refine k_loop (J := fun (x : (List Int)) => [(0, .d false [.sl none (x.map eI)])]) hl_x3 (wk_of (by kernel_rfl) (by kernel_rfl)) (fun x3 o_x3 h hy_x3 => ?_)
    unfold spec_poTrim_b1 at h
    refine k_seq ?_
    replace h := bind_some' h
    obtain ⟨w6, hw6, h⟩ := h
    refine k_sreg (l1 := [(0, .d false [.sl none (x3.map eI)]), (14, .p (.bool w6))]) ?_ ?_
    · clear h
      rcases Bool.eq_false_or_eq_true (decide ((x3.length : Int) > 0)) with ha0 | ha0
      · replace hw6 := ite_t ha0 hw6
        replace hw6 := bind_some' hw6
        obtain ⟨v5, hv5, hw6⟩ := hw6
        have hw6 := Option.some.inj hw6
        subst hw6
        exact (r_go [(0, .d false [.sl none (x3.map eI)]), (14, .p (.bool (v5 == 0)))] [(1, {n := some x3.length}), (4, {g := some true}), (5, {g := some true}), (6, {g := some true, n := some x3.length}), (7, {g := some true}), (8, {g := some true, row := some [.raw (.int .i64 v5)]}), (9, {g := some true}), (10, {g := some true}), (11, {b := some true})] [(x3.map eI).length = x3.length, (decide ((x3.length : Int) > 0)) = true, (decide ((x3.length : Int) > 0)) = true, (decide ((x3.length : Int) > 0)) = true, (x3.map eI).length = x3.length, (decide ((x3.length : Int) > 0)) = true, (decide ((x3.length : Int) > 0)) = true, 0 ≤ (w64 ((x3.length : Int) - 1)), (x3.map eI)[(Int.toNat (w64 ((x3.length : Int) - 1)))]? = some [.raw (.int .i64 v5)], (decide ((x3.length : Int) > 0)) = true, (decide ((x3.length : Int) > 0)) = true, (decide ((x3.length : Int) > 0)) = true] (by kernel_rfl) ⟨(List.length_map ..), ha0, ha0, ha0, (List.length_map ..), ha0, ha0, (idxO_some hv5).1, (map_get eI (idxO_some hv5).2), ha0, ha0, ha0, trivial⟩)
      · replace hw6 := ite_f ha0 hw6
        have hw6 := Option.some.inj hw6
        subst hw6
        exact (r_go [(0, .d false [.sl none (x3.map eI)]), (14, .p (.bool false))] [(1, {n := some x3.length}), (4, {g := some false}), (5, {g := some false}), (6, {g := some false}), (7, {g := some false}), (8, {g := some false}), (9, {g := some false}), (10, {g := some false}), (11, {b := some false})] [(x3.map eI).length = x3.length, (decide ((x3.length : Int) > 0)) = false, (decide ((x3.length : Int) > 0)) = false, (decide ((x3.length : Int) > 0)) = false, (decide ((x3.length : Int) > 0)) = false, (decide ((x3.length : Int) > 0)) = false, (decide ((x3.length : Int) > 0)) = false, (decide ((x3.length : Int) > 0)) = false, (decide ((x3.length : Int) > 0)) = false] (by kernel_rfl) ⟨(List.length_map ..), ha0, ha0, ha0, ha0, ha0, ha0, ha0, ha0, trivial⟩)
    · refine k_cond (b := w6) (by kernel_rfl) (fun hc5_6 => ?_) (fun hc5_6 => ?_)
      · replace h := ite_t hc5_6 h
        refine k_skip ?_
        refine q_n ?_
        refine k_block ?_
        replace h := bind_some' h
        obtain ⟨u8, hu8, h⟩ := h
        refine k_reg (r_go [(0, .d false [.sl none ((x3.take (Int.toNat (w64 ((x3.length : Int) - 1)))).map eI)])] [(2, {n := some x3.length}), (4, {fix := some (19, .d false [.sl none ((x3.take (Int.toNat (w64 ((x3.length : Int) - 1)))).map eI)])})] [(x3.map eI).length = x3.length, 0 ≤ (Int.toNat (w64 ((x3.length : Int) - 1))), (Int.toNat (w64 ((x3.length : Int) - 1))) ≤ (x3.map eI).length, ∀ row ∈ (x3.map eI), row.length = 1, (0 : Int) ≤ (w64 ((x3.length : Int) - 1)), (SV.d false [.sl none (((x3.map eI).take (Int.toNat (w64 ((x3.length : Int) - 1)))).drop 0)] : SV) = .d false [.sl none ((x3.take (Int.toNat (w64 ((x3.length : Int) - 1)))).map eI)]] (by kernel_rfl) ⟨(List.length_map ..), (by have hg := (guardO_some hu8); first | (simp only [List.length_map]; omega) | omega), (by have hg := (guardO_some hu8); first | (simp only [List.length_map]; omega) | omega), (rows_len fun _ => rfl), (by have hg := (guardO_some hu8); omega), (congrArg (fun z => SV.d false [.sl none z]) sl_hi), trivial⟩) ?_
        refine b_n ?_
        exact lq_n (x3.take (Int.toNat (w64 ((x3.length : Int) - 1)))) (Option.some.inj h).symm (wk_of (by kernel_rfl) (by kernel_rfl))
      · replace h := ite_f hc5_6 h
        refine k_exit ?_
        refine q_x ?_
        refine lq_x ?_
        refine b_x ?_
        have hyy := hy_x3 _ (Option.some.inj h).symm
        subst hyy
        have h := hk_x3
        refine q_n ?_
        exact ⟨x3, h, (wk_of (by kernel_rfl) (by kernel_rfl))⟩
theorem wk_spec_poGood {a0 : (List Int)}  {r : Bool} (h : spec_poGood a0 = some r) : Meets Try.prog 108 [.d false [.sl none (a0.map eI)]] { vals := [.p (.bool r)] } := by
  refine Meets_ofL (by kernel_rfl) Try.func108 rfl (by kernel_rfl) (l0 := [(0, .d false [.sl none (a0.map eI)])]) (by kernel_rfl) ?_
  unfold spec_poGood at h
  refine k_sreg (r_go [(0, .d false [.sl none (a0.map eI)])] [] [] (by kernel_rfl) trivial) ?_
  refine k_seq ?_
  replace h := bind_some' h
  obtain ⟨w2, hw2, h⟩ := h
  refine k_sreg (l1 := [(0, .d false [.sl none (a0.map eI)]), (10, .p (.bool w2))]) ?_ ?_
  · clear h
    rcases Bool.eq_false_or_eq_true (decide ((a0.length : Int) > 9)) with ha0 | ha0
    · replace hw2 := ite_t ha0 hw2
      have hw2 := Option.some.inj hw2
      subst hw2
      exact (r_go [(0, .d false [.sl none (a0.map eI)]), (10, .p (.bool true))] [(1, {n := some a0.length}), (4, {g := some true}), (5, {g := some true}), (6, {g := some true}), (7, {b := some true})] [(a0.map eI).length = a0.length, (decide ((a0.length : Int) > 9)) = true, (decide ((a0.length : Int) > 9)) = true, (decide ((a0.length : Int) > 9)) = true, (decide ((a0.length : Int) > 9)) = true] (by kernel_rfl) ⟨(List.length_map ..), ha0, ha0, ha0, ha0, trivial⟩)
    · replace hw2 := ite_f ha0 hw2
      replace hw2 := bind_some' hw2
      obtain ⟨v1, hv1, hw2⟩ := hw2
      have hw2 := Option.some.inj hw2
      subst hw2
      exact (r_go [(0, .d false [.sl none (a0.map eI)]), (10, .p (.bool (!v1)))] [(1, {n := some a0.length}), (4, {g := some false}), (5, {g := some false, call := some ([.d false [.sl none (a0.map eI)], .v (.int .i64 (-1000000)), .v (.int .i64 1000000)], [.p (.bool v1)], true)}), (6, {g := some false}), (7, {b := some false})] [(a0.map eI).length = a0.length, (decide ((a0.length : Int) > 9)) = false, (decide ((a0.length : Int) > 9)) = false, ([.d false [.sl none (a0.map eI)], .v (.int .i64 (-1000000)), .v (.int .i64 1000000)] : List Arg) = [.d false [.sl none (a0.map eI)], .v (.int .i64 (-1000000)), .v (.int .i64 1000000)], Meets Try.prog 87 ([.d false [.sl none (a0.map eI)], .v (.int .i64 (-1000000)), .v (.int .i64 1000000)] ++ []) { vals := [.p (.bool v1)] }, (!true || List.all [.p (.bool v1)] simpleR) = true, (decide ((a0.length : Int) > 9)) = false, (decide ((a0.length : Int) > 9)) = false] (by kernel_rfl) ⟨(List.length_map ..), ha0, ha0, rfl, (wk_spec_l1All hv1), (bt rfl), ha0, ha0, trivial⟩)
  · refine k_cond (b := w2) (by kernel_rfl) (fun hc2_2 => ?_) (fun hc2_2 => ?_)
    · replace h := ite_t hc2_2 h
      refine k_sreg (r_go [(2, .p (.bool false))] [] [] (by kernel_rfl) trivial) ?_
      refine k_ret ?_
      refine q_r ?_
      obtain rfl := Option.some.inj h
      exact e_ret (ls := [(.p (.bool false), 2)]) (by kernel_rfl) rfl (by kernel_rfl) rfl
    · replace h := ite_f hc2_2 h
      refine k_skip ?_
      refine q_n ?_
      replace h := bind_some' h
      obtain ⟨w5, hw5, h⟩ := h
      refine k_sreg (l1 := [(2, .p (.bool w5))]) ?_ ?_
      · clear h
        rcases Bool.eq_false_or_eq_true ((a0.length : Int) == 0) with ha1 | ha1
        · replace hw5 := ite_t ha1 hw5
          have hw5 := Option.some.inj hw5
          subst hw5
          exact (r_go [(2, .p (.bool true))] [(1, {n := some a0.length}), (4, {g := some true}), (5, {g := some true}), (6, {g := some true}), (7, {g := some true}), (8, {g := some true}), (9, {g := some true}), (10, {g := some true}), (11, {b := some true})] [(a0.map eI).length = a0.length, ((a0.length : Int) == 0) = true, ((a0.length : Int) == 0) = true, ((a0.length : Int) == 0) = true, ((a0.length : Int) == 0) = true, ((a0.length : Int) == 0) = true, ((a0.length : Int) == 0) = true, ((a0.length : Int) == 0) = true, ((a0.length : Int) == 0) = true] (by kernel_rfl) ⟨(List.length_map ..), ha1, ha1, ha1, ha1, ha1, ha1, ha1, ha1, trivial⟩)
        · replace hw5 := ite_f ha1 hw5
          replace hw5 := bind_some' hw5
          obtain ⟨v4, hv4, hw5⟩ := hw5
          have hw5 := Option.some.inj hw5
          subst hw5
          exact (r_go [(2, .p (.bool (v4 != 0)))] [(1, {n := some a0.length}), (4, {g := some false}), (5, {g := some false}), (6, {g := some false, n := some a0.length}), (7, {g := some false}), (8, {g := some false, row := some [.raw (.int .i64 v4)]}), (9, {g := some false}), (10, {g := some false}), (11, {b := some false})] [(a0.map eI).length = a0.length, ((a0.length : Int) == 0) = false, ((a0.length : Int) == 0) = false, ((a0.length : Int) == 0) = false, (a0.map eI).length = a0.length, ((a0.length : Int) == 0) = false, ((a0.length : Int) == 0) = false, 0 ≤ (w64 ((a0.length : Int) - 1)), (a0.map eI)[(Int.toNat (w64 ((a0.length : Int) - 1)))]? = some [.raw (.int .i64 v4)], ((a0.length : Int) == 0) = false, ((a0.length : Int) == 0) = false, ((a0.length : Int) == 0) = false] (by kernel_rfl) ⟨(List.length_map ..), ha1, ha1, ha1, (List.length_map ..), ha1, ha1, (idxO_some hv4).1, (map_get eI (idxO_some hv4).2), ha1, ha1, ha1, trivial⟩)
      · refine k_ret ?_
        obtain rfl := Option.some.inj h
        exact e_ret (ls := [(.p (.bool w5), 2)]) (by kernel_rfl) rfl (by kernel_rfl) rfl
theorem wk_spec_poIf {a0 : (List Int)}  {r : ((List Int) × Bool)} (h : spec_poIf a0 = some r) : Meets Try.prog 78 [.d false [.sl none (a0.map eI)]] { vals := [.ov false [.sl (some 3) (r.1.map eI)], .p (.bool r.2)] } := by
  refine Meets_ofL (by kernel_rfl) Try.func78 rfl (by kernel_rfl) (l0 := [(0, .d false [.sl none (a0.map eI)])]) (by kernel_rfl) ?_
  unfold spec_poIf at h
  refine k_sreg (r_go [(0, .d false [.sl none (a0.map eI)])] [] [] (by kernel_rfl) trivial) ?_
  replace h := bind_some' h
  obtain ⟨v1, hv1, h⟩ := h
  refine k_sreg (r_go [(0, .ov false [.sl (some 3) (v1.map eI)])] [(1, {call := some ([.d false [.sl none (a0.map eI)]], [.ov false [.sl (some 3) (v1.map eI)]], true)})] [([.d false [.sl none (a0.map eI)]] : List Arg) = [.d false [.sl none (a0.map eI)]], Meets Try.prog 107 ([.d false [.sl none (a0.map eI)]] ++ []) { vals := [.ov false [.sl (some 3) (v1.map eI)]] }, (!true || List.all [.ov false [.sl (some 3) (v1.map eI)]] simpleR) = true] (by kernel_rfl) ⟨rfl, (wk_spec_poTrim hv1), (bt (sa_o (wnR1 (wnL_enc wn_I) rfl) rfl)), trivial⟩) ?_
  refine k_seq ?_
  replace h := bind_some' h
  obtain ⟨v2, hv2, h⟩ := h
  refine k_sreg (r_go [(0, .ov false [.sl (some 3) (v1.map eI)]), (8, .p (.bool (!v2)))] [(1, {call := some ([.d false [.sl none (v1.map eI)]], [.p (.bool v2)], true)})] [([.d false [.sl none (eraL (v1.map eI))]] : List Arg) = [.d false [.sl none (v1.map eI)]], Meets Try.prog 108 ([.d false [.sl none (v1.map eI)]] ++ []) { vals := [.p (.bool v2)] }, (!true || List.all [.p (.bool v2)] simpleR) = true] (by kernel_rfl) ⟨(by simp only [eraL_enc (h := eI) er_I]), (wk_spec_poGood hv2), (bt rfl), trivial⟩) ?_
  refine k_cond (b := (!v2)) (by kernel_rfl) (fun hc2_2 => ?_) (fun hc2_2 => ?_)
  · replace h := ite_t hc2_2 h
    refine k_sreg (r_go [(2, .ov false [.sl (some 3) []]), (3, .p (.bool false))] [] [] (by kernel_rfl) trivial) ?_
    refine k_ret ?_
    refine q_r ?_
    obtain rfl := Option.some.inj h
    exact e_ret (ls := [(.ov false [.sl (some 3) []], 2), (.p (.bool false), 3)]) (by kernel_rfl) rfl (by kernel_rfl) rfl
  · replace h := ite_f hc2_2 h
    refine k_skip ?_
    refine q_n ?_
    refine k_sreg (r_go [(2, .ov false [.sl (some 3) (v1.map eI)]), (3, .p (.bool true))] [] [] (by kernel_rfl) trivial) ?_
    refine k_ret ?_
    obtain rfl := Option.some.inj h
    exact e_ret (ls := [(.ov false [.sl (some 3) (v1.map eI)], 2), (.p (.bool true), 3)]) (by kernel_rfl) rfl (by kernel_rfl) rfl
theorem wk_spec_ZetaDenominator {a0 : (List (List Int))}  {r : ((List Int) × Bool)} (h : spec_ZetaDenominator a0 = some r) : Meets Try.prog 43 [.d false [.sl none (a0.map (eF eI))]] { vals := [.ov false [.sl (some 3) (r.1.map eI)], .p (.bool r.2)] } := by
  refine Meets_ofL (by kernel_rfl) Try.func43 rfl (by kernel_rfl) (l0 := [(0, .d false [.sl none (a0.map (eF eI))])]) (by kernel_rfl) ?_
  unfold spec_ZetaDenominator at h
  refine k_sreg (r_go [(0, .d false [.sl none (a0.map (eF eI))])] [] [] (by kernel_rfl) trivial) ?_
  refine k_seq ?_
  replace h := bind_some' h
  obtain ⟨v1, hv1, h⟩ := h
  refine k_sreg (r_go [(0, .d false [.sl none (a0.map (eF eI))]), (6, .p (.bool (!v1)))] [(1, {call := some ([.d false [.sl none (a0.map (eF eI))]], [.p (.bool v1)], true)})] [([.d false [.sl none (a0.map (eF eI))]] : List Arg) = [.d false [.sl none (a0.map (eF eI))]], Meets Try.prog 63 ([.d false [.sl none (a0.map (eF eI))]] ++ []) { vals := [.p (.bool v1)] }, (!true || List.all [.p (.bool v1)] simpleR) = true] (by kernel_rfl) ⟨rfl, (wk_spec_grGood hv1), (bt rfl), trivial⟩) ?_
  refine k_cond (b := (!v1)) (by kernel_rfl) (fun hc2_1 => ?_) (fun hc2_1 => ?_)
  · replace h := ite_t hc2_1 h
    refine k_sreg (r_go [(2, .ov false [.sl (some 3) []]), (3, .p (.bool false))] [] [] (by kernel_rfl) trivial) ?_
    refine k_ret ?_
    refine q_r ?_
    obtain rfl := Option.some.inj h
    exact e_ret (ls := [(.ov false [.sl (some 3) []], 2), (.p (.bool false), 3)]) (by kernel_rfl) rfl (by kernel_rfl) rfl
  · replace h := ite_f hc2_1 h
    refine k_skip ?_
    refine q_n ?_
    replace h := bind_some' h
    obtain ⟨v3, hv3, h⟩ := h
    replace h := bind_some' h
    obtain ⟨v4, hv4, h⟩ := h
    replace h := bind_some' h
    obtain ⟨v5, hv5, h⟩ := h
    refine k_sreg (r_go [(2, .ov false [.sl (some 3) (v5.1.map eI)]), (3, .p (.bool v5.2))] [(1, {call := some ([.d false [.sl none (a0.map (eF eI))]], [.ov false [.sl (some 3) (v3.map eI)]], true)}), (2, {call := some ([.d false [.sl none (v3.map eI)]], [.ov false [.sl (some 3) (v4.map eI)]], true)}), (3, {call := some ([.d false [.sl none (v4.map eI)]], [.ov false [.sl (some 3) (v5.1.map eI)], .p (.bool v5.2)], true)})] [([.d false [.sl none (a0.map (eF eI))]] : List Arg) = [.d false [.sl none (a0.map (eF eI))]], Meets Try.prog 79 ([.d false [.sl none (a0.map (eF eI))]] ++ []) { vals := [.ov false [.sl (some 3) (v3.map eI)]] }, (!true || List.all [.ov false [.sl (some 3) (v3.map eI)]] simpleR) = true, ([.d false [.sl none (eraL (v3.map eI))]] : List Arg) = [.d false [.sl none (v3.map eI)]], Meets Try.prog 82 ([.d false [.sl none (v3.map eI)]] ++ []) { vals := [.ov false [.sl (some 3) (v4.map eI)]] }, (!true || List.all [.ov false [.sl (some 3) (v4.map eI)]] simpleR) = true, ([.d false [.sl none (eraL (v4.map eI))]] : List Arg) = [.d false [.sl none (v4.map eI)]], Meets Try.prog 78 ([.d false [.sl none (v4.map eI)]] ++ []) { vals := [.ov false [.sl (some 3) (v5.1.map eI)], .p (.bool v5.2)] }, (!true || List.all [.ov false [.sl (some 3) (v5.1.map eI)], .p (.bool v5.2)] simpleR) = true] (by kernel_rfl) ⟨rfl, (wk_spec_zeCoefficients hv3), (bt (sa_o (wnR1 (wnL_enc wn_I) rfl) rfl)), (by simp only [eraL_enc (h := eI) er_I]), (wk_spec_zeBack hv4), (bt (sa_o (wnR1 (wnL_enc wn_I) rfl) rfl)), (by simp only [eraL_enc (h := eI) er_I]), (wk_spec_poIf hv5), (bt (sa_o (wnR1 (wnL_enc wn_I) rfl) (sa_p rfl))), trivial⟩) ?_
    refine k_ret ?_
    obtain rfl := Option.some.inj h
    exact e_ret (ls := [(.ov false [.sl (some 3) (v5.1.map eI)], 2), (.p (.bool v5.2), 3)]) (by kernel_rfl) rfl (by kernel_rfl) rfl
theorem wk_impl_within {a0 : Int} {a1 : Int} {a2 : Int}  {r : Bool} (h : impl_within a0 a1 a2 = some r) : Meets Try.prog 76 [.v (.int .i64 a0), .v (.int .i64 a1), .v (.int .i64 a2)] { vals := [.p (.bool r)] } := by
  refine Meets_ofL (by kernel_rfl) Try.func76 rfl (by kernel_rfl) (l0 := [(0, .p (.int .i64 a0)), (1, .p (.int .i64 a1)), (2, .p (.int .i64 a2))]) (by kernel_rfl) ?_
  unfold impl_within at h
  refine k_sreg (r_go [(0, .p (.int .i64 a0)), (1, .p (.int .i64 a1)), (2, .p (.int .i64 a2))] [] [] (by kernel_rfl) trivial) ?_
  refine k_sreg (l1 := [(6, .p (.bool ((decide (a1 ≤ a0)) && (decide (a0 ≤ a2)))))]) ?_ ?_
  · rcases Bool.eq_false_or_eq_true (decide (a1 ≤ a0)) with ha0 | ha0
    · exact RegOk.of_eq (l2 := [(6, .p (.bool ((decide (a1 ≤ a0)) && (decide (a0 ≤ a2)))))]) (r_go [(6, .p (.bool (decide (a0 ≤ a2))))] [(4, {g := some true}), (5, {g := some true}), (6, {g := some true}), (7, {b := some true})] [(decide (a1 ≤ a0)) = true, (decide (a1 ≤ a0)) = true, (decide (a1 ≤ a0)) = true, (decide (a1 ≤ a0)) = true] (by kernel_rfl) ⟨ha0, ha0, ha0, ha0, trivial⟩) (by simp [ha0])
    · exact RegOk.of_eq (l2 := [(6, .p (.bool ((decide (a1 ≤ a0)) && (decide (a0 ≤ a2)))))]) (r_go [(6, .p (.bool false))] [(4, {g := some false}), (5, {g := some false}), (6, {g := some false}), (7, {b := some false})] [(decide (a1 ≤ a0)) = false, (decide (a1 ≤ a0)) = false, (decide (a1 ≤ a0)) = false, (decide (a1 ≤ a0)) = false] (by kernel_rfl) ⟨ha0, ha0, ha0, ha0, trivial⟩) (by simp [ha0])
  · refine k_ret ?_
    obtain rfl := Option.some.inj h
    exact e_ret (ls := [(.p (.bool ((decide (a1 ≤ a0)) && (decide (a0 ≤ a2)))), 6)]) (by kernel_rfl) rfl (by kernel_rfl) rfl
theorem wk_slices_IndexFunc_LLint_Lint_d {a0 : (List (List Int))} {a1 : ((List Int) → Option Bool)} {F1 : FuncId} {K1 : List (Bool × List C)} (hp1 : ∀ x0 y, a1 x0 = some y → Meets Try.prog F1 ([.d false [.sl none (x0.map eI)]] ++ (K1.map fun (g, cs) => mkA g cs)) { vals := [.p (.bool y)] }) {r : Int} (h : slices_IndexFunc_LLint_Lint a0 a1 = some r) : Meets Try.prog 127 [.d false [.sl none (a0.map (eF eI))], .d false [.fn F1 K1]] { vals := [.p (.int .i64 r)] } := by
  refine Meets_ofL (by kernel_rfl) Try.func127 rfl (by kernel_rfl) (l0 := [(0, .d false [.sl none (a0.map (eF eI))]), (1, .d false [.fn F1 K1])]) (by kernel_rfl) ?_
  unfold slices_IndexFunc_LLint_Lint at h
  refine k_sreg (r_go [(0, .d false [.sl none (a0.map (eF eI))]), (1, .d false [.fn F1 K1])] [] [] (by kernel_rfl) trivial) ?_
  refine k_join (J := fun (x : Unit) => []) (K := fun x => slices_IndexFunc_LLint_Lint_k1 x = some r) (fun x1 h => ?_) ?_
  · unfold slices_IndexFunc_LLint_Lint_k1 at h
    refine k_sreg (r_go [(4, .p (.int .i64 (-1)))] [] [] (by kernel_rfl) trivial) ?_
    refine k_ret ?_
    obtain rfl := Option.some.inj h
    exact e_ret (ls := [(.p (.int .i64 (-1)), 4)]) (by kernel_rfl) rfl (by kernel_rfl) rfl
  · refine k_sreg (r_go [(0, .d false [.sl none (a0.map (eF eI))]), (1, .d false [.fn F1 K1]), (7, .p (.int .i64 (a0.length : Int))), (8, .p (.int .i64 0))] [(1, {n := some a0.length})] [(a0.map (eF eI)).length = a0.length] (by kernel_rfl) ⟨(List.length_map ..), trivial⟩) ?_
    refine k_block ?_
    obtain ⟨y3, hl_x2, hk_x2⟩ := bind_some' h
    clear h
    refine k_loop (J := fun (x : Int) => [(0, .d false [.sl none (a0.map (eF eI))]), (1, .d false [.fn F1 K1]), (7, .p (.int .i64 (a0.length : Int))), (8, .p (.int .i64 x))]) hl_x2 (wk_of (by kernel_rfl) (by kernel_rfl)) (fun x2 o_x2 h hy_x2 => ?_)
    unfold slices_IndexFunc_LLint_Lint_b1 at h
    refine k_sreg (r_go [(0, .d false [.sl none (a0.map (eF eI))]), (1, .d false [.fn F1 K1]), (7, .p (.int .i64 (a0.length : Int))), (8, .p (.int .i64 x2)), (9, .p (.bool (decide (x2 < (a0.length : Int)))))] [] [] (by kernel_rfl) trivial) ?_
    refine k_seq ?_
    refine k_cond (b := (decide (x2 < (a0.length : Int)))) (by kernel_rfl) (fun hc5_3 => ?_) (fun hc5_3 => ?_)
    · replace h := ite_t hc5_3 h
      refine k_skip ?_
      refine q_n ?_
      refine k_seq ?_
      refine k_block ?_
      refine k_sreg (r_go [(0, .d false [.sl none (a0.map (eF eI))]), (1, .d false [.fn F1 K1]), (5, .p (.int .i64 x2)), (7, .p (.int .i64 (a0.length : Int))), (8, .p (.int .i64 x2))] [] [] (by kernel_rfl) trivial) ?_
      replace h := bind_some' h
      obtain ⟨v5, hv5, h⟩ := h
      replace h := bind_some' h
      obtain ⟨v6, hv6, h⟩ := h
      refine k_sreg (r_go [(0, .d false [.sl none (a0.map (eF eI))]), (1, .d false [.fn F1 K1]), (5, .p (.int .i64 x2)), (7, .p (.int .i64 (a0.length : Int))), (8, .p (.int .i64 x2)), (16, .p (.bool v6))] [(3, {row := some [.sl none (v5.map eI)]}), (5, {call := some ([.d false [.sl none (v5.map eI)]], [.p (.bool v6)], true)})] [0 ≤ x2, (a0.map (eF eI))[(Int.toNat x2)]? = some [.sl none (v5.map eI)], ([.d false [.sl none (v5.map eI)]] : List Arg) = [.d false [.sl none (v5.map eI)]], Meets Try.prog F1 ([.d false [.sl none (v5.map eI)]] ++ (K1.map fun (g, cs) => mkA g cs)) { vals := [.p (.bool v6)] }, List.all [.p (.bool v6)] simpleR = true] (by kernel_rfl) ⟨(idxO_some hv5).1, (map_get (eF eI) (idxO_some hv5).2), rfl, (hp1 _ _ hv6), rfl, trivial⟩) ?_
      refine k_cond (b := v6) (by kernel_rfl) (fun hc6_6 => ?_) (fun hc6_6 => ?_)
      · replace h := ite_t hc6_6 h
        refine k_sreg (r_go [(4, .p (.int .i64 x2))] [] [] (by kernel_rfl) trivial) ?_
        refine k_ret ?_
        refine b_r ?_
        refine q_r ?_
        refine lq_r ?_
        refine b_r ?_
        refine q_r ?_
        have hyy := hy_x2 _ (Option.some.inj h).symm
        subst hyy
        have h := hk_x2
        dsimp only [Sum.elim] at h
        obtain rfl := Option.some.inj h
        exact e_ret (ls := [(.p (.int .i64 x2), 4)]) (by kernel_rfl) rfl (by kernel_rfl) rfl
      · replace h := ite_f hc6_6 h
        refine k_skip ?_
        refine b_n ?_
        refine q_n ?_
        refine k_reg (r_go [(0, .d false [.sl none (a0.map (eF eI))]), (1, .d false [.fn F1 K1]), (7, .p (.int .i64 (a0.length : Int))), (8, .p (.int .i64 (w64 (x2 + 1))))] [] [] (by kernel_rfl) trivial) ?_
        exact lq_n (w64 (x2 + 1)) (Option.some.inj h).symm (wk_of (by kernel_rfl) (by kernel_rfl))
    · replace h := ite_f hc5_3 h
      refine k_exit ?_
      refine q_x ?_
      refine lq_x ?_
      refine b_x ?_
      have hyy := hy_x2 _ (Option.some.inj h).symm
      subst hyy
      have h := hk_x2
      dsimp only [Sum.elim] at h
      refine q_n ?_
      exact ⟨(), h, (wk_of (by kernel_rfl) (by kernel_rfl))⟩
theorem wk_slices_ContainsFunc_LLint_Lint_d {a0 : (List (List Int))} {a1 : ((List Int) → Option Bool)} {F1 : FuncId} {K1 : List (Bool × List C)} (hp1 : ∀ x0 y, a1 x0 = some y → Meets Try.prog F1 ([.d false [.sl none (x0.map eI)]] ++ (K1.map fun (g, cs) => mkA g cs)) { vals := [.p (.bool y)] }) {r : Bool} (h : slices_ContainsFunc_LLint_Lint a0 a1 = some r) : Meets Try.prog 100 [.d false [.sl none (a0.map (eF eI))], .d false [.fn F1 K1]] { vals := [.p (.bool r)] } := by
  refine Meets_ofL (by kernel_rfl) Try.func100 rfl (by kernel_rfl) (l0 := [(0, .d false [.sl none (a0.map (eF eI))]), (1, .d false [.fn F1 K1])]) (by kernel_rfl) ?_
  unfold slices_ContainsFunc_LLint_Lint at h
  refine k_sreg (r_go [(0, .d false [.sl none (a0.map (eF eI))]), (1, .d false [.fn F1 K1])] [] [] (by kernel_rfl) trivial) ?_
  replace h := bind_some' h
  obtain ⟨v1, hv1, h⟩ := h
  refine k_sreg (r_go [(4, .p (.bool (decide (v1 ≥ 0))))] [(2, {call := some ([.d false [.sl none (a0.map (eF eI))], .d false [.fn F1 K1]], [.p (.int .i64 v1)], true)})] [([.d false [.sl none (a0.map (eF eI))], .d false [.fn F1 K1]] : List Arg) = [.d false [.sl none (a0.map (eF eI))], .d false [.fn F1 K1]], Meets Try.prog 127 ([.d false [.sl none (a0.map (eF eI))], .d false [.fn F1 K1]] ++ []) { vals := [.p (.int .i64 v1)] }, (!true || List.all [.p (.int .i64 v1)] simpleR) = true] (by kernel_rfl) ⟨rfl, (wk_slices_IndexFunc_LLint_Lint_d hp1 hv1), (bt rfl), trivial⟩) ?_
  refine k_ret ?_
  obtain rfl := Option.some.inj h
  exact e_ret (ls := [(.p (.bool (decide (v1 ≥ 0))), 4)]) (by kernel_rfl) rfl (by kernel_rfl) rfl
theorem wk_slices_IndexFunc_Lint_int_v {a0 : (List Int)} {a1 : (Int → Option Bool)} {F1 : FuncId} (hp1 : ∀ x0 y, a1 x0 = some y → Meets Try.prog F1 ([.v (.int .i64 x0)] ++ []) { vals := [.p (.bool y)] }) {r : Int} (h : slices_IndexFunc_Lint_int a0 a1 = some r) : Meets Try.prog 121 [.d false [.sl none (a0.map eI)], .v (.func (.func F1) #[] #[])] { vals := [.p (.int .i64 r)] } := by
  refine Meets_ofL (by kernel_rfl) Try.func121 rfl (by kernel_rfl) (l0 := [(0, .d false [.sl none (a0.map eI)]), (1, .p (.func (.func F1) #[] #[]))]) (by kernel_rfl) ?_
  unfold slices_IndexFunc_Lint_int at h
  refine k_sreg (r_go [(0, .d false [.sl none (a0.map eI)]), (1, .p (.func (.func F1) #[] #[]))] [] [] (by kernel_rfl) trivial) ?_
  refine k_join (J := fun (x : Unit) => []) (K := fun x => slices_IndexFunc_Lint_int_k1 x = some r) (fun x1 h => ?_) ?_
  · unfold slices_IndexFunc_Lint_int_k1 at h
    refine k_sreg (r_go [(4, .p (.int .i64 (-1)))] [] [] (by kernel_rfl) trivial) ?_
    refine k_ret ?_
    obtain rfl := Option.some.inj h
    exact e_ret (ls := [(.p (.int .i64 (-1)), 4)]) (by kernel_rfl) rfl (by kernel_rfl) rfl
  · refine k_sreg (r_go [(0, .d false [.sl none (a0.map eI)]), (1, .p (.func (.func F1) #[] #[])), (7, .p (.int .i64 (a0.length : Int))), (8, .p (.int .i64 0))] [(1, {n := some a0.length})] [(a0.map eI).length = a0.length] (by kernel_rfl) ⟨(List.length_map ..), trivial⟩) ?_
    refine k_block ?_
    obtain ⟨y3, hl_x2, hk_x2⟩ := bind_some' h
    clear h
    refine k_loop (J := fun (x : Int) => [(0, .d false [.sl none (a0.map eI)]), (1, .p (.func (.func F1) #[] #[])), (7, .p (.int .i64 (a0.length : Int))), (8, .p (.int .i64 x))]) hl_x2 (wk_of (by kernel_rfl) (by kernel_rfl)) (fun x2 o_x2 h hy_x2 => ?_)
    unfold slices_IndexFunc_Lint_int_b1 at h
    refine k_sreg (r_go [(0, .d false [.sl none (a0.map eI)]), (1, .p (.func (.func F1) #[] #[])), (7, .p (.int .i64 (a0.length : Int))), (8, .p (.int .i64 x2)), (9, .p (.bool (decide (x2 < (a0.length : Int)))))] [] [] (by kernel_rfl) trivial) ?_
    refine k_seq ?_
    refine k_cond (b := (decide (x2 < (a0.length : Int)))) (by kernel_rfl) (fun hc5_3 => ?_) (fun hc5_3 => ?_)
    · replace h := ite_t hc5_3 h
      refine k_skip ?_
      refine q_n ?_
      refine k_seq ?_
      refine k_block ?_
      refine k_sreg (r_go [(0, .d false [.sl none (a0.map eI)]), (1, .p (.func (.func F1) #[] #[])), (5, .p (.int .i64 x2)), (7, .p (.int .i64 (a0.length : Int))), (8, .p (.int .i64 x2))] [] [] (by kernel_rfl) trivial) ?_
      replace h := bind_some' h
      obtain ⟨v5, hv5, h⟩ := h
      replace h := bind_some' h
      obtain ⟨v6, hv6, h⟩ := h
      refine k_sreg (r_go [(0, .d false [.sl none (a0.map eI)]), (1, .p (.func (.func F1) #[] #[])), (5, .p (.int .i64 x2)), (7, .p (.int .i64 (a0.length : Int))), (8, .p (.int .i64 x2)), (16, .p (.bool v6))] [(3, {row := some [.raw (.int .i64 v5)]}), (5, {call := some ([.v (.int .i64 v5)], [.p (.bool v6)], true)})] [0 ≤ x2, (a0.map eI)[(Int.toNat x2)]? = some [.raw (.int .i64 v5)], ([.v (.int .i64 v5)] : List Arg) = [.v (.int .i64 v5)], Meets Try.prog F1 ([.v (.int .i64 v5)] ++ []) { vals := [.p (.bool v6)] }, List.all [.p (.bool v6)] simpleR = true] (by kernel_rfl) ⟨(idxO_some hv5).1, (map_get eI (idxO_some hv5).2), rfl, (hp1 _ _ hv6), rfl, trivial⟩) ?_
      refine k_cond (b := v6) (by kernel_rfl) (fun hc6_6 => ?_) (fun hc6_6 => ?_)
      · replace h := ite_t hc6_6 h
        refine k_sreg (r_go [(4, .p (.int .i64 x2))] [] [] (by kernel_rfl) trivial) ?_
        refine k_ret ?_
        refine b_r ?_
        refine q_r ?_
        refine lq_r ?_
        refine b_r ?_
        refine q_r ?_
        have hyy := hy_x2 _ (Option.some.inj h).symm
        subst hyy
        have h := hk_x2
        dsimp only [Sum.elim] at h
        obtain rfl := Option.some.inj h
        exact e_ret (ls := [(.p (.int .i64 x2), 4)]) (by kernel_rfl) rfl (by kernel_rfl) rfl
      · replace h := ite_f hc6_6 h
        refine k_skip ?_
        refine b_n ?_
        refine q_n ?_
        refine k_reg (r_go [(0, .d false [.sl none (a0.map eI)]), (1, .p (.func (.func F1) #[] #[])), (7, .p (.int .i64 (a0.length : Int))), (8, .p (.int .i64 (w64 (x2 + 1))))] [] [] (by kernel_rfl) trivial) ?_
        exact lq_n (w64 (x2 + 1)) (Option.some.inj h).symm (wk_of (by kernel_rfl) (by kernel_rfl))
    · replace h := ite_f hc5_3 h
      refine k_exit ?_
      refine q_x ?_
      refine lq_x ?_
      refine b_x ?_
      have hyy := hy_x2 _ (Option.some.inj h).symm
      subst hyy
      have h := hk_x2
      dsimp only [Sum.elim] at h
      refine q_n ?_
      exact ⟨(), h, (wk_of (by kernel_rfl) (by kernel_rfl))⟩
theorem wk_slices_ContainsFunc_Lint_int_v {a0 : (List Int)} {a1 : (Int → Option Bool)} {F1 : FuncId} (hp1 : ∀ x0 y, a1 x0 = some y → Meets Try.prog F1 ([.v (.int .i64 x0)] ++ []) { vals := [.p (.bool y)] }) {r : Bool} (h : slices_ContainsFunc_Lint_int a0 a1 = some r) : Meets Try.prog 88 [.d false [.sl none (a0.map eI)], .v (.func (.func F1) #[] #[])] { vals := [.p (.bool r)] } := by
  refine Meets_ofL (by kernel_rfl) Try.func88 rfl (by kernel_rfl) (l0 := [(0, .d false [.sl none (a0.map eI)]), (1, .p (.func (.func F1) #[] #[]))]) (by kernel_rfl) ?_
  unfold slices_ContainsFunc_Lint_int at h
  refine k_sreg (r_go [(0, .d false [.sl none (a0.map eI)]), (1, .p (.func (.func F1) #[] #[]))] [] [] (by kernel_rfl) trivial) ?_
  replace h := bind_some' h
  obtain ⟨v1, hv1, h⟩ := h
  refine k_sreg (r_go [(4, .p (.bool (decide (v1 ≥ 0))))] [(2, {call := some ([.d false [.sl none (a0.map eI)], .v (.func (.func F1) #[] #[])], [.p (.int .i64 v1)], true)})] [([.d false [.sl none (a0.map eI)], .v (.func (.func F1) #[] #[])] : List Arg) = [.d false [.sl none (a0.map eI)], .v (.func (.func F1) #[] #[])], Meets Try.prog 121 ([.d false [.sl none (a0.map eI)], .v (.func (.func F1) #[] #[])] ++ []) { vals := [.p (.int .i64 v1)] }, (!true || List.all [.p (.int .i64 v1)] simpleR) = true] (by kernel_rfl) ⟨rfl, (wk_slices_IndexFunc_Lint_int_v hp1 hv1), (bt rfl), trivial⟩) ?_
  refine k_ret ?_
  obtain rfl := Option.some.inj h
  exact e_ret (ls := [(.p (.bool (decide (v1 ≥ 0))), 4)]) (by kernel_rfl) rfl (by kernel_rfl) rfl
theorem wk_impl_isGraph_1_1 {a0 : Int}  {r : Bool} (h : impl_isGraph_1_1 a0 = some r) : Meets Try.prog 102 [.v (.int .i64 a0)] { vals := [.p (.bool r)] } := by
  refine Meets_ofL (by kernel_rfl) Try.func102 rfl (by kernel_rfl) (l0 := [(0, .p (.int .i64 a0))]) (by kernel_rfl) ?_
  unfold impl_isGraph_1_1 at h
  refine k_sreg (r_go [(0, .p (.int .i64 a0))] [] [] (by kernel_rfl) trivial) ?_
  replace h := bind_some' h
  obtain ⟨v1, hv1, h⟩ := h
  refine k_sreg (r_go [(2, .p (.bool (!v1)))] [(1, {call := some ([.v (.int .i64 a0), .v (.int .i64 0), .v (.int .i64 9)], [.p (.bool v1)], true)})] [([.v (.int .i64 a0), .v (.int .i64 0), .v (.int .i64 9)] : List Arg) = [.v (.int .i64 a0), .v (.int .i64 0), .v (.int .i64 9)], Meets Try.prog 76 ([.v (.int .i64 a0), .v (.int .i64 0), .v (.int .i64 9)] ++ []) { vals := [.p (.bool v1)] }, (!true || List.all [.p (.bool v1)] simpleR) = true] (by kernel_rfl) ⟨rfl, (wk_impl_within hv1), (bt rfl), trivial⟩) ?_
  refine k_ret ?_
  obtain rfl := Option.some.inj h
  exact e_ret (ls := [(.p (.bool (!v1)), 2)]) (by kernel_rfl) rfl (by kernel_rfl) rfl
theorem wk_impl_isGraph_1 {a0 : (List Int)} {c0 : (List (List Int))}  {r : Bool} (h : impl_isGraph_1 a0 c0 = some r) : Meets Try.prog 101 [.d false [.sl none (a0.map eI)], .d false [.pt [.sl none (c0.map (eF eI))]]] { vals := [.p (.bool r)] } := by
  refine Meets_ofL (by kernel_rfl) Try.func101 rfl (by kernel_rfl) (l0 := [(0, .d false [.sl none (a0.map eI)]), (1, .d false [.pt [.sl none (c0.map (eF eI))]])]) (by kernel_rfl) ?_
  unfold impl_isGraph_1 at h
  refine k_sreg (r_go [(0, .d false [.sl none (a0.map eI)]), (1, .d false [.pt [.sl none (c0.map (eF eI))]])] [] [] (by kernel_rfl) trivial) ?_
  replace h := bind_some' h
  obtain ⟨w2, hw2, h⟩ := h
  refine k_sreg (l1 := [(3, .p (.bool w2))]) ?_ ?_
  · clear h
    rcases Bool.eq_false_or_eq_true ((a0.length : Int) != (c0.length : Int)) with ha0 | ha0
    · replace hw2 := ite_t ha0 hw2
      have hw2 := Option.some.inj hw2
      subst hw2
      exact (r_go [(3, .p (.bool true))] [(1, {n := some a0.length}), (3, {n := some c0.length}), (6, {g := some true}), (7, {g := some true}), (8, {b := some true})] [(a0.map eI).length = a0.length, (c0.map (eF eI)).length = c0.length, ((a0.length : Int) != (c0.length : Int)) = true, ((a0.length : Int) != (c0.length : Int)) = true, ((a0.length : Int) != (c0.length : Int)) = true] (by kernel_rfl) ⟨(List.length_map ..), (List.length_map ..), ha0, ha0, ha0, trivial⟩)
    · replace hw2 := ite_f ha0 hw2
      replace hw2 := bind_some' hw2
      obtain ⟨v1, hv1, hw2⟩ := hw2
      have hw2 := Option.some.inj hw2
      subst hw2
      exact (r_go [(3, .p (.bool v1))] [(1, {n := some a0.length}), (3, {n := some c0.length}), (6, {g := some false}), (7, {g := some false, call := some ([.d false [.sl none (a0.map eI)], .v (.func (.func 102) #[] #[])], [.p (.bool v1)], true)}), (8, {b := some false})] [(a0.map eI).length = a0.length, (c0.map (eF eI)).length = c0.length, ((a0.length : Int) != (c0.length : Int)) = false, ((a0.length : Int) != (c0.length : Int)) = false, ([.d false [.sl none (a0.map eI)], .v (.func (.func 102) #[] #[])] : List Arg) = [.d false [.sl none (a0.map eI)], .v (.func (.func 102) #[] #[])], Meets Try.prog 88 ([.d false [.sl none (a0.map eI)], .v (.func (.func 102) #[] #[])] ++ []) { vals := [.p (.bool v1)] }, (!true || List.all [.p (.bool v1)] simpleR) = true, ((a0.length : Int) != (c0.length : Int)) = false] (by kernel_rfl) ⟨(List.length_map ..), (List.length_map ..), ha0, ha0, rfl, (wk_slices_ContainsFunc_Lint_int_v (fun x0 y hy => wk_impl_isGraph_1_1 hy) hv1), (bt rfl), ha0, trivial⟩)
  · refine k_ret ?_
    obtain rfl := Option.some.inj h
    exact e_ret (ls := [(.p (.bool w2), 3)]) (by kernel_rfl) rfl (by kernel_rfl) rfl
theorem wk_impl_isGraph {a0 : (List (List Int))}  {r : Bool} (h : impl_isGraph a0 = some r) : Meets Try.prog 68 [.d false [.sl none (a0.map (eF eI))]] { vals := [.p (.bool r)] } := by
  refine Meets_ofL (by kernel_rfl) Try.func68 rfl (by kernel_rfl) (l0 := [(0, .d false [.sl none (a0.map (eF eI))])]) (by kernel_rfl) ?_
  unfold impl_isGraph at h
  refine k_sreg (r_go [(1, .box [.sl none (a0.map (eF eI))])] [] [] (by kernel_rfl) trivial) ?_
  refine k_frz 1 [.sl none (a0.map (eF eI))] [.sl none (a0.map (eF eI))] [(1, .d false [.pt [.sl none (a0.map (eF eI))]])] (by kernel_rfl) (erc_sl (eraL_enc (era_F er_I)) rfl) (by kernel_rfl) (by kernel_rfl) ?_
  replace h := bind_some' h
  obtain ⟨v1, hv1, h⟩ := h
  replace h := bind_some' h
  obtain ⟨w3, hw3, h⟩ := h
  refine k_sreg (l1 := [(2, .p (.bool w3))]) ?_ ?_
  · clear h
    rcases Bool.eq_false_or_eq_true v1 with ha0 | ha0
    · replace hw3 := ite_t ha0 hw3
      replace hw3 := bind_some' hw3
      obtain ⟨v2, hv2, hw3⟩ := hw3
      have hw3 := Option.some.inj hw3
      subst hw3
      exact (r_go [(2, .p (.bool (!v2)))] [(1, {n := some a0.length}), (2, {call := some ([.v (.int .i64 (a0.length : Int)), .v (.int .i64 1), .v (.int .i64 8)], [.p (.bool v1)], true)}), (4, {g := some true}), (5, {g := some true}), (6, {g := some true, call := some ([.d false [.sl none (a0.map (eF eI))], .d false [.fn 101 [(false, [.pt [.sl none (a0.map (eF eI))]])]]], [.p (.bool v2)], true)}), (7, {g := some true}), (8, {b := some true})] [(a0.map (eF eI)).length = a0.length, ([.v (.int .i64 (a0.length : Int)), .v (.int .i64 1), .v (.int .i64 8)] : List Arg) = [.v (.int .i64 (a0.length : Int)), .v (.int .i64 1), .v (.int .i64 8)], Meets Try.prog 76 ([.v (.int .i64 (a0.length : Int)), .v (.int .i64 1), .v (.int .i64 8)] ++ []) { vals := [.p (.bool v1)] }, (!true || List.all [.p (.bool v1)] simpleR) = true, v1 = true, v1 = true, v1 = true, ([.d false [.sl none (a0.map (eF eI))], .d false [.fn 101 [(false, [.pt [.sl none (a0.map (eF eI))]])]]] : List Arg) = [.d false [.sl none (a0.map (eF eI))], .d false [.fn 101 [(false, [.pt [.sl none (a0.map (eF eI))]])]]], Meets Try.prog 100 ([.d false [.sl none (a0.map (eF eI))], .d false [.fn 101 [(false, [.pt [.sl none (a0.map (eF eI))]])]]] ++ []) { vals := [.p (.bool v2)] }, (!true || List.all [.p (.bool v2)] simpleR) = true, v1 = true, v1 = true] (by kernel_rfl) ⟨(List.length_map ..), rfl, (wk_impl_within hv1), (bt rfl), ha0, ha0, ha0, rfl, (wk_slices_ContainsFunc_LLint_Lint_d (fun x0 y hy => wk_impl_isGraph_1 hy) hv2), (bt rfl), ha0, ha0, trivial⟩)
    · replace hw3 := ite_f ha0 hw3
      have hw3 := Option.some.inj hw3
      subst hw3
      exact (r_go [(2, .p (.bool false))] [(1, {n := some a0.length}), (2, {call := some ([.v (.int .i64 (a0.length : Int)), .v (.int .i64 1), .v (.int .i64 8)], [.p (.bool v1)], true)}), (4, {g := some false}), (5, {g := some false}), (6, {g := some false}), (7, {g := some false}), (8, {b := some false})] [(a0.map (eF eI)).length = a0.length, ([.v (.int .i64 (a0.length : Int)), .v (.int .i64 1), .v (.int .i64 8)] : List Arg) = [.v (.int .i64 (a0.length : Int)), .v (.int .i64 1), .v (.int .i64 8)], Meets Try.prog 76 ([.v (.int .i64 (a0.length : Int)), .v (.int .i64 1), .v (.int .i64 8)] ++ []) { vals := [.p (.bool v1)] }, (!true || List.all [.p (.bool v1)] simpleR) = true, v1 = false, v1 = false, v1 = false, v1 = false, v1 = false] (by kernel_rfl) ⟨(List.length_map ..), rfl, (wk_impl_within hv1), (bt rfl), ha0, ha0, ha0, ha0, ha0, trivial⟩)
  · refine k_ret ?_
    obtain rfl := Option.some.inj h
    exact e_ret (ls := [(.p (.bool w3), 2)]) (by kernel_rfl) rfl (by kernel_rfl) rfl
theorem wk_impl_emptyGraph {a0 : Int}  {r : (List (List Int))} (h : impl_emptyGraph a0 = some r) : Meets Try.prog 113 [.v (.int .i64 a0)] { vals := [.ov false [.sl (some 22) (r.map (eO 3 eI))]] } := by
  refine Meets_ofL (by kernel_rfl) Try.func113 rfl (by kernel_rfl) (l0 := [(0, .p (.int .i64 a0))]) (by kernel_rfl) ?_
  unfold impl_emptyGraph at h
  refine k_sreg (r_go [(0, .p (.int .i64 a0))] [] [] (by kernel_rfl) trivial) ?_
  replace h := bind_some' h
  obtain ⟨u1, hu1, h⟩ := h
  refine k_sreg (r_go [(0, .p (.int .i64 a0)), (3, .ov false [.sl (some 22) ((List.replicate (Int.toNat a0) ([] : (List Int))).map (eO 3 eI))])] [(1, {fix := some (6, .ov false [.sl (some 22) ((List.replicate (Int.toNat a0) ([] : (List Int))).map (eO 3 eI))])})] [a0 = a0, 0 ≤ a0, a0 ≤ 1099511627776, (SV.ov false [.sl (some 22) (List.replicate (Int.toNat a0) [.sl (some 3) []])] : SV) = .ov false [.sl (some 22) ((List.replicate (Int.toNat a0) ([] : (List Int))).map (eO 3 eI))]] (by kernel_rfl) ⟨rfl, (guardO_some hu1).1, (guardO_some hu1).2, (congrArg (fun z => SV.ov false [.sl (some 22) z]) (rep_fix (eO 3 eI) ([] : (List Int)))), trivial⟩) ?_
  refine k_join (J := fun (x : (List (List Int))) => [(3, .ov false [.sl (some 22) (x.map (eO 3 eI))])]) (K := fun x => impl_emptyGraph_k1 x = some r) (fun x2 h => ?_) ?_
  · unfold impl_emptyGraph_k1 at h
    refine k_sreg (r_go [(2, .ov false [.sl (some 22) (x2.map (eO 3 eI))])] [] [] (by kernel_rfl) trivial) ?_
    refine k_ret ?_
    obtain rfl := Option.some.inj h
    exact e_ret (ls := [(.ov false [.sl (some 22) (x2.map (eO 3 eI))], 2)]) (by kernel_rfl) rfl (by kernel_rfl) rfl
  · refine k_sreg (r_go [(0, .p (.int .i64 a0)), (3, .ov false [.sl (some 22) ((List.replicate (Int.toNat a0) ([] : (List Int))).map (eO 3 eI))]), (8, .p (.int .i64 ((List.replicate (Int.toNat a0) ([] : (List Int))).length : Int))), (9, .p (.int .i64 0))] [(1, {n := some (List.replicate (Int.toNat a0) ([] : (List Int))).length})] [((List.replicate (Int.toNat a0) ([] : (List Int))).map (eO 3 eI)).length = (List.replicate (Int.toNat a0) ([] : (List Int))).length] (by kernel_rfl) ⟨(List.length_map ..), trivial⟩) ?_
    refine k_block ?_
    obtain ⟨y4, hl_x3, hk_x3⟩ := bind_some' h
    clear h
    refine k_loop (J := fun (x : ((List (List Int)) × Int)) => [(0, .p (.int .i64 a0)), (3, .ov false [.sl (some 22) (x.1.map (eO 3 eI))]), (8, .p (.int .i64 ((List.replicate (Int.toNat a0) ([] : (List Int))).length : Int))), (9, .p (.int .i64 x.2))]) hl_x3 (wk_of (by kernel_rfl) (by kernel_rfl)) (fun x3 o_x3 h hy_x3 => ?_)
    unfold impl_emptyGraph_b1 at h
    refine k_sreg (r_go [(0, .p (.int .i64 a0)), (3, .ov false [.sl (some 22) (x3.1.map (eO 3 eI))]), (8, .p (.int .i64 ((List.replicate (Int.toNat a0) ([] : (List Int))).length : Int))), (9, .p (.int .i64 x3.2)), (10, .p (.bool (decide (x3.2 < ((List.replicate (Int.toNat a0) ([] : (List Int))).length : Int)))))] [] [] (by kernel_rfl) trivial) ?_
    refine k_seq ?_
    refine k_cond (b := (decide (x3.2 < ((List.replicate (Int.toNat a0) ([] : (List Int))).length : Int)))) (by kernel_rfl) (fun hc5_4 => ?_) (fun hc5_4 => ?_)
    · replace h := ite_t hc5_4 h
      refine k_skip ?_
      refine q_n ?_
      refine k_seq ?_
      refine k_block ?_
      refine k_sreg (r_go [(0, .p (.int .i64 a0)), (3, .ov false [.sl (some 22) (x3.1.map (eO 3 eI))]), (4, .p (.int .i64 x3.2)), (8, .p (.int .i64 ((List.replicate (Int.toNat a0) ([] : (List Int))).length : Int))), (9, .p (.int .i64 x3.2))] [] [] (by kernel_rfl) trivial) ?_
      replace h := bind_some' h
      obtain ⟨v6, hv6, h⟩ := h
      refine k_reg (r_go [(0, .p (.int .i64 a0)), (3, .ov false [.sl (some 22) ((x3.1.set (Int.toNat x3.2) (List.replicate (Int.toNat a0) (0 : Int))).map (eO 3 eI))]), (8, .p (.int .i64 ((List.replicate (Int.toNat a0) ([] : (List Int))).length : Int))), (9, .p (.int .i64 x3.2))] [(3, {fix := some (15, .ov false [.sl (some 3) ((List.replicate (Int.toNat a0) (0 : Int)).map eI)])}), (4, {row := some [.sl (some 3) (v6.map eI)]}), (5, {row := some [.sl (some 3) (v6.map eI)], fix := some (3, .ov false [.sl (some 22) ((x3.1.set (Int.toNat x3.2) (List.replicate (Int.toNat a0) (0 : Int))).map (eO 3 eI))])})] [a0 = a0, 0 ≤ a0, a0 ≤ 1099511627776, (SV.ov false [.sl (some 3) (List.replicate (Int.toNat a0) [.raw (.int .i64 0)])] : SV) = .ov false [.sl (some 3) ((List.replicate (Int.toNat a0) (0 : Int)).map eI)], 0 ≤ x3.2, (x3.1.map (eO 3 eI))[(Int.toNat x3.2)]? = some [.sl (some 3) (v6.map eI)], getRow [[.sl (some 22) (x3.1.map (eO 3 eI))]] [(0, 0), ((Int.toNat x3.2), 0)] = some [.sl (some 3) (v6.map eI)], (SV.ov false [.sl (some 22) (setL (x3.1.map (eO 3 eI)) [((Int.toNat x3.2), 0)] [.sl (some 3) ((List.replicate (Int.toNat a0) (0 : Int)).map eI)])] : SV) = .ov false [.sl (some 22) ((x3.1.set (Int.toNat x3.2) (List.replicate (Int.toNat a0) (0 : Int))).map (eO 3 eI))]] (by kernel_rfl) ⟨rfl, (guardO_some hu1).1, (guardO_some hu1).2, (congrArg (fun z => SV.ov false [.sl (some 3) z]) (rep_fix eI (0 : Int))), (idxO_some hv6).1, (map_get (eO 3 eI) (idxO_some hv6).2), ((gr0 rfl).trans (gre (map_get (eO 3 eI) (idxO_some hv6).2))), (congrArg (fun z => SV.ov false [.sl (some 22) z]) (set1 (f := (eO 3 eI)) (y := (List.replicate (Int.toNat a0) (0 : Int))) (idxO_some hv6).2 rfl)), trivial⟩) ?_
      refine b_n ?_
      refine q_n ?_
      refine k_reg (r_go [(0, .p (.int .i64 a0)), (3, .ov false [.sl (some 22) ((x3.1.set (Int.toNat x3.2) (List.replicate (Int.toNat a0) (0 : Int))).map (eO 3 eI))]), (8, .p (.int .i64 ((List.replicate (Int.toNat a0) ([] : (List Int))).length : Int))), (9, .p (.int .i64 (w64 (x3.2 + 1))))] [] [] (by kernel_rfl) trivial) ?_
      exact lq_n ((x3.1.set (Int.toNat x3.2) (List.replicate (Int.toNat a0) (0 : Int))), (w64 (x3.2 + 1))) (Option.some.inj h).symm (wk_of (by kernel_rfl) (by kernel_rfl))
    · replace h := ite_f hc5_4 h
      refine k_exit ?_
      refine q_x ?_
      refine lq_x ?_
      refine b_x ?_
      have hyy := hy_x3 _ (Option.some.inj h).symm
      subst hyy
      have h := hk_x3
      refine q_n ?_
      exact ⟨x3.1, h, (wk_of (by kernel_rfl) (by kernel_rfl))⟩
theorem wk_impl_characteristic {a0 : (List (List Int))}  {r : (List Int)} (h : impl_characteristic a0 = some r) : Meets Try.prog 81 [.d false [.sl none (a0.map (eF eI))]] { vals := [.ov false [.sl (some 3) (r.map eI)]] } := by
  refine Meets_ofL (by kernel_rfl) Try.func81 rfl (by kernel_rfl) (l0 := [(0, .d false [.sl none (a0.map (eF eI))])]) (by kernel_rfl) ?_
  unfold impl_characteristic at h
  refine k_sreg (r_go [(0, .d false [.sl none (a0.map (eF eI))])] [] [] (by kernel_rfl) trivial) ?_
  refine k_sreg (r_go [(0, .d false [.sl none (a0.map (eF eI))]), (3, .p (.int .i64 (a0.length : Int)))] [(1, {n := some a0.length})] [(a0.map (eF eI)).length = a0.length] (by kernel_rfl) ⟨(List.length_map ..), trivial⟩) ?_
  replace h := bind_some' h
  obtain ⟨u1, hu1, h⟩ := h
  refine k_sreg (r_go [(0, .d false [.sl none (a0.map (eF eI))]), (3, .p (.int .i64 (a0.length : Int))), (4, .ov false [.sl (some 3) ((List.replicate (Int.toNat (w64 ((a0.length : Int) + 1))) (0 : Int)).map eI)])] [(2, {fix := some (17, .ov false [.sl (some 3) ((List.replicate (Int.toNat (w64 ((a0.length : Int) + 1))) (0 : Int)).map eI)])})] [(w64 ((a0.length : Int) + 1)) = (w64 ((a0.length : Int) + 1)), 0 ≤ (w64 ((a0.length : Int) + 1)), (w64 ((a0.length : Int) + 1)) ≤ 1099511627776, (SV.ov false [.sl (some 3) (List.replicate (Int.toNat (w64 ((a0.length : Int) + 1))) [.raw (.int .i64 0)])] : SV) = .ov false [.sl (some 3) ((List.replicate (Int.toNat (w64 ((a0.length : Int) + 1))) (0 : Int)).map eI)]] (by kernel_rfl) ⟨rfl, (guardO_some hu1).1, (guardO_some hu1).2, (congrArg (fun z => SV.ov false [.sl (some 3) z]) (rep_fix eI (0 : Int))), trivial⟩) ?_
  replace h := bind_some' h
  obtain ⟨v2, hv2, h⟩ := h
  refine k_sreg (r_go [(0, .d false [.sl none (a0.map (eF eI))]), (3, .p (.int .i64 (a0.length : Int))), (4, .ov false [.sl (some 3) (((List.replicate (Int.toNat (w64 ((a0.length : Int) + 1))) (0 : Int)).set (Int.toNat (a0.length : Int)) 1).map eI)])] [(2, {row := some [.raw (.int .i64 v2)]}), (3, {row := some [.raw (.int .i64 v2)], fix := some (4, .ov false [.sl (some 3) (((List.replicate (Int.toNat (w64 ((a0.length : Int) + 1))) (0 : Int)).set (Int.toNat (a0.length : Int)) 1).map eI)])})] [0 ≤ (a0.length : Int), ((List.replicate (Int.toNat (w64 ((a0.length : Int) + 1))) (0 : Int)).map eI)[(Int.toNat (a0.length : Int))]? = some [.raw (.int .i64 v2)], getRow [[.sl (some 3) ((List.replicate (Int.toNat (w64 ((a0.length : Int) + 1))) (0 : Int)).map eI)]] [(0, 0), ((Int.toNat (a0.length : Int)), 0)] = some [.raw (.int .i64 v2)], (SV.ov false [.sl (some 3) (setL ((List.replicate (Int.toNat (w64 ((a0.length : Int) + 1))) (0 : Int)).map eI) [((Int.toNat (a0.length : Int)), 0)] [.raw (.int .i64 1)])] : SV) = .ov false [.sl (some 3) (((List.replicate (Int.toNat (w64 ((a0.length : Int) + 1))) (0 : Int)).set (Int.toNat (a0.length : Int)) 1).map eI)]] (by kernel_rfl) ⟨(idxO_some hv2).1, (map_get eI (idxO_some hv2).2), ((gr0 rfl).trans (gre (map_get eI (idxO_some hv2).2))), (congrArg (fun z => SV.ov false [.sl (some 3) z]) (set1 (f := eI) (y := 1) (idxO_some hv2).2 rfl)), trivial⟩) ?_
  replace h := bind_some' h
  obtain ⟨v3, hv3, h⟩ := h
  refine k_sreg (r_go [(0, .d false [.sl none (a0.map (eF eI))]), (3, .p (.int .i64 (a0.length : Int))), (4, .ov false [.sl (some 3) (((List.replicate (Int.toNat (w64 ((a0.length : Int) + 1))) (0 : Int)).set (Int.toNat (a0.length : Int)) 1).map eI)]), (5, .ov false [.sl (some 22) (v3.map (eO 3 eI))])] [(1, {call := some ([.v (.int .i64 (a0.length : Int))], [.ov false [.sl (some 22) (v3.map (eO 3 eI))]], true)})] [([.v (.int .i64 (a0.length : Int))] : List Arg) = [.v (.int .i64 (a0.length : Int))], Meets Try.prog 113 ([.v (.int .i64 (a0.length : Int))] ++ []) { vals := [.ov false [.sl (some 22) (v3.map (eO 3 eI))]] }, (!true || List.all [.ov false [.sl (some 22) (v3.map (eO 3 eI))]] simpleR) = true] (by kernel_rfl) ⟨rfl, (wk_impl_emptyGraph hv3), (bt (sa_o (wnR1 (wnL_enc (wn_O wn_I)) rfl) rfl)), trivial⟩) ?_
  refine k_join (J := fun (x : (List Int)) => [(4, .ov false [.sl (some 3) (x.map eI)])]) (K := fun x => impl_characteristic_k1 x = some r) (fun x4 h => ?_) ?_
  · unfold impl_characteristic_k1 at h
    refine k_sreg (r_go [(2, .ov false [.sl (some 3) (x4.map eI)])] [] [] (by kernel_rfl) trivial) ?_
    refine k_ret ?_
    obtain rfl := Option.some.inj h
    exact e_ret (ls := [(.ov false [.sl (some 3) (x4.map eI)], 2)]) (by kernel_rfl) rfl (by kernel_rfl) rfl
  · refine k_sreg (r_go [(0, .d false [.sl none (a0.map (eF eI))]), (3, .p (.int .i64 (a0.length : Int))), (4, .ov false [.sl (some 3) (((List.replicate (Int.toNat (w64 ((a0.length : Int) + 1))) (0 : Int)).set (Int.toNat (a0.length : Int)) 1).map eI)]), (5, .ov false [.sl (some 22) (v3.map (eO 3 eI))]), (6, .p (.int .i64 1))] [] [] (by kernel_rfl) trivial) ?_
    refine k_block ?_
    obtain ⟨y6, hl_x5, hk_x5⟩ := bind_some' h
    clear h
    refine k_loop (J := fun (x : ((List Int) × (List (List Int)) × Int)) => [(0, .d false [.sl none (a0.map (eF eI))]), (3, .p (.int .i64 (a0.length : Int))), (4, .ov false [.sl (some 3) (x.1.map eI)]), (5, .ov false [.sl (some 22) (x.2.1.map (eO 3 eI))]), (6, .p (.int .i64 x.2.2))]) hl_x5 (wk_of (by kernel_rfl) (by kernel_rfl)) (fun x5 o_x5 h hy_x5 => ?_)
    unfold impl_characteristic_b1 at h
    refine k_seq ?_
    refine k_sreg (r_go [(0, .d false [.sl none (a0.map (eF eI))]), (3, .p (.int .i64 (a0.length : Int))), (4, .ov false [.sl (some 3) (x5.1.map eI)]), (5, .ov false [.sl (some 22) (x5.2.1.map (eO 3 eI))]), (6, .p (.int .i64 x5.2.2)), (25, .p (.bool (decide (x5.2.2 ≤ (a0.length : Int)))))] [] [] (by kernel_rfl) trivial) ?_
    refine k_cond (b := (decide (x5.2.2 ≤ (a0.length : Int)))) (by kernel_rfl) (fun hc5_6 => ?_) (fun hc5_6 => ?_)
    · replace h := ite_t hc5_6 h
      refine k_skip ?_
      refine q_n ?_
      refine k_join (J := fun (x : ((List Int) × (List (List Int)))) => [(0, .d false [.sl none (a0.map (eF eI))]), (3, .p (.int .i64 (a0.length : Int))), (4, .ov false [.sl (some 3) (x.1.map eI)]), (5, .ov false [.sl (some 22) (x.2.map (eO 3 eI))]), (6, .p (.int .i64 x5.2.2))]) (K := fun x => impl_characteristic_k2 x5 x = some o_x5) (fun x8 h => ?_) ?_
      · unfold impl_characteristic_k2 at h
        refine k_reg (r_go [(0, .d false [.sl none (a0.map (eF eI))]), (3, .p (.int .i64 (a0.length : Int))), (4, .ov false [.sl (some 3) (x8.1.map eI)]), (5, .ov false [.sl (some 22) (x8.2.map (eO 3 eI))]), (6, .p (.int .i64 (w64 (x5.2.2 + 1))))] [] [] (by kernel_rfl) trivial) ?_
        exact lq_n (x8.1, x8.2, (w64 (x5.2.2 + 1))) (Option.some.inj h).symm (wk_of (by kernel_rfl) (by kernel_rfl))
      · refine k_block ?_
        refine k_join (J := fun (x : (List (List Int))) => [(0, .d false [.sl none (a0.map (eF eI))]), (3, .p (.int .i64 (a0.length : Int))), (4, .ov false [.sl (some 3) (x5.1.map eI)]), (5, .ov false [.sl (some 22) (x.map (eO 3 eI))]), (6, .p (.int .i64 x5.2.2))]) (K := fun x => impl_characteristic_k3 a0 x5 x = some o_x5) (fun x9 h => ?_) ?_
        · unfold impl_characteristic_k3 at h
          replace h := bind_some' h
          obtain ⟨v10, hv10, h⟩ := h
          refine k_sreg (r_go [(0, .d false [.sl none (a0.map (eF eI))]), (3, .p (.int .i64 (a0.length : Int))), (4, .ov false [.sl (some 3) (x5.1.map eI)]), (5, .ov false [.sl (some 22) (x9.map (eO 3 eI))]), (6, .p (.int .i64 x5.2.2)), (8, .ov false [.sl (some 22) (v10.map (eO 3 eI))]), (9, .p (.int .i64 0))] [(1, {call := some ([.v (.int .i64 (a0.length : Int))], [.ov false [.sl (some 22) (v10.map (eO 3 eI))]], true)})] [([.v (.int .i64 (a0.length : Int))] : List Arg) = [.v (.int .i64 (a0.length : Int))], Meets Try.prog 113 ([.v (.int .i64 (a0.length : Int))] ++ []) { vals := [.ov false [.sl (some 22) (v10.map (eO 3 eI))]] }, (!true || List.all [.ov false [.sl (some 22) (v10.map (eO 3 eI))]] simpleR) = true] (by kernel_rfl) ⟨rfl, (wk_impl_emptyGraph hv10), (bt (sa_o (wnR1 (wnL_enc (wn_O wn_I)) rfl) rfl)), trivial⟩) ?_
          refine k_join (J := fun (x : ((List (List Int)) × Int)) => [(0, .d false [.sl none (a0.map (eF eI))]), (3, .p (.int .i64 (a0.length : Int))), (4, .ov false [.sl (some 3) (x5.1.map eI)]), (6, .p (.int .i64 x5.2.2)), (8, .ov false [.sl (some 22) (x.1.map (eO 3 eI))]), (9, .p (.int .i64 x.2))]) (K := fun x => impl_characteristic_k4 a0 x5 x = some o_x5) (fun x11 h => ?_) ?_
          · unfold impl_characteristic_k4 at h
            replace h := bind_some' h
            obtain ⟨u12, hu12, h⟩ := h
            replace h := bind_some' h
            obtain ⟨v13, hv13, h⟩ := h
            refine k_sreg (r_go [(0, .d false [.sl none (a0.map (eF eI))]), (3, .p (.int .i64 (a0.length : Int))), (4, .ov false [.sl (some 3) ((x5.1.set (Int.toNat (w64 ((a0.length : Int) - x5.2.2))) (w64 (Int.tdiv (w64 (0 - x11.2)) x5.2.2))).map eI)]), (6, .p (.int .i64 x5.2.2)), (8, .ov false [.sl (some 22) (x11.1.map (eO 3 eI))])] [(8, {row := some [.raw (.int .i64 v13)]}), (9, {row := some [.raw (.int .i64 v13)], fix := some (4, .ov false [.sl (some 3) ((x5.1.set (Int.toNat (w64 ((a0.length : Int) - x5.2.2))) (w64 (Int.tdiv (w64 (0 - x11.2)) x5.2.2))).map eI)])})] [x5.2.2 ≠ (0 : Int), 0 ≤ (w64 ((a0.length : Int) - x5.2.2)), (x5.1.map eI)[(Int.toNat (w64 ((a0.length : Int) - x5.2.2)))]? = some [.raw (.int .i64 v13)], getRow [[.sl (some 3) (x5.1.map eI)]] [(0, 0), ((Int.toNat (w64 ((a0.length : Int) - x5.2.2))), 0)] = some [.raw (.int .i64 v13)], (SV.ov false [.sl (some 3) (setL (x5.1.map eI) [((Int.toNat (w64 ((a0.length : Int) - x5.2.2))), 0)] [.raw (.int .i64 (w64 (Int.tdiv (w64 (0 - x11.2)) x5.2.2)))])] : SV) = .ov false [.sl (some 3) ((x5.1.set (Int.toNat (w64 ((a0.length : Int) - x5.2.2))) (w64 (Int.tdiv (w64 (0 - x11.2)) x5.2.2))).map eI)]] (by kernel_rfl) ⟨(guardO_some hu12), (idxO_some hv13).1, (map_get eI (idxO_some hv13).2), ((gr0 rfl).trans (gre (map_get eI (idxO_some hv13).2))), (congrArg (fun z => SV.ov false [.sl (some 3) z]) (set1 (f := eI) (y := (w64 (Int.tdiv (w64 (0 - x11.2)) x5.2.2))) (idxO_some hv13).2 rfl)), trivial⟩) ?_
            refine k_reg (r_go [(0, .d false [.sl none (a0.map (eF eI))]), (3, .p (.int .i64 (a0.length : Int))), (4, .ov false [.sl (some 3) ((x5.1.set (Int.toNat (w64 ((a0.length : Int) - x5.2.2))) (w64 (Int.tdiv (w64 (0 - x11.2)) x5.2.2))).map eI)]), (5, .ov false [.sl (some 22) (x11.1.map (eO 3 eI))]), (6, .p (.int .i64 x5.2.2))] [] [] (by kernel_rfl) trivial) ?_
            refine b_n ?_
            refine q_n ?_
            exact ⟨((x5.1.set (Int.toNat (w64 ((a0.length : Int) - x5.2.2))) (w64 (Int.tdiv (w64 (0 - x11.2)) x5.2.2))), x11.1), h, (wk_of (by kernel_rfl) (by kernel_rfl))⟩
          · refine k_sreg (r_go [(0, .d false [.sl none (a0.map (eF eI))]), (3, .p (.int .i64 (a0.length : Int))), (4, .ov false [.sl (some 3) (x5.1.map eI)]), (5, .ov false [.sl (some 22) (x9.map (eO 3 eI))]), (6, .p (.int .i64 x5.2.2)), (8, .ov false [.sl (some 22) (v10.map (eO 3 eI))]), (9, .p (.int .i64 0)), (53, .p (.int .i64 (a0.length : Int))), (54, .p (.int .i64 0))] [(1, {n := some a0.length})] [(a0.map (eF eI)).length = a0.length] (by kernel_rfl) ⟨(List.length_map ..), trivial⟩) ?_
            refine k_block ?_
            obtain ⟨y15, hl_x14, hk_x14⟩ := bind_some' h
            clear h
            refine k_loop (J := fun (x : ((List (List Int)) × Int × Int)) => [(0, .d false [.sl none (a0.map (eF eI))]), (3, .p (.int .i64 (a0.length : Int))), (4, .ov false [.sl (some 3) (x5.1.map eI)]), (5, .ov false [.sl (some 22) (x9.map (eO 3 eI))]), (6, .p (.int .i64 x5.2.2)), (8, .ov false [.sl (some 22) (x.1.map (eO 3 eI))]), (9, .p (.int .i64 x.2.1)), (53, .p (.int .i64 (a0.length : Int))), (54, .p (.int .i64 x.2.2))]) hl_x14 (wk_of (by kernel_rfl) (by kernel_rfl)) (fun x14 o_x14 h hy_x14 => ?_)
            unfold impl_characteristic_b2 at h
            refine k_sreg (r_go [(0, .d false [.sl none (a0.map (eF eI))]), (3, .p (.int .i64 (a0.length : Int))), (4, .ov false [.sl (some 3) (x5.1.map eI)]), (5, .ov false [.sl (some 22) (x9.map (eO 3 eI))]), (6, .p (.int .i64 x5.2.2)), (8, .ov false [.sl (some 22) (x14.1.map (eO 3 eI))]), (9, .p (.int .i64 x14.2.1)), (53, .p (.int .i64 (a0.length : Int))), (54, .p (.int .i64 x14.2.2)), (55, .p (.bool (decide (x14.2.2 < (a0.length : Int)))))] [] [] (by kernel_rfl) trivial) ?_
            refine k_seq ?_
            refine k_cond (b := (decide (x14.2.2 < (a0.length : Int)))) (by kernel_rfl) (fun hc10_15 => ?_) (fun hc10_15 => ?_)
            · replace h := ite_t hc10_15 h
              refine k_skip ?_
              refine q_n ?_
              refine k_join (J := fun (x : ((List (List Int)) × Int)) => [(0, .d false [.sl none (a0.map (eF eI))]), (3, .p (.int .i64 (a0.length : Int))), (4, .ov false [.sl (some 3) (x5.1.map eI)]), (5, .ov false [.sl (some 22) (x9.map (eO 3 eI))]), (6, .p (.int .i64 x5.2.2)), (8, .ov false [.sl (some 22) (x.1.map (eO 3 eI))]), (9, .p (.int .i64 x.2)), (53, .p (.int .i64 (a0.length : Int))), (54, .p (.int .i64 x14.2.2))]) (K := fun x => impl_characteristic_k5 x14 x = some o_x14) (fun x17 h => ?_) ?_
              · unfold impl_characteristic_k5 at h
                refine k_reg (r_go [(0, .d false [.sl none (a0.map (eF eI))]), (3, .p (.int .i64 (a0.length : Int))), (4, .ov false [.sl (some 3) (x5.1.map eI)]), (5, .ov false [.sl (some 22) (x9.map (eO 3 eI))]), (6, .p (.int .i64 x5.2.2)), (8, .ov false [.sl (some 22) (x17.1.map (eO 3 eI))]), (9, .p (.int .i64 x17.2)), (53, .p (.int .i64 (a0.length : Int))), (54, .p (.int .i64 (w64 (x14.2.2 + 1))))] [] [] (by kernel_rfl) trivial) ?_
                exact lq_n (x17.1, x17.2, (w64 (x14.2.2 + 1))) (Option.some.inj h).symm (wk_of (by kernel_rfl) (by kernel_rfl))
              · refine k_block ?_
                refine k_sreg (r_go [(0, .d false [.sl none (a0.map (eF eI))]), (3, .p (.int .i64 (a0.length : Int))), (4, .ov false [.sl (some 3) (x5.1.map eI)]), (5, .ov false [.sl (some 22) (x9.map (eO 3 eI))]), (6, .p (.int .i64 x5.2.2)), (8, .ov false [.sl (some 22) (x14.1.map (eO 3 eI))]), (9, .p (.int .i64 x14.2.1)), (10, .p (.int .i64 x14.2.2)), (53, .p (.int .i64 (a0.length : Int))), (54, .p (.int .i64 x14.2.2))] [] [] (by kernel_rfl) trivial) ?_
                refine k_join (J := fun (x : (List (List Int))) => [(0, .d false [.sl none (a0.map (eF eI))]), (3, .p (.int .i64 (a0.length : Int))), (4, .ov false [.sl (some 3) (x5.1.map eI)]), (5, .ov false [.sl (some 22) (x9.map (eO 3 eI))]), (6, .p (.int .i64 x5.2.2)), (8, .ov false [.sl (some 22) (x.map (eO 3 eI))]), (9, .p (.int .i64 x14.2.1)), (10, .p (.int .i64 x14.2.2)), (53, .p (.int .i64 (a0.length : Int))), (54, .p (.int .i64 x14.2.2))]) (K := fun x => impl_characteristic_k6 x14 x = some o_x14) (fun x18 h => ?_) ?_
                · unfold impl_characteristic_k6 at h
                  replace h := bind_some' h
                  obtain ⟨v19, hv19, h⟩ := h
                  replace h := bind_some' h
                  obtain ⟨v20, hv20, h⟩ := h
                  refine k_reg (r_go [(0, .d false [.sl none (a0.map (eF eI))]), (3, .p (.int .i64 (a0.length : Int))), (4, .ov false [.sl (some 3) (x5.1.map eI)]), (5, .ov false [.sl (some 22) (x9.map (eO 3 eI))]), (6, .p (.int .i64 x5.2.2)), (8, .ov false [.sl (some 22) (x18.map (eO 3 eI))]), (9, .p (.int .i64 (w64 (x14.2.1 + v20)))), (53, .p (.int .i64 (a0.length : Int))), (54, .p (.int .i64 x14.2.2))] [(3, {row := some [.sl (some 3) (v19.map eI)]}), (4, {row := some [.sl (some 3) (v19.map eI)]}), (6, {deep := some [.sl (some 3) (v19.map eI)], row := some [.raw (.int .i64 v20)]}), (7, {row := some [.raw (.int .i64 v20)]})] [0 ≤ x14.2.2, (x18.map (eO 3 eI))[(Int.toNat x14.2.2)]? = some [.sl (some 3) (v19.map eI)], frR [.sl (some 3) (v19.map eI)] = false, getRow [[.sl (some 22) (x18.map (eO 3 eI))]] [(0, 0), ((Int.toNat x14.2.2), 0)] = some [.sl (some 3) (v19.map eI)], 0 ≤ x14.2.2, (v19.map eI)[(Int.toNat x14.2.2)]? = some [.raw (.int .i64 v20)], getRow [[.sl (some 22) (x18.map (eO 3 eI))]] [(0, 0), ((Int.toNat x14.2.2), 0)] = some [.sl (some 3) (v19.map eI)], getRow [[.sl (some 22) (x18.map (eO 3 eI))]] [(0, 0), ((Int.toNat x14.2.2), 0), ((Int.toNat x14.2.2), 0)] = some [.raw (.int .i64 v20)]] (by kernel_rfl) ⟨(idxO_some hv19).1, (map_get (eO 3 eI) (idxO_some hv19).2), rfl, ((gr0 rfl).trans (gre (map_get (eO 3 eI) (idxO_some hv19).2))), (idxO_some hv20).1, (map_get eI (idxO_some hv20).2), ((gr0 rfl).trans (gre (map_get (eO 3 eI) (idxO_some hv19).2))), ((gr0 rfl).trans ((grs (map_get (eO 3 eI) (idxO_some hv19).2) rfl).trans (gre (map_get eI (idxO_some hv20).2)))), trivial⟩) ?_
                  refine b_n ?_
                  refine q_n ?_
                  exact ⟨(x18, (w64 (x14.2.1 + v20))), h, (wk_of (by kernel_rfl) (by kernel_rfl))⟩
                · refine k_sreg (r_go [(0, .d false [.sl none (a0.map (eF eI))]), (3, .p (.int .i64 (a0.length : Int))), (4, .ov false [.sl (some 3) (x5.1.map eI)]), (5, .ov false [.sl (some 22) (x9.map (eO 3 eI))]), (6, .p (.int .i64 x5.2.2)), (8, .ov false [.sl (some 22) (x14.1.map (eO 3 eI))]), (9, .p (.int .i64 x14.2.1)), (10, .p (.int .i64 x14.2.2)), (53, .p (.int .i64 (a0.length : Int))), (54, .p (.int .i64 x14.2.2)), (58, .p (.int .i64 (a0.length : Int))), (59, .p (.int .i64 0))] [(1, {n := some a0.length})] [(a0.map (eF eI)).length = a0.length] (by kernel_rfl) ⟨(List.length_map ..), trivial⟩) ?_
                  refine k_block ?_
                  obtain ⟨y22, hl_x21, hk_x21⟩ := bind_some' h
                  clear h
                  refine k_loop (J := fun (x : ((List (List Int)) × Int)) => [(0, .d false [.sl none (a0.map (eF eI))]), (3, .p (.int .i64 (a0.length : Int))), (4, .ov false [.sl (some 3) (x5.1.map eI)]), (5, .ov false [.sl (some 22) (x9.map (eO 3 eI))]), (6, .p (.int .i64 x5.2.2)), (8, .ov false [.sl (some 22) (x.1.map (eO 3 eI))]), (9, .p (.int .i64 x14.2.1)), (10, .p (.int .i64 x14.2.2)), (53, .p (.int .i64 (a0.length : Int))), (54, .p (.int .i64 x14.2.2)), (58, .p (.int .i64 (a0.length : Int))), (59, .p (.int .i64 x.2))]) hl_x21 (wk_of (by kernel_rfl) (by kernel_rfl)) (fun x21 o_x21 h hy_x21 => ?_)
                  unfold impl_characteristic_b3 at h
                  refine k_sreg (r_go [(0, .d false [.sl none (a0.map (eF eI))]), (3, .p (.int .i64 (a0.length : Int))), (4, .ov false [.sl (some 3) (x5.1.map eI)]), (5, .ov false [.sl (some 22) (x9.map (eO 3 eI))]), (6, .p (.int .i64 x5.2.2)), (8, .ov false [.sl (some 22) (x21.1.map (eO 3 eI))]), (9, .p (.int .i64 x14.2.1)), (10, .p (.int .i64 x14.2.2)), (53, .p (.int .i64 (a0.length : Int))), (54, .p (.int .i64 x14.2.2)), (58, .p (.int .i64 (a0.length : Int))), (59, .p (.int .i64 x21.2)), (60, .p (.bool (decide (x21.2 < (a0.length : Int)))))] [] [] (by kernel_rfl) trivial) ?_
                  refine k_seq ?_
                  refine k_cond (b := (decide (x21.2 < (a0.length : Int)))) (by kernel_rfl) (fun hc15_22 => ?_) (fun hc15_22 => ?_)
                  · replace h := ite_t hc15_22 h
                    refine k_skip ?_
                    refine q_n ?_
                    refine k_join (J := fun (x : (List (List Int))) => [(0, .d false [.sl none (a0.map (eF eI))]), (3, .p (.int .i64 (a0.length : Int))), (4, .ov false [.sl (some 3) (x5.1.map eI)]), (5, .ov false [.sl (some 22) (x9.map (eO 3 eI))]), (6, .p (.int .i64 x5.2.2)), (8, .ov false [.sl (some 22) (x.map (eO 3 eI))]), (9, .p (.int .i64 x14.2.1)), (10, .p (.int .i64 x14.2.2)), (53, .p (.int .i64 (a0.length : Int))), (54, .p (.int .i64 x14.2.2)), (58, .p (.int .i64 (a0.length : Int))), (59, .p (.int .i64 x21.2))]) (K := fun x => impl_characteristic_k7 x21 x = some o_x21) (fun x24 h => ?_) ?_
                    · unfold impl_characteristic_k7 at h
                      refine k_reg (r_go [(0, .d false [.sl none (a0.map (eF eI))]), (3, .p (.int .i64 (a0.length : Int))), (4, .ov false [.sl (some 3) (x5.1.map eI)]), (5, .ov false [.sl (some 22) (x9.map (eO 3 eI))]), (6, .p (.int .i64 x5.2.2)), (8, .ov false [.sl (some 22) (x24.map (eO 3 eI))]), (9, .p (.int .i64 x14.2.1)), (10, .p (.int .i64 x14.2.2)), (53, .p (.int .i64 (a0.length : Int))), (54, .p (.int .i64 x14.2.2)), (58, .p (.int .i64 (a0.length : Int))), (59, .p (.int .i64 (w64 (x21.2 + 1))))] [] [] (by kernel_rfl) trivial) ?_
                      exact lq_n (x24, (w64 (x21.2 + 1))) (Option.some.inj h).symm (wk_of (by kernel_rfl) (by kernel_rfl))
                    · refine k_block ?_
                      refine k_sreg (r_go [(0, .d false [.sl none (a0.map (eF eI))]), (3, .p (.int .i64 (a0.length : Int))), (4, .ov false [.sl (some 3) (x5.1.map eI)]), (5, .ov false [.sl (some 22) (x9.map (eO 3 eI))]), (6, .p (.int .i64 x5.2.2)), (8, .ov false [.sl (some 22) (x21.1.map (eO 3 eI))]), (9, .p (.int .i64 x14.2.1)), (10, .p (.int .i64 x14.2.2)), (11, .p (.int .i64 x21.2)), (53, .p (.int .i64 (a0.length : Int))), (54, .p (.int .i64 x14.2.2)), (58, .p (.int .i64 (a0.length : Int))), (59, .p (.int .i64 x21.2))] [] [] (by kernel_rfl) trivial) ?_
                      refine k_sreg (r_go [(0, .d false [.sl none (a0.map (eF eI))]), (3, .p (.int .i64 (a0.length : Int))), (4, .ov false [.sl (some 3) (x5.1.map eI)]), (5, .ov false [.sl (some 22) (x9.map (eO 3 eI))]), (6, .p (.int .i64 x5.2.2)), (8, .ov false [.sl (some 22) (x21.1.map (eO 3 eI))]), (9, .p (.int .i64 x14.2.1)), (10, .p (.int .i64 x14.2.2)), (11, .p (.int .i64 x21.2)), (53, .p (.int .i64 (a0.length : Int))), (54, .p (.int .i64 x14.2.2)), (58, .p (.int .i64 (a0.length : Int))), (59, .p (.int .i64 x21.2)), (63, .p (.int .i64 (a0.length : Int))), (64, .p (.int .i64 0))] [(1, {n := some a0.length})] [(a0.map (eF eI)).length = a0.length] (by kernel_rfl) ⟨(List.length_map ..), trivial⟩) ?_
                      refine k_block ?_
                      obtain ⟨y26, hl_x25, hk_x25⟩ := bind_some' h
                      clear h
                      refine k_loop (J := fun (x : ((List (List Int)) × Int)) => [(0, .d false [.sl none (a0.map (eF eI))]), (3, .p (.int .i64 (a0.length : Int))), (4, .ov false [.sl (some 3) (x5.1.map eI)]), (5, .ov false [.sl (some 22) (x9.map (eO 3 eI))]), (6, .p (.int .i64 x5.2.2)), (8, .ov false [.sl (some 22) (x.1.map (eO 3 eI))]), (9, .p (.int .i64 x14.2.1)), (10, .p (.int .i64 x14.2.2)), (11, .p (.int .i64 x21.2)), (53, .p (.int .i64 (a0.length : Int))), (54, .p (.int .i64 x14.2.2)), (58, .p (.int .i64 (a0.length : Int))), (59, .p (.int .i64 x21.2)), (63, .p (.int .i64 (a0.length : Int))), (64, .p (.int .i64 x.2))]) hl_x25 (wk_of (by kernel_rfl) (by kernel_rfl)) (fun x25 o_x25 h hy_x25 => ?_)
                      unfold impl_characteristic_b4 at h
                      refine k_sreg (r_go [(0, .d false [.sl none (a0.map (eF eI))]), (3, .p (.int .i64 (a0.length : Int))), (4, .ov false [.sl (some 3) (x5.1.map eI)]), (5, .ov false [.sl (some 22) (x9.map (eO 3 eI))]), (6, .p (.int .i64 x5.2.2)), (8, .ov false [.sl (some 22) (x25.1.map (eO 3 eI))]), (9, .p (.int .i64 x14.2.1)), (10, .p (.int .i64 x14.2.2)), (11, .p (.int .i64 x21.2)), (53, .p (.int .i64 (a0.length : Int))), (54, .p (.int .i64 x14.2.2)), (58, .p (.int .i64 (a0.length : Int))), (59, .p (.int .i64 x21.2)), (63, .p (.int .i64 (a0.length : Int))), (64, .p (.int .i64 x25.2)), (65, .p (.bool (decide (x25.2 < (a0.length : Int)))))] [] [] (by kernel_rfl) trivial) ?_
                      refine k_seq ?_
                      refine k_cond (b := (decide (x25.2 < (a0.length : Int)))) (by kernel_rfl) (fun hc19_26 => ?_) (fun hc19_26 => ?_)
                      · replace h := ite_t hc19_26 h
                        refine k_skip ?_
                        refine q_n ?_
                        refine k_seq ?_
                        refine k_block ?_
                        refine k_sreg (r_go [(0, .d false [.sl none (a0.map (eF eI))]), (3, .p (.int .i64 (a0.length : Int))), (4, .ov false [.sl (some 3) (x5.1.map eI)]), (5, .ov false [.sl (some 22) (x9.map (eO 3 eI))]), (6, .p (.int .i64 x5.2.2)), (8, .ov false [.sl (some 22) (x25.1.map (eO 3 eI))]), (9, .p (.int .i64 x14.2.1)), (10, .p (.int .i64 x14.2.2)), (11, .p (.int .i64 x21.2)), (12, .p (.int .i64 x25.2)), (53, .p (.int .i64 (a0.length : Int))), (54, .p (.int .i64 x14.2.2)), (58, .p (.int .i64 (a0.length : Int))), (59, .p (.int .i64 x21.2)), (63, .p (.int .i64 (a0.length : Int))), (64, .p (.int .i64 x25.2))] [] [] (by kernel_rfl) trivial) ?_
                        replace h := bind_some' h
                        obtain ⟨v28, hv28, h⟩ := h
                        replace h := bind_some' h
                        obtain ⟨v29, hv29, h⟩ := h
                        replace h := bind_some' h
                        obtain ⟨v30, hv30, h⟩ := h
                        replace h := bind_some' h
                        obtain ⟨v31, hv31, h⟩ := h
                        replace h := bind_some' h
                        obtain ⟨v32, hv32, h⟩ := h
                        replace h := bind_some' h
                        obtain ⟨v33, hv33, h⟩ := h
                        refine k_reg (r_draw Try_mixed 22 [] [(0, .d false [.sl none (a0.map (eF eI))]), (3, .p (.int .i64 (a0.length : Int))), (4, .ov false [.sl (some 3) (x5.1.map eI)]), (5, .ov false [.sl (some 22) (x9.map (eO 3 eI))]), (6, .p (.int .i64 x5.2.2)), (8, .ov false [.sl (some 22) ((x25.1.set (Int.toNat x14.2.2) (v28.set (Int.toNat x21.2) (w64 (v29 + (w64 (v31 * v33)))))).map (eO 3 eI))]), (9, .p (.int .i64 x14.2.1)), (10, .p (.int .i64 x14.2.2)), (11, .p (.int .i64 x21.2)), (53, .p (.int .i64 (a0.length : Int))), (54, .p (.int .i64 x14.2.2)), (58, .p (.int .i64 (a0.length : Int))), (59, .p (.int .i64 x21.2)), (63, .p (.int .i64 (a0.length : Int))), (64, .p (.int .i64 x25.2))] [(2, {row := some [.sl (some 3) (v28.map eI)]}), (3, {row := some [.sl (some 3) (v28.map eI)]}), (5, {deep := some [.sl (some 3) (v28.map eI)], row := some [.raw (.int .i64 v29)]}), (6, {row := some [.raw (.int .i64 v29)]}), (9, {row := some [.sl none (v30.map eI)]}), (12, {row := some [.raw (.int .i64 v31)]}), (16, {row := some [.sl (some 3) (v32.map eI)]}), (17, {row := some [.sl (some 3) (v32.map eI)]}), (19, {deep := some [.sl (some 3) (v32.map eI)], row := some [.raw (.int .i64 v33)]}), (20, {row := some [.raw (.int .i64 v33)]}), (23, {deep := some [.sl (some 3) (v28.map eI)], row := some [.raw (.int .i64 v29)]}), (24, {row := some [.raw (.int .i64 v29)], fix := some (8, .ov false [.sl (some 22) ((x25.1.set (Int.toNat x14.2.2) (v28.set (Int.toNat x21.2) (w64 (v29 + (w64 (v31 * v33)))))).map (eO 3 eI))])})] [0 ≤ x14.2.2, (x25.1.map (eO 3 eI))[(Int.toNat x14.2.2)]? = some [.sl (some 3) (v28.map eI)], frR [.sl (some 3) (v28.map eI)] = false, getRow [[.sl (some 22) (x25.1.map (eO 3 eI))]] [(0, 0), ((Int.toNat x14.2.2), 0)] = some [.sl (some 3) (v28.map eI)], 0 ≤ x21.2, (v28.map eI)[(Int.toNat x21.2)]? = some [.raw (.int .i64 v29)], getRow [[.sl (some 22) (x25.1.map (eO 3 eI))]] [(0, 0), ((Int.toNat x14.2.2), 0)] = some [.sl (some 3) (v28.map eI)], getRow [[.sl (some 22) (x25.1.map (eO 3 eI))]] [(0, 0), ((Int.toNat x14.2.2), 0), ((Int.toNat x21.2), 0)] = some [.raw (.int .i64 v29)], 0 ≤ x14.2.2, (a0.map (eF eI))[(Int.toNat x14.2.2)]? = some [.sl none (v30.map eI)], 0 ≤ x25.2, (v30.map eI)[(Int.toNat x25.2)]? = some [.raw (.int .i64 v31)], 0 ≤ x25.2, (x9.map (eO 3 eI))[(Int.toNat x25.2)]? = some [.sl (some 3) (v32.map eI)], frR [.sl (some 3) (v32.map eI)] = false, getRow [[.sl (some 22) (x9.map (eO 3 eI))]] [(0, 0), ((Int.toNat x25.2), 0)] = some [.sl (some 3) (v32.map eI)], 0 ≤ x21.2, (v32.map eI)[(Int.toNat x21.2)]? = some [.raw (.int .i64 v33)], getRow [[.sl (some 22) (x9.map (eO 3 eI))]] [(0, 0), ((Int.toNat x25.2), 0)] = some [.sl (some 3) (v32.map eI)], getRow [[.sl (some 22) (x9.map (eO 3 eI))]] [(0, 0), ((Int.toNat x25.2), 0), ((Int.toNat x21.2), 0)] = some [.raw (.int .i64 v33)], 0 ≤ x21.2, (v28.map eI)[(Int.toNat x21.2)]? = some [.raw (.int .i64 v29)], getRow [[.sl (some 22) (x25.1.map (eO 3 eI))]] [(0, 0), ((Int.toNat x14.2.2), 0)] = some [.sl (some 3) (v28.map eI)], getRow [[.sl (some 22) (x25.1.map (eO 3 eI))]] [(0, 0), ((Int.toNat x14.2.2), 0), ((Int.toNat x21.2), 0)] = some [.raw (.int .i64 v29)], (SV.ov false [.sl (some 22) (setL (x25.1.map (eO 3 eI)) [((Int.toNat x14.2.2), 0), ((Int.toNat x21.2), 0)] [.raw (.int .i64 (w64 (v29 + (w64 (v31 * v33)))))])] : SV) = .ov false [.sl (some 22) ((x25.1.set (Int.toNat x14.2.2) (v28.set (Int.toNat x21.2) (w64 (v29 + (w64 (v31 * v33)))))).map (eO 3 eI))]] (by kernel_rfl) ⟨(idxO_some hv28).1, (map_get (eO 3 eI) (idxO_some hv28).2), rfl, ((gr0 rfl).trans (gre (map_get (eO 3 eI) (idxO_some hv28).2))), (idxO_some hv29).1, (map_get eI (idxO_some hv29).2), ((gr0 rfl).trans (gre (map_get (eO 3 eI) (idxO_some hv28).2))), ((gr0 rfl).trans ((grs (map_get (eO 3 eI) (idxO_some hv28).2) rfl).trans (gre (map_get eI (idxO_some hv29).2)))), (idxO_some hv30).1, (map_get (eF eI) (idxO_some hv30).2), (idxO_some hv31).1, (map_get eI (idxO_some hv31).2), (idxO_some hv32).1, (map_get (eO 3 eI) (idxO_some hv32).2), rfl, ((gr0 rfl).trans (gre (map_get (eO 3 eI) (idxO_some hv32).2))), (idxO_some hv33).1, (map_get eI (idxO_some hv33).2), ((gr0 rfl).trans (gre (map_get (eO 3 eI) (idxO_some hv32).2))), ((gr0 rfl).trans ((grs (map_get (eO 3 eI) (idxO_some hv32).2) rfl).trans (gre (map_get eI (idxO_some hv33).2)))), (idxO_some hv29).1, (map_get eI (idxO_some hv29).2), ((gr0 rfl).trans (gre (map_get (eO 3 eI) (idxO_some hv28).2))), ((gr0 rfl).trans ((grs (map_get (eO 3 eI) (idxO_some hv28).2) rfl).trans (gre (map_get eI (idxO_some hv29).2)))), (congrArg (fun z => SV.ov false [.sl (some 22) z]) (set2 (f := (eO 3 eI)) (y := (v28.set (Int.toNat x21.2) (w64 (v29 + (w64 (v31 * v33)))))) (idxO_some hv28).2 rfl (set1 (f := eI) (y := (w64 (v29 + (w64 (v31 * v33))))) (idxO_some hv29).2 rfl) rfl)), trivial⟩) ?_
                        refine b_n ?_
                        refine q_n ?_
                        refine k_reg (r_go [(0, .d false [.sl none (a0.map (eF eI))]), (3, .p (.int .i64 (a0.length : Int))), (4, .ov false [.sl (some 3) (x5.1.map eI)]), (5, .ov false [.sl (some 22) (x9.map (eO 3 eI))]), (6, .p (.int .i64 x5.2.2)), (8, .ov false [.sl (some 22) ((x25.1.set (Int.toNat x14.2.2) (v28.set (Int.toNat x21.2) (w64 (v29 + (w64 (v31 * v33)))))).map (eO 3 eI))]), (9, .p (.int .i64 x14.2.1)), (10, .p (.int .i64 x14.2.2)), (11, .p (.int .i64 x21.2)), (53, .p (.int .i64 (a0.length : Int))), (54, .p (.int .i64 x14.2.2)), (58, .p (.int .i64 (a0.length : Int))), (59, .p (.int .i64 x21.2)), (63, .p (.int .i64 (a0.length : Int))), (64, .p (.int .i64 (w64 (x25.2 + 1))))] [] [] (by kernel_rfl) trivial) ?_
                        exact lq_n ((x25.1.set (Int.toNat x14.2.2) (v28.set (Int.toNat x21.2) (w64 (v29 + (w64 (v31 * v33)))))), (w64 (x25.2 + 1))) (Option.some.inj h).symm (wk_of (by kernel_rfl) (by kernel_rfl))
                      · replace h := ite_f hc19_26 h
                        refine k_exit ?_
                        refine q_x ?_
                        refine lq_x ?_
                        refine b_x ?_
                        refine b_n ?_
                        have hyy := hy_x25 _ (Option.some.inj h).symm
                        subst hyy
                        have h := hk_x25
                        refine q_n ?_
                        exact ⟨x25.1, h, (wk_of (by kernel_rfl) (by kernel_rfl))⟩
                  · replace h := ite_f hc15_22 h
                    refine k_exit ?_
                    refine q_x ?_
                    refine lq_x ?_
                    refine b_x ?_
                    have hyy := hy_x21 _ (Option.some.inj h).symm
                    subst hyy
                    have h := hk_x21
                    refine q_n ?_
                    exact ⟨x21.1, h, (wk_of (by kernel_rfl) (by kernel_rfl))⟩
            · replace h := ite_f hc10_15 h
              refine k_exit ?_
              refine q_x ?_
              refine lq_x ?_
              refine b_x ?_
              have hyy := hy_x14 _ (Option.some.inj h).symm
              subst hyy
              have h := hk_x14
              refine q_n ?_
              exact ⟨(x14.1, x14.2.1), h, (wk_of (by kernel_rfl) (by kernel_rfl))⟩
        · refine k_sreg (r_go [(0, .d false [.sl none (a0.map (eF eI))]), (3, .p (.int .i64 (a0.length : Int))), (4, .ov false [.sl (some 3) (x5.1.map eI)]), (5, .ov false [.sl (some 22) (x5.2.1.map (eO 3 eI))]), (6, .p (.int .i64 x5.2.2)), (29, .p (.int .i64 (x5.2.1.length : Int))), (30, .p (.int .i64 0))] [(1, {n := some x5.2.1.length})] [(x5.2.1.map (eO 3 eI)).length = x5.2.1.length] (by kernel_rfl) ⟨(List.length_map ..), trivial⟩) ?_
          refine k_block ?_
          obtain ⟨y35, hl_x34, hk_x34⟩ := bind_some' h
          clear h
          refine k_loop (J := fun (x : ((List (List Int)) × Int)) => [(0, .d false [.sl none (a0.map (eF eI))]), (3, .p (.int .i64 (a0.length : Int))), (4, .ov false [.sl (some 3) (x5.1.map eI)]), (5, .ov false [.sl (some 22) (x.1.map (eO 3 eI))]), (6, .p (.int .i64 x5.2.2)), (29, .p (.int .i64 (x5.2.1.length : Int))), (30, .p (.int .i64 x.2))]) hl_x34 (wk_of (by kernel_rfl) (by kernel_rfl)) (fun x34 o_x34 h hy_x34 => ?_)
          unfold impl_characteristic_b5 at h
          refine k_sreg (r_go [(0, .d false [.sl none (a0.map (eF eI))]), (3, .p (.int .i64 (a0.length : Int))), (4, .ov false [.sl (some 3) (x5.1.map eI)]), (5, .ov false [.sl (some 22) (x34.1.map (eO 3 eI))]), (6, .p (.int .i64 x5.2.2)), (29, .p (.int .i64 (x5.2.1.length : Int))), (30, .p (.int .i64 x34.2)), (31, .p (.bool (decide (x34.2 < (x5.2.1.length : Int)))))] [] [] (by kernel_rfl) trivial) ?_
          refine k_seq ?_
          refine k_cond (b := (decide (x34.2 < (x5.2.1.length : Int)))) (by kernel_rfl) (fun hc10_35 => ?_) (fun hc10_35 => ?_)
          · replace h := ite_t hc10_35 h
            refine k_skip ?_
            refine q_n ?_
            refine k_seq ?_
            refine k_block ?_
            refine k_sreg (r_go [(0, .d false [.sl none (a0.map (eF eI))]), (3, .p (.int .i64 (a0.length : Int))), (4, .ov false [.sl (some 3) (x5.1.map eI)]), (5, .ov false [.sl (some 22) (x34.1.map (eO 3 eI))]), (6, .p (.int .i64 x5.2.2)), (7, .p (.int .i64 x34.2)), (29, .p (.int .i64 (x5.2.1.length : Int))), (30, .p (.int .i64 x34.2))] [] [] (by kernel_rfl) trivial) ?_
            replace h := bind_some' h
            obtain ⟨v37, hv37, h⟩ := h
            replace h := bind_some' h
            obtain ⟨v38, hv38, h⟩ := h
            replace h := bind_some' h
            obtain ⟨v39, hv39, h⟩ := h
            refine k_reg (r_draw Try_mixed 14 [] [(0, .d false [.sl none (a0.map (eF eI))]), (3, .p (.int .i64 (a0.length : Int))), (4, .ov false [.sl (some 3) (x5.1.map eI)]), (5, .ov false [.sl (some 22) ((x34.1.set (Int.toNat x34.2) (v37.set (Int.toNat x34.2) (w64 (v38 + v39)))).map (eO 3 eI))]), (6, .p (.int .i64 x5.2.2)), (29, .p (.int .i64 (x5.2.1.length : Int))), (30, .p (.int .i64 x34.2))] [(2, {row := some [.sl (some 3) (v37.map eI)]}), (3, {row := some [.sl (some 3) (v37.map eI)]}), (5, {deep := some [.sl (some 3) (v37.map eI)], row := some [.raw (.int .i64 v38)]}), (6, {row := some [.raw (.int .i64 v38)]}), (12, {row := some [.raw (.int .i64 v39)]}), (13, {row := some [.raw (.int .i64 v39)]}), (15, {deep := some [.sl (some 3) (v37.map eI)], row := some [.raw (.int .i64 v38)]}), (16, {row := some [.raw (.int .i64 v38)], fix := some (5, .ov false [.sl (some 22) ((x34.1.set (Int.toNat x34.2) (v37.set (Int.toNat x34.2) (w64 (v38 + v39)))).map (eO 3 eI))])})] [0 ≤ x34.2, (x34.1.map (eO 3 eI))[(Int.toNat x34.2)]? = some [.sl (some 3) (v37.map eI)], frR [.sl (some 3) (v37.map eI)] = false, getRow [[.sl (some 22) (x34.1.map (eO 3 eI))]] [(0, 0), ((Int.toNat x34.2), 0)] = some [.sl (some 3) (v37.map eI)], 0 ≤ x34.2, (v37.map eI)[(Int.toNat x34.2)]? = some [.raw (.int .i64 v38)], getRow [[.sl (some 22) (x34.1.map (eO 3 eI))]] [(0, 0), ((Int.toNat x34.2), 0)] = some [.sl (some 3) (v37.map eI)], getRow [[.sl (some 22) (x34.1.map (eO 3 eI))]] [(0, 0), ((Int.toNat x34.2), 0), ((Int.toNat x34.2), 0)] = some [.raw (.int .i64 v38)], 0 ≤ (w64 ((w64 ((a0.length : Int) - x5.2.2)) + 1)), (x5.1.map eI)[(Int.toNat (w64 ((w64 ((a0.length : Int) - x5.2.2)) + 1)))]? = some [.raw (.int .i64 v39)], getRow [[.sl (some 3) (x5.1.map eI)]] [(0, 0), ((Int.toNat (w64 ((w64 ((a0.length : Int) - x5.2.2)) + 1))), 0)] = some [.raw (.int .i64 v39)], 0 ≤ x34.2, (v37.map eI)[(Int.toNat x34.2)]? = some [.raw (.int .i64 v38)], getRow [[.sl (some 22) (x34.1.map (eO 3 eI))]] [(0, 0), ((Int.toNat x34.2), 0)] = some [.sl (some 3) (v37.map eI)], getRow [[.sl (some 22) (x34.1.map (eO 3 eI))]] [(0, 0), ((Int.toNat x34.2), 0), ((Int.toNat x34.2), 0)] = some [.raw (.int .i64 v38)], (SV.ov false [.sl (some 22) (setL (x34.1.map (eO 3 eI)) [((Int.toNat x34.2), 0), ((Int.toNat x34.2), 0)] [.raw (.int .i64 (w64 (v38 + v39)))])] : SV) = .ov false [.sl (some 22) ((x34.1.set (Int.toNat x34.2) (v37.set (Int.toNat x34.2) (w64 (v38 + v39)))).map (eO 3 eI))]] (by kernel_rfl) ⟨(idxO_some hv37).1, (map_get (eO 3 eI) (idxO_some hv37).2), rfl, ((gr0 rfl).trans (gre (map_get (eO 3 eI) (idxO_some hv37).2))), (idxO_some hv38).1, (map_get eI (idxO_some hv38).2), ((gr0 rfl).trans (gre (map_get (eO 3 eI) (idxO_some hv37).2))), ((gr0 rfl).trans ((grs (map_get (eO 3 eI) (idxO_some hv37).2) rfl).trans (gre (map_get eI (idxO_some hv38).2)))), (idxO_some hv39).1, (map_get eI (idxO_some hv39).2), ((gr0 rfl).trans (gre (map_get eI (idxO_some hv39).2))), (idxO_some hv38).1, (map_get eI (idxO_some hv38).2), ((gr0 rfl).trans (gre (map_get (eO 3 eI) (idxO_some hv37).2))), ((gr0 rfl).trans ((grs (map_get (eO 3 eI) (idxO_some hv37).2) rfl).trans (gre (map_get eI (idxO_some hv38).2)))), (congrArg (fun z => SV.ov false [.sl (some 22) z]) (set2 (f := (eO 3 eI)) (y := (v37.set (Int.toNat x34.2) (w64 (v38 + v39)))) (idxO_some hv37).2 rfl (set1 (f := eI) (y := (w64 (v38 + v39))) (idxO_some hv38).2 rfl) rfl)), trivial⟩) ?_
            refine b_n ?_
            refine q_n ?_
            refine k_reg (r_go [(0, .d false [.sl none (a0.map (eF eI))]), (3, .p (.int .i64 (a0.length : Int))), (4, .ov false [.sl (some 3) (x5.1.map eI)]), (5, .ov false [.sl (some 22) ((x34.1.set (Int.toNat x34.2) (v37.set (Int.toNat x34.2) (w64 (v38 + v39)))).map (eO 3 eI))]), (6, .p (.int .i64 x5.2.2)), (29, .p (.int .i64 (x5.2.1.length : Int))), (30, .p (.int .i64 (w64 (x34.2 + 1))))] [] [] (by kernel_rfl) trivial) ?_
            exact lq_n ((x34.1.set (Int.toNat x34.2) (v37.set (Int.toNat x34.2) (w64 (v38 + v39)))), (w64 (x34.2 + 1))) (Option.some.inj h).symm (wk_of (by kernel_rfl) (by kernel_rfl))
          · replace h := ite_f hc10_35 h
            refine k_exit ?_
            refine q_x ?_
            refine lq_x ?_
            refine b_x ?_
            have hyy := hy_x34 _ (Option.some.inj h).symm
            subst hyy
            have h := hk_x34
            refine q_n ?_
            exact ⟨x34.1, h, (wk_of (by kernel_rfl) (by kernel_rfl))⟩
    · replace h := ite_f hc5_6 h
      refine k_exit ?_
      refine q_x ?_
      refine lq_x ?_
      refine b_x ?_
      have hyy := hy_x5 _ (Option.some.inj h).symm
      subst hyy
      have h := hk_x5
      refine q_n ?_
      exact ⟨x5.1, h, (wk_of (by kernel_rfl) (by kernel_rfl))⟩
theorem wk_slices_Reverse_Lint_int {a0 : (List Int)}  {r : (List Int)} (h : slices_Reverse_Lint_int a0 = some r) : MeetsB Try.prog 83 (.ov false [.sl (some 3) (a0.map eI)]) [] [] (.ov false [.sl (some 3) (r.map eI)]) := by
  refine MeetsB_ofL (by kernel_rfl) Try.func83 rfl (by kernel_rfl) rfl (l0 := [(0, .ov false [.sl (some 3) (a0.map eI)])]) (by kernel_rfl) ?_
  unfold slices_Reverse_Lint_int at h
  refine k_sreg (r_go [(0, .ov false [.sl (some 3) (a0.map eI)]), (2, .p (.int .i64 0)), (3, .p (.int .i64 (w64 ((a0.length : Int) - 1))))] [(1, {n := some a0.length})] [(a0.map eI).length = a0.length] (by kernel_rfl) ⟨(List.length_map ..), trivial⟩) ?_
  refine k_block ?_
  obtain ⟨y2, hl_x1, hk_x1⟩ := bind_some' h
  clear h
  refine k_loop (J := fun (x : ((List Int) × Int × Int)) => [(0, .ov false [.sl (some 3) (x.1.map eI)]), (2, .p (.int .i64 x.2.1)), (3, .p (.int .i64 x.2.2))]) hl_x1 (wk_of (by kernel_rfl) (by kernel_rfl)) (fun x1 o_x1 h hy_x1 => ?_)
  unfold slices_Reverse_Lint_int_b1 at h
  refine k_seq ?_
  refine k_sreg (r_go [(0, .ov false [.sl (some 3) (x1.1.map eI)]), (2, .p (.int .i64 x1.2.1)), (3, .p (.int .i64 x1.2.2)), (9, .p (.bool (decide (x1.2.1 < x1.2.2))))] [] [] (by kernel_rfl) trivial) ?_
  refine k_cond (b := (decide (x1.2.1 < x1.2.2))) (by kernel_rfl) (fun hc4_2 => ?_) (fun hc4_2 => ?_)
  · replace h := ite_t hc4_2 h
    refine k_skip ?_
    refine q_n ?_
    refine k_seq ?_
    refine k_block ?_
    replace h := bind_some' h
    obtain ⟨v4, hv4, h⟩ := h
    replace h := bind_some' h
    obtain ⟨v5, hv5, h⟩ := h
    replace h := bind_some' h
    obtain ⟨u6, hu6, h⟩ := h
    refine k_reg (r_swap (t := 22) (e := 3) (g := false) (sz := 1) (rows := (x1.1.map eI)) (rows' := (((x1.1.set (Int.toNat x1.2.1) v5).set (Int.toNat x1.2.2) v4).map eI)) (i := x1.2.1) (j := x1.2.2) (ri := eI v4) (rj := eI v5) [(0, .ov false [.sl (some 3) (((x1.1.set (Int.toNat x1.2.1) v5).set (Int.toNat x1.2.2) v4).map eI)]), (2, .p (.int .i64 x1.2.1)), (3, .p (.int .i64 x1.2.2))] Try_mixed ⟨rfl, rfl⟩ ⟨rfl, rfl⟩ ⟨rfl, rfl⟩ ⟨rfl, rfl⟩ ⟨rfl, rfl⟩ ⟨rfl, rfl⟩ ⟨rfl, rfl⟩ ⟨rfl, rfl⟩ ⟨rfl, rfl⟩ ⟨rfl, rfl⟩ ⟨rfl, rfl⟩ ⟨rfl, rfl⟩ ⟨rfl, rfl⟩ ⟨rfl, rfl⟩ ⟨rfl, rfl⟩ ⟨rfl, rfl⟩ (by kernel_rfl) (by kernel_rfl) (by kernel_rfl) (by decide) (by kernel_rfl) (by kernel_rfl) (by kernel_rfl) (by kernel_rfl) (by kernel_rfl) (raw_map fun _ => rfl) (idxO_some hv4).1 (idxO_some hv5).1 (map_get eI (idxO_some hv4).2) (map_get eI (idxO_some hv5).2) (guardO_some hu6) (by simp only [List.map_set])) ?_
    refine b_n ?_
    refine q_n ?_
    refine k_reg (r_go [(0, .ov false [.sl (some 3) (((x1.1.set (Int.toNat x1.2.1) v5).set (Int.toNat x1.2.2) v4).map eI)]), (2, .p (.int .i64 (w64 (x1.2.1 + 1)))), (3, .p (.int .i64 (w64 (x1.2.2 - 1))))] [] [] (by kernel_rfl) trivial) ?_
    exact lq_n (((x1.1.set (Int.toNat x1.2.1) v5).set (Int.toNat x1.2.2) v4), (w64 (x1.2.1 + 1)), (w64 (x1.2.2 - 1))) (Option.some.inj h).symm (wk_of (by kernel_rfl) (by kernel_rfl))
  · replace h := ite_f hc4_2 h
    refine k_exit ?_
    refine q_x ?_
    refine lq_x ?_
    refine b_x ?_
    have hyy := hy_x1 _ (Option.some.inj h).symm
    subst hyy
    have h := hk_x1
    obtain rfl := Option.some.inj h
    exact eb_end (ls := []) (by kernel_rfl) rfl rfl (by kernel_rfl) (by kernel_rfl)
theorem wk_impl_isPolynomial_1 {a0 : Int}  {r : Bool} (h : impl_isPolynomial_1 a0 = some r) : Meets Try.prog 131 [.v (.int .i64 a0)] { vals := [.p (.bool r)] } := by
  refine Meets_ofL (by kernel_rfl) Try.func131 rfl (by kernel_rfl) (l0 := [(0, .p (.int .i64 a0))]) (by kernel_rfl) ?_
  unfold impl_isPolynomial_1 at h
  refine k_sreg (r_go [(0, .p (.int .i64 a0))] [] [] (by kernel_rfl) trivial) ?_
  replace h := bind_some' h
  obtain ⟨v1, hv1, h⟩ := h
  refine k_sreg (r_go [(2, .p (.bool (!v1)))] [(1, {call := some ([.v (.int .i64 a0), .v (.int .i64 (-1000000)), .v (.int .i64 1000000)], [.p (.bool v1)], true)})] [([.v (.int .i64 a0), .v (.int .i64 (-1000000)), .v (.int .i64 1000000)] : List Arg) = [.v (.int .i64 a0), .v (.int .i64 (-1000000)), .v (.int .i64 1000000)], Meets Try.prog 76 ([.v (.int .i64 a0), .v (.int .i64 (-1000000)), .v (.int .i64 1000000)] ++ []) { vals := [.p (.bool v1)] }, (!true || List.all [.p (.bool v1)] simpleR) = true] (by kernel_rfl) ⟨rfl, (wk_impl_within hv1), (bt rfl), trivial⟩) ?_
  refine k_ret ?_
  obtain rfl := Option.some.inj h
  exact e_ret (ls := [(.p (.bool (!v1)), 2)]) (by kernel_rfl) rfl (by kernel_rfl) rfl
theorem wk_impl_isPolynomial {a0 : (List Int)}  {r : Bool} (h : impl_isPolynomial a0 = some r) : Meets Try.prog 111 [.d false [.sl none (a0.map eI)]] { vals := [.p (.bool r)] } := by
  refine Meets_ofL (by kernel_rfl) Try.func111 rfl (by kernel_rfl) (l0 := [(0, .d false [.sl none (a0.map eI)])]) (by kernel_rfl) ?_
  unfold impl_isPolynomial at h
  refine k_sreg (r_go [(0, .d false [.sl none (a0.map eI)])] [] [] (by kernel_rfl) trivial) ?_
  replace h := bind_some' h
  obtain ⟨w3, hw3, h⟩ := h
  refine k_sreg (l1 := [(2, .p (.bool w3))]) ?_ ?_
  · clear h
    rcases Bool.eq_false_or_eq_true (decide ((a0.length : Int) ≤ 9)) with ha0 | ha0
    · replace hw3 := ite_t ha0 hw3
      replace hw3 := bind_some' hw3
      obtain ⟨v1, hv1, hw3⟩ := hw3
      rcases Bool.eq_false_or_eq_true (!v1) with ha1 | ha1
      · replace hw3 := ite_t ha1 hw3
        rcases Bool.eq_false_or_eq_true ((a0.length : Int) == 0) with ha2 | ha2
        · replace hw3 := ite_t ha2 hw3
          have hw3 := Option.some.inj hw3
          subst hw3
          exact (r_go [(2, .p (.bool true))] [(1, {n := some a0.length}), (4, {g := some true}), (5, {g := some true, call := some ([.d false [.sl none (a0.map eI)], .v (.func (.func 131) #[] #[])], [.p (.bool v1)], true)}), (6, {g := some true}), (7, {b := some true}), (9, {g := some true}), (10, {g := some true, n := some a0.length}), (11, {g := some true}), (12, {g := some true}), (13, {g := some true}), (14, {g := some true}), (15, {g := some true}), (16, {g := some true}), (17, {g := some true}), (18, {g := some true}), (19, {g := some true}), (20, {g := some true, b := some true}), (21, {b := some true})] [(a0.map eI).length = a0.length, (decide ((a0.length : Int) ≤ 9)) = true, (decide ((a0.length : Int) ≤ 9)) = true, ([.d false [.sl none (a0.map eI)], .v (.func (.func 131) #[] #[])] : List Arg) = [.d false [.sl none (a0.map eI)], .v (.func (.func 131) #[] #[])], Meets Try.prog 88 ([.d false [.sl none (a0.map eI)], .v (.func (.func 131) #[] #[])] ++ []) { vals := [.p (.bool v1)] }, (!true || List.all [.p (.bool v1)] simpleR) = true, (decide ((a0.length : Int) ≤ 9)) = true, (decide ((a0.length : Int) ≤ 9)) = true, (!v1) = true, (!v1) = true, (a0.map eI).length = a0.length, (!v1) = true, (!v1) = true, ((a0.length : Int) == 0) = true, ((a0.length : Int) == 0) = true, ((a0.length : Int) == 0) = true, ((a0.length : Int) == 0) = true, ((a0.length : Int) == 0) = true, ((a0.length : Int) == 0) = true, ((a0.length : Int) == 0) = true, (!v1) = true, ((a0.length : Int) == 0) = true, (!v1) = true] (by kernel_rfl) ⟨(List.length_map ..), ha0, ha0, rfl, (wk_slices_ContainsFunc_Lint_int_v (fun x0 y hy => wk_impl_isPolynomial_1 hy) hv1), (bt rfl), ha0, ha0, ha1, ha1, (List.length_map ..), ha1, ha1, ha2, ha2, ha2, ha2, ha2, ha2, ha2, ha1, ha2, ha1, trivial⟩)
        · replace hw3 := ite_f ha2 hw3
          replace hw3 := bind_some' hw3
          obtain ⟨v2, hv2, hw3⟩ := hw3
          have hw3 := Option.some.inj hw3
          subst hw3
          exact (r_go [(2, .p (.bool (v2 != 0)))] [(1, {n := some a0.length}), (4, {g := some true}), (5, {g := some true, call := some ([.d false [.sl none (a0.map eI)], .v (.func (.func 131) #[] #[])], [.p (.bool v1)], true)}), (6, {g := some true}), (7, {b := some true}), (9, {g := some true}), (10, {g := some true, n := some a0.length}), (11, {g := some true}), (12, {g := some true}), (13, {g := some false}), (14, {g := some false}), (15, {g := some false, n := some a0.length}), (16, {g := some false}), (17, {g := some false, row := some [.raw (.int .i64 v2)]}), (18, {g := some false}), (19, {g := some false}), (20, {g := some true, b := some false}), (21, {b := some true})] [(a0.map eI).length = a0.length, (decide ((a0.length : Int) ≤ 9)) = true, (decide ((a0.length : Int) ≤ 9)) = true, ([.d false [.sl none (a0.map eI)], .v (.func (.func 131) #[] #[])] : List Arg) = [.d false [.sl none (a0.map eI)], .v (.func (.func 131) #[] #[])], Meets Try.prog 88 ([.d false [.sl none (a0.map eI)], .v (.func (.func 131) #[] #[])] ++ []) { vals := [.p (.bool v1)] }, (!true || List.all [.p (.bool v1)] simpleR) = true, (decide ((a0.length : Int) ≤ 9)) = true, (decide ((a0.length : Int) ≤ 9)) = true, (!v1) = true, (!v1) = true, (a0.map eI).length = a0.length, (!v1) = true, (!v1) = true, ((a0.length : Int) == 0) = false, ((a0.length : Int) == 0) = false, ((a0.length : Int) == 0) = false, (a0.map eI).length = a0.length, ((a0.length : Int) == 0) = false, ((a0.length : Int) == 0) = false, 0 ≤ (w64 ((a0.length : Int) - 1)), (a0.map eI)[(Int.toNat (w64 ((a0.length : Int) - 1)))]? = some [.raw (.int .i64 v2)], ((a0.length : Int) == 0) = false, ((a0.length : Int) == 0) = false, (!v1) = true, ((a0.length : Int) == 0) = false, (!v1) = true] (by kernel_rfl) ⟨(List.length_map ..), ha0, ha0, rfl, (wk_slices_ContainsFunc_Lint_int_v (fun x0 y hy => wk_impl_isPolynomial_1 hy) hv1), (bt rfl), ha0, ha0, ha1, ha1, (List.length_map ..), ha1, ha1, ha2, ha2, ha2, (List.length_map ..), ha2, ha2, (idxO_some hv2).1, (map_get eI (idxO_some hv2).2), ha2, ha2, ha1, ha2, ha1, trivial⟩)
      · replace hw3 := ite_f ha1 hw3
        have hw3 := Option.some.inj hw3
        subst hw3
        exact (r_go [(2, .p (.bool false))] [(1, {n := some a0.length}), (4, {g := some true}), (5, {g := some true, call := some ([.d false [.sl none (a0.map eI)], .v (.func (.func 131) #[] #[])], [.p (.bool v1)], true)}), (6, {g := some true}), (7, {b := some true}), (9, {g := some false}), (10, {g := some false}), (11, {g := some false}), (12, {g := some false}), (20, {g := some false}), (21, {b := some false})] [(a0.map eI).length = a0.length, (decide ((a0.length : Int) ≤ 9)) = true, (decide ((a0.length : Int) ≤ 9)) = true, ([.d false [.sl none (a0.map eI)], .v (.func (.func 131) #[] #[])] : List Arg) = [.d false [.sl none (a0.map eI)], .v (.func (.func 131) #[] #[])], Meets Try.prog 88 ([.d false [.sl none (a0.map eI)], .v (.func (.func 131) #[] #[])] ++ []) { vals := [.p (.bool v1)] }, (!true || List.all [.p (.bool v1)] simpleR) = true, (decide ((a0.length : Int) ≤ 9)) = true, (decide ((a0.length : Int) ≤ 9)) = true, (!v1) = false, (!v1) = false, (!v1) = false, (!v1) = false, (!v1) = false, (!v1) = false] (by kernel_rfl) ⟨(List.length_map ..), ha0, ha0, rfl, (wk_slices_ContainsFunc_Lint_int_v (fun x0 y hy => wk_impl_isPolynomial_1 hy) hv1), (bt rfl), ha0, ha0, ha1, ha1, ha1, ha1, ha1, ha1, trivial⟩)
    · replace hw3 := ite_f ha0 hw3
      have hw3 := Option.some.inj hw3
      subst hw3
      exact (r_go [(2, .p (.bool false))] [(1, {n := some a0.length}), (4, {g := some false}), (5, {g := some false}), (6, {g := some false}), (7, {b := some false}), (9, {g := some false}), (10, {g := some false}), (11, {g := some false}), (12, {g := some false}), (20, {g := some false}), (21, {b := some false})] [(a0.map eI).length = a0.length, (decide ((a0.length : Int) ≤ 9)) = false, (decide ((a0.length : Int) ≤ 9)) = false, (decide ((a0.length : Int) ≤ 9)) = false, (decide ((a0.length : Int) ≤ 9)) = false, false = false, false = false, false = false, false = false, false = false, false = false] (by kernel_rfl) ⟨(List.length_map ..), ha0, ha0, ha0, ha0, rfl, rfl, rfl, rfl, rfl, rfl, trivial⟩)
  · refine k_ret ?_
    obtain rfl := Option.some.inj h
    exact e_ret (ls := [(.p (.bool w3), 2)]) (by kernel_rfl) rfl (by kernel_rfl) rfl
theorem wk_slices_Clone_Lint_int {a0 : (List Int)} {r : (List Int)} (h : slices_Clone_Lint_int a0 = some r) : Meets Try.prog 112 [.d false [.sl none (a0.map eI)]] { vals := [.ov false [.sl (some 3) (r.map eI)]] } := by
  refine Meets_ofL (by kernel_rfl) Try.func112 rfl (by kernel_rfl) (l0 := [(0, .d false [.sl none (a0.map eI)])]) (by kernel_rfl) ?_
  unfold slices_Clone_Lint_int at h
  refine k_sreg (r_go [(0, .d false [.sl none (a0.map eI)])] [] [] (by kernel_rfl) trivial) ?_
  refine k_seq ?_
  refine k_nil (e := 3) (z := 0) (d := 4) (rows := (a0.map eI)) (fun b => [(0, .d false [.sl none (a0.map eI)]), (4, .p (.bool b))]) rfl rfl rfl rfl rfl rfl (by kernel_rfl) rfl (fun v => by cases v <;> kernel_rfl) (fun v => by cases v <;> kernel_rfl) ?_ (fun hnil => ?_)
  · refine k_cond (b := false) (by kernel_rfl) (fun hno => by cases hno) (fun _ => ?_)
    refine k_skip ?_
    refine q_n ?_
    replace h := bind_some' h
    obtain ⟨u2, hu2, h⟩ := h
    refine k_sreg (r_go [(2, .ov false [.sl (some 3) (a0.map eI)])] [] [List.length ([] : List (List C)) + List.length ((a0.map eI) : List (List C)) ≤ 1099511627776, ∀ row ∈ ((a0.map eI) : List (List C)), row.length = 1] (by kernel_rfl) ⟨(by have hg := (guardO_some hu2); simpa using hg), (rows_len fun _ => rfl), trivial⟩) ?_
    refine k_ret ?_
    obtain rfl := Option.some.inj h
    exact e_ret (ls := [(.ov false [.sl (some 3) (a0.map eI)], 2)]) (by kernel_rfl) rfl (by kernel_rfl) rfl
  · obtain rfl := List.map_eq_nil_iff.1 hnil
    refine k_cond (b := true) (by kernel_rfl) (fun _ => ?_) (fun hno => by cases hno)
    refine k_sreg (r_go [(2, .ov false [.sl (some 3) []])] [] [] (by kernel_rfl) trivial) ?_
    refine k_ret ?_
    refine q_r ?_
    obtain rfl : r = [] := by simp [guardO] at h; first | exact h | exact h.symm
    exact e_ret (ls := [(.ov false [.sl (some 3) []], 2)]) (by kernel_rfl) rfl (by kernel_rfl) rfl
theorem wk_impl_polynomial {a0 : (List Int)}  {r : ((List Int) × Bool)} (h : impl_polynomial a0 = some r) : Meets Try.prog 80 [.d false [.sl none (a0.map eI)]] { vals := [.ov false [.sl (some 3) (r.1.map eI)], .p (.bool r.2)] } := by
  refine Meets_ofL (by kernel_rfl) Try.func80 rfl (by kernel_rfl) (l0 := [(0, .d false [.sl none (a0.map eI)])]) (by kernel_rfl) ?_
  unfold impl_polynomial at h
  refine k_sreg (r_go [(0, .d false [.sl none (a0.map eI)])] [] [] (by kernel_rfl) trivial) ?_
  refine k_join (J := fun (x : (List Int)) => [(0, .d false [.sl none (x.map eI)])]) (K := fun x => impl_polynomial_k1 x = some r) (fun x1 h => ?_) ?_
  · unfold impl_polynomial_k1 at h
    refine k_seq ?_
    replace h := bind_some' h
    obtain ⟨v2, hv2, h⟩ := h
    refine k_sreg (r_go [(0, .d false [.sl none (x1.map eI)]), (23, .p (.bool (!v2)))] [(1, {call := some ([.d false [.sl none (x1.map eI)]], [.p (.bool v2)], true)})] [([.d false [.sl none (x1.map eI)]] : List Arg) = [.d false [.sl none (x1.map eI)]], Meets Try.prog 111 ([.d false [.sl none (x1.map eI)]] ++ []) { vals := [.p (.bool v2)] }, (!true || List.all [.p (.bool v2)] simpleR) = true] (by kernel_rfl) ⟨rfl, (wk_impl_isPolynomial hv2), (bt rfl), trivial⟩) ?_
    refine k_cond (b := (!v2)) (by kernel_rfl) (fun hc2_2 => ?_) (fun hc2_2 => ?_)
    · replace h := ite_t hc2_2 h
      refine k_sreg (r_go [(2, .ov false [.sl (some 3) []]), (3, .p (.bool false))] [] [] (by kernel_rfl) trivial) ?_
      refine k_ret ?_
      refine q_r ?_
      obtain rfl := Option.some.inj h
      exact e_ret (ls := [(.ov false [.sl (some 3) []], 2), (.p (.bool false), 3)]) (by kernel_rfl) rfl (by kernel_rfl) rfl
    · replace h := ite_f hc2_2 h
      refine k_skip ?_
      refine q_n ?_
      replace h := bind_some' h
      obtain ⟨v4, hv4, h⟩ := h
      refine k_sreg (r_go [(2, .ov false [.sl (some 3) (v4.map eI)]), (3, .p (.bool true))] [(1, {call := some ([.d false [.sl none (x1.map eI)]], [.ov false [.sl (some 3) (v4.map eI)]], true)})] [([.d false [.sl none (x1.map eI)]] : List Arg) = [.d false [.sl none (x1.map eI)]], Meets Try.prog 112 ([.d false [.sl none (x1.map eI)]] ++ []) { vals := [.ov false [.sl (some 3) (v4.map eI)]] }, (!true || List.all [.ov false [.sl (some 3) (v4.map eI)]] simpleR) = true] (by kernel_rfl) ⟨rfl, (wk_slices_Clone_Lint_int hv4), (bt (sa_o (wnR1 (wnL_enc wn_I) rfl) rfl)), trivial⟩) ?_
      refine k_ret ?_
      obtain rfl := Option.some.inj h
      exact e_ret (ls := [(.ov false [.sl (some 3) (v4.map eI)], 2), (.p (.bool true), 3)]) (by kernel_rfl) rfl (by kernel_rfl) rfl
  · refine k_block ?_
    obtain ⟨y6, hl_x5, hk_x5⟩ := bind_some' h
    clear h
    refine k_loop (J := fun (x : (List Int)) => [(0, .d false [.sl none (x.map eI)])]) hl_x5 (wk_of (by kernel_rfl) (by kernel_rfl)) (fun x5 o_x5 h hy_x5 => ?_)
    unfold impl_polynomial_b1 at h
    refine k_seq ?_
    replace h := bind_some' h
    obtain ⟨w8, hw8, h⟩ := h
    refine k_sreg (l1 := [(0, .d false [.sl none (x5.map eI)]), (15, .p (.bool w8))]) ?_ ?_
    · clear h
      rcases Bool.eq_false_or_eq_true (decide ((x5.length : Int) > 0)) with ha0 | ha0
      · replace hw8 := ite_t ha0 hw8
        replace hw8 := bind_some' hw8
        obtain ⟨v7, hv7, hw8⟩ := hw8
        have hw8 := Option.some.inj hw8
        subst hw8
        exact (r_go [(0, .d false [.sl none (x5.map eI)]), (15, .p (.bool (v7 == 0)))] [(1, {n := some x5.length}), (4, {g := some true}), (5, {g := some true}), (6, {g := some true, n := some x5.length}), (7, {g := some true}), (8, {g := some true, row := some [.raw (.int .i64 v7)]}), (9, {g := some true}), (10, {g := some true}), (11, {b := some true})] [(x5.map eI).length = x5.length, (decide ((x5.length : Int) > 0)) = true, (decide ((x5.length : Int) > 0)) = true, (decide ((x5.length : Int) > 0)) = true, (x5.map eI).length = x5.length, (decide ((x5.length : Int) > 0)) = true, (decide ((x5.length : Int) > 0)) = true, 0 ≤ (w64 ((x5.length : Int) - 1)), (x5.map eI)[(Int.toNat (w64 ((x5.length : Int) - 1)))]? = some [.raw (.int .i64 v7)], (decide ((x5.length : Int) > 0)) = true, (decide ((x5.length : Int) > 0)) = true, (decide ((x5.length : Int) > 0)) = true] (by kernel_rfl) ⟨(List.length_map ..), ha0, ha0, ha0, (List.length_map ..), ha0, ha0, (idxO_some hv7).1, (map_get eI (idxO_some hv7).2), ha0, ha0, ha0, trivial⟩)
      · replace hw8 := ite_f ha0 hw8
        have hw8 := Option.some.inj hw8
        subst hw8
        exact (r_go [(0, .d false [.sl none (x5.map eI)]), (15, .p (.bool false))] [(1, {n := some x5.length}), (4, {g := some false}), (5, {g := some false}), (6, {g := some false}), (7, {g := some false}), (8, {g := some false}), (9, {g := some false}), (10, {g := some false}), (11, {b := some false})] [(x5.map eI).length = x5.length, (decide ((x5.length : Int) > 0)) = false, (decide ((x5.length : Int) > 0)) = false, (decide ((x5.length : Int) > 0)) = false, (decide ((x5.length : Int) > 0)) = false, (decide ((x5.length : Int) > 0)) = false, (decide ((x5.length : Int) > 0)) = false, (decide ((x5.length : Int) > 0)) = false, (decide ((x5.length : Int) > 0)) = false] (by kernel_rfl) ⟨(List.length_map ..), ha0, ha0, ha0, ha0, ha0, ha0, ha0, ha0, trivial⟩)
    · refine k_cond (b := w8) (by kernel_rfl) (fun hc5_8 => ?_) (fun hc5_8 => ?_)
      · replace h := ite_t hc5_8 h
        refine k_skip ?_
        refine q_n ?_
        refine k_block ?_
        replace h := bind_some' h
        obtain ⟨u10, hu10, h⟩ := h
        refine k_reg (r_go [(0, .d false [.sl none ((x5.take (Int.toNat (w64 ((x5.length : Int) - 1)))).map eI)])] [(2, {n := some x5.length}), (4, {fix := some (20, .d false [.sl none ((x5.take (Int.toNat (w64 ((x5.length : Int) - 1)))).map eI)])})] [(x5.map eI).length = x5.length, 0 ≤ (Int.toNat (w64 ((x5.length : Int) - 1))), (Int.toNat (w64 ((x5.length : Int) - 1))) ≤ (x5.map eI).length, ∀ row ∈ (x5.map eI), row.length = 1, (0 : Int) ≤ (w64 ((x5.length : Int) - 1)), (SV.d false [.sl none (((x5.map eI).take (Int.toNat (w64 ((x5.length : Int) - 1)))).drop 0)] : SV) = .d false [.sl none ((x5.take (Int.toNat (w64 ((x5.length : Int) - 1)))).map eI)]] (by kernel_rfl) ⟨(List.length_map ..), (by have hg := (guardO_some hu10); first | (simp only [List.length_map]; omega) | omega), (by have hg := (guardO_some hu10); first | (simp only [List.length_map]; omega) | omega), (rows_len fun _ => rfl), (by have hg := (guardO_some hu10); omega), (congrArg (fun z => SV.d false [.sl none z]) sl_hi), trivial⟩) ?_
        refine b_n ?_
        exact lq_n (x5.take (Int.toNat (w64 ((x5.length : Int) - 1)))) (Option.some.inj h).symm (wk_of (by kernel_rfl) (by kernel_rfl))
      · replace h := ite_f hc5_8 h
        refine k_exit ?_
        refine q_x ?_
        refine lq_x ?_
        refine b_x ?_
        have hyy := hy_x5 _ (Option.some.inj h).symm
        subst hyy
        have h := hk_x5
        refine q_n ?_
        exact ⟨x5, h, (wk_of (by kernel_rfl) (by kernel_rfl))⟩
theorem wk_impl_ZetaDenominator {a0 : (List (List Int))}  {r : ((List Int) × Bool)} (h : impl_ZetaDenominator a0 = some r) : Meets Try.prog 44 [.d false [.sl none (a0.map (eF eI))]] { vals := [.ov false [.sl (some 3) (r.1.map eI)], .p (.bool r.2)] } := by
  refine Meets_ofL (by kernel_rfl) Try.func44 rfl (by kernel_rfl) (l0 := [(0, .d false [.sl none (a0.map (eF eI))])]) (by kernel_rfl) ?_
  unfold impl_ZetaDenominator at h
  refine k_sreg (r_go [(0, .d false [.sl none (a0.map (eF eI))])] [] [] (by kernel_rfl) trivial) ?_
  refine k_seq ?_
  replace h := bind_some' h
  obtain ⟨v1, hv1, h⟩ := h
  refine k_sreg (r_go [(0, .d false [.sl none (a0.map (eF eI))]), (7, .p (.bool (!v1)))] [(1, {call := some ([.d false [.sl none (a0.map (eF eI))]], [.p (.bool v1)], true)})] [([.d false [.sl none (a0.map (eF eI))]] : List Arg) = [.d false [.sl none (a0.map (eF eI))]], Meets Try.prog 68 ([.d false [.sl none (a0.map (eF eI))]] ++ []) { vals := [.p (.bool v1)] }, (!true || List.all [.p (.bool v1)] simpleR) = true] (by kernel_rfl) ⟨rfl, (wk_impl_isGraph hv1), (bt rfl), trivial⟩) ?_
  refine k_cond (b := (!v1)) (by kernel_rfl) (fun hc2_1 => ?_) (fun hc2_1 => ?_)
  · replace h := ite_t hc2_1 h
    refine k_sreg (r_go [(2, .ov false [.sl (some 3) []]), (3, .p (.bool false))] [] [] (by kernel_rfl) trivial) ?_
    refine k_ret ?_
    refine q_r ?_
    obtain rfl := Option.some.inj h
    exact e_ret (ls := [(.ov false [.sl (some 3) []], 2), (.p (.bool false), 3)]) (by kernel_rfl) rfl (by kernel_rfl) rfl
  · replace h := ite_f hc2_1 h
    refine k_skip ?_
    refine q_n ?_
    replace h := bind_some' h
    obtain ⟨v3, hv3, h⟩ := h
    refine k_sreg (r_go [(4, .ov false [.sl (some 3) (v3.map eI)])] [(1, {call := some ([.d false [.sl none (a0.map (eF eI))]], [.ov false [.sl (some 3) (v3.map eI)]], true)})] [([.d false [.sl none (a0.map (eF eI))]] : List Arg) = [.d false [.sl none (a0.map (eF eI))]], Meets Try.prog 81 ([.d false [.sl none (a0.map (eF eI))]] ++ []) { vals := [.ov false [.sl (some 3) (v3.map eI)]] }, (!true || List.all [.ov false [.sl (some 3) (v3.map eI)]] simpleR) = true] (by kernel_rfl) ⟨rfl, (wk_impl_characteristic hv3), (bt (sa_o (wnR1 (wnL_enc wn_I) rfl) rfl)), trivial⟩) ?_
    replace h := bind_some' h
    obtain ⟨v4, hv4, h⟩ := h
    refine k_sreg (r_go [(4, .ov false [.sl (some 3) (v4.map eI)])] [(1, {lend := some ([], [], .ov false [.sl (some 3) (v4.map eI)], true)})] [([] : List Arg) = [], MeetsB Try.prog 83 (.ov false [.sl (some 3) (v3.map eI)]) [] [] (.ov false [.sl (some 3) (v4.map eI)]), (!true || (List.all [] simpleR && wnS (.ov false [.sl (some 3) (v4.map eI)]))) = true] (by kernel_rfl) ⟨rfl, (wk_slices_Reverse_Lint_int hv4), (bt (ls_t rfl (wnR1 (wnL_enc wn_I) rfl))), trivial⟩) ?_
    replace h := bind_some' h
    obtain ⟨v5, hv5, h⟩ := h
    refine k_sreg (r_go [(2, .ov false [.sl (some 3) (v5.1.map eI)]), (3, .p (.bool v5.2))] [(1, {call := some ([.d false [.sl none (v4.map eI)]], [.ov false [.sl (some 3) (v5.1.map eI)], .p (.bool v5.2)], true)})] [([.d false [.sl none (eraL (v4.map eI))]] : List Arg) = [.d false [.sl none (v4.map eI)]], Meets Try.prog 80 ([.d false [.sl none (v4.map eI)]] ++ []) { vals := [.ov false [.sl (some 3) (v5.1.map eI)], .p (.bool v5.2)] }, (!true || List.all [.ov false [.sl (some 3) (v5.1.map eI)], .p (.bool v5.2)] simpleR) = true] (by kernel_rfl) ⟨(by simp only [eraL_enc (h := eI) er_I]), (wk_impl_polynomial hv5), (bt (sa_o (wnR1 (wnL_enc wn_I) rfl) (sa_p rfl))), trivial⟩) ?_
    refine k_ret ?_
    obtain rfl := Option.some.inj h
    exact e_ret (ls := [(.ov false [.sl (some 3) (v5.1.map eI)], 2), (.p (.bool v5.2), 3)]) (by kernel_rfl) rfl (by kernel_rfl) rfl
theorem wk_laws_eqIntS {a0 : (List Int)} {a1 : (List Int)}  {r : Bool} (h : laws_eqIntS a0 a1 = some r) : Meets Try.prog 18 [.d false [.sl none (a0.map eI)], .d false [.sl none (a1.map eI)]] { vals := [.p (.bool r)] } := by
  refine Meets_ofL (by kernel_rfl) Try.func18 rfl (by kernel_rfl) (l0 := [(0, .d false [.sl none (a0.map eI)]), (1, .d false [.sl none (a1.map eI)])]) (by kernel_rfl) ?_
  unfold laws_eqIntS at h
  refine k_sreg (r_go [(0, .d false [.sl none (a0.map eI)]), (1, .d false [.sl none (a1.map eI)])] [] [] (by kernel_rfl) trivial) ?_
  refine k_seq ?_
  refine k_sreg (r_go [(0, .d false [.sl none (a0.map eI)]), (1, .d false [.sl none (a1.map eI)]), (10, .p (.bool ((a0.length : Int) != (a1.length : Int))))] [(1, {n := some a0.length}), (3, {n := some a1.length})] [(a0.map eI).length = a0.length, (a1.map eI).length = a1.length] (by kernel_rfl) ⟨(List.length_map ..), (List.length_map ..), trivial⟩) ?_
  refine k_cond (b := ((a0.length : Int) != (a1.length : Int))) (by kernel_rfl) (fun hc2_0 => ?_) (fun hc2_0 => ?_)
  · replace h := ite_t hc2_0 h
    refine k_sreg (r_go [(4, .p (.bool false))] [] [] (by kernel_rfl) trivial) ?_
    refine k_ret ?_
    refine q_r ?_
    obtain rfl := Option.some.inj h
    exact e_ret (ls := [(.p (.bool false), 4)]) (by kernel_rfl) rfl (by kernel_rfl) rfl
  · replace h := ite_f hc2_0 h
    refine k_skip ?_
    refine q_n ?_
    refine k_join (J := fun (x : Unit) => []) (K := fun x => laws_eqIntS_k1 x = some r) (fun x2 h => ?_) ?_
    · unfold laws_eqIntS_k1 at h
      refine k_sreg (r_go [(4, .p (.bool true))] [] [] (by kernel_rfl) trivial) ?_
      refine k_ret ?_
      obtain rfl := Option.some.inj h
      exact e_ret (ls := [(.p (.bool true), 4)]) (by kernel_rfl) rfl (by kernel_rfl) rfl
    · refine k_sreg (r_go [(0, .d false [.sl none (a0.map eI)]), (1, .d false [.sl none (a1.map eI)]), (5, .p (.int .i64 0))] [] [] (by kernel_rfl) trivial) ?_
      refine k_block ?_
      obtain ⟨y4, hl_x3, hk_x3⟩ := bind_some' h
      clear h
      refine k_loop (J := fun (x : Int) => [(0, .d false [.sl none (a0.map eI)]), (1, .d false [.sl none (a1.map eI)]), (5, .p (.int .i64 x))]) hl_x3 (wk_of (by kernel_rfl) (by kernel_rfl)) (fun x3 o_x3 h hy_x3 => ?_)
      unfold laws_eqIntS_b1 at h
      refine k_seq ?_
      refine k_sreg (r_go [(0, .d false [.sl none (a0.map eI)]), (1, .d false [.sl none (a1.map eI)]), (5, .p (.int .i64 x3)), (14, .p (.bool (decide (x3 < (a0.length : Int)))))] [(2, {n := some a0.length})] [(a0.map eI).length = a0.length] (by kernel_rfl) ⟨(List.length_map ..), trivial⟩) ?_
      refine k_cond (b := (decide (x3 < (a0.length : Int)))) (by kernel_rfl) (fun hc5_4 => ?_) (fun hc5_4 => ?_)
      · replace h := ite_t hc5_4 h
        refine k_skip ?_
        refine q_n ?_
        refine k_seq ?_
        refine k_block ?_
        replace h := bind_some' h
        obtain ⟨v6, hv6, h⟩ := h
        replace h := bind_some' h
        obtain ⟨v7, hv7, h⟩ := h
        refine k_sreg (r_draw Try_mixed 8 [] [(0, .d false [.sl none (a0.map eI)]), (1, .d false [.sl none (a1.map eI)]), (5, .p (.int .i64 x3)), (25, .p (.bool (v6 != v7)))] [(2, {row := some [.raw (.int .i64 v6)]}), (6, {row := some [.raw (.int .i64 v7)]})] [0 ≤ x3, (a0.map eI)[(Int.toNat x3)]? = some [.raw (.int .i64 v6)], 0 ≤ x3, (a1.map eI)[(Int.toNat x3)]? = some [.raw (.int .i64 v7)]] (by kernel_rfl) ⟨(idxO_some hv6).1, (map_get eI (idxO_some hv6).2), (idxO_some hv7).1, (map_get eI (idxO_some hv7).2), trivial⟩) ?_
        refine k_cond (b := (v6 != v7)) (by kernel_rfl) (fun hc6_7 => ?_) (fun hc6_7 => ?_)
        · replace h := ite_t hc6_7 h
          refine k_sreg (r_go [(4, .p (.bool false))] [] [] (by kernel_rfl) trivial) ?_
          refine k_ret ?_
          refine b_r ?_
          refine q_r ?_
          refine lq_r ?_
          refine b_r ?_
          refine q_r ?_
          have hyy := hy_x3 _ (Option.some.inj h).symm
          subst hyy
          have h := hk_x3
          dsimp only [Sum.elim] at h
          obtain rfl := Option.some.inj h
          exact e_ret (ls := [(.p (.bool false), 4)]) (by kernel_rfl) rfl (by kernel_rfl) rfl
        · replace h := ite_f hc6_7 h
          refine k_skip ?_
          refine b_n ?_
          refine q_n ?_
          refine k_reg (r_go [(0, .d false [.sl none (a0.map eI)]), (1, .d false [.sl none (a1.map eI)]), (5, .p (.int .i64 (w64 (x3 + 1))))] [] [] (by kernel_rfl) trivial) ?_
          exact lq_n (w64 (x3 + 1)) (Option.some.inj h).symm (wk_of (by kernel_rfl) (by kernel_rfl))
      · replace h := ite_f hc5_4 h
        refine k_exit ?_
        refine q_x ?_
        refine lq_x ?_
        refine b_x ?_
        have hyy := hy_x3 _ (Option.some.inj h).symm
        subst hyy
        have h := hk_x3
        dsimp only [Sum.elim] at h
        refine q_n ?_
        exact ⟨(), h, (wk_of (by kernel_rfl) (by kernel_rfl))⟩
theorem wk_laws_eqIntSS {a0 : (List (List Int))} {a1 : (List (List Int))}  {r : Bool} (h : laws_eqIntSS a0 a1 = some r) : Meets Try.prog 27 [.d false [.sl none (a0.map (eF eI))], .d false [.sl none (a1.map (eF eI))]] { vals := [.p (.bool r)] } := by
  refine Meets_ofL (by kernel_rfl) Try.func27 rfl (by kernel_rfl) (l0 := [(0, .d false [.sl none (a0.map (eF eI))]), (1, .d false [.sl none (a1.map (eF eI))])]) (by kernel_rfl) ?_
  unfold laws_eqIntSS at h
  refine k_sreg (r_go [(0, .d false [.sl none (a0.map (eF eI))]), (1, .d false [.sl none (a1.map (eF eI))])] [] [] (by kernel_rfl) trivial) ?_
  refine k_seq ?_
  refine k_sreg (r_go [(0, .d false [.sl none (a0.map (eF eI))]), (1, .d false [.sl none (a1.map (eF eI))]), (10, .p (.bool ((a0.length : Int) != (a1.length : Int))))] [(1, {n := some a0.length}), (3, {n := some a1.length})] [(a0.map (eF eI)).length = a0.length, (a1.map (eF eI)).length = a1.length] (by kernel_rfl) ⟨(List.length_map ..), (List.length_map ..), trivial⟩) ?_
  refine k_cond (b := ((a0.length : Int) != (a1.length : Int))) (by kernel_rfl) (fun hc2_0 => ?_) (fun hc2_0 => ?_)
  · replace h := ite_t hc2_0 h
    refine k_sreg (r_go [(4, .p (.bool false))] [] [] (by kernel_rfl) trivial) ?_
    refine k_ret ?_
    refine q_r ?_
    obtain rfl := Option.some.inj h
    exact e_ret (ls := [(.p (.bool false), 4)]) (by kernel_rfl) rfl (by kernel_rfl) rfl
  · replace h := ite_f hc2_0 h
    refine k_skip ?_
    refine q_n ?_
    refine k_join (J := fun (x : Unit) => []) (K := fun x => laws_eqIntSS_k1 x = some r) (fun x2 h => ?_) ?_
    · unfold laws_eqIntSS_k1 at h
      refine k_sreg (r_go [(4, .p (.bool true))] [] [] (by kernel_rfl) trivial) ?_
      refine k_ret ?_
      obtain rfl := Option.some.inj h
      exact e_ret (ls := [(.p (.bool true), 4)]) (by kernel_rfl) rfl (by kernel_rfl) rfl
    · refine k_sreg (r_go [(0, .d false [.sl none (a0.map (eF eI))]), (1, .d false [.sl none (a1.map (eF eI))]), (5, .p (.int .i64 0))] [] [] (by kernel_rfl) trivial) ?_
      refine k_block ?_
      obtain ⟨y4, hl_x3, hk_x3⟩ := bind_some' h
      clear h
      refine k_loop (J := fun (x : Int) => [(0, .d false [.sl none (a0.map (eF eI))]), (1, .d false [.sl none (a1.map (eF eI))]), (5, .p (.int .i64 x))]) hl_x3 (wk_of (by kernel_rfl) (by kernel_rfl)) (fun x3 o_x3 h hy_x3 => ?_)
      unfold laws_eqIntSS_b1 at h
      refine k_seq ?_
      refine k_sreg (r_go [(0, .d false [.sl none (a0.map (eF eI))]), (1, .d false [.sl none (a1.map (eF eI))]), (5, .p (.int .i64 x3)), (14, .p (.bool (decide (x3 < (a0.length : Int)))))] [(2, {n := some a0.length})] [(a0.map (eF eI)).length = a0.length] (by kernel_rfl) ⟨(List.length_map ..), trivial⟩) ?_
      refine k_cond (b := (decide (x3 < (a0.length : Int)))) (by kernel_rfl) (fun hc5_4 => ?_) (fun hc5_4 => ?_)
      · replace h := ite_t hc5_4 h
        refine k_skip ?_
        refine q_n ?_
        refine k_seq ?_
        refine k_block ?_
        replace h := bind_some' h
        obtain ⟨v6, hv6, h⟩ := h
        replace h := bind_some' h
        obtain ⟨v7, hv7, h⟩ := h
        replace h := bind_some' h
        obtain ⟨v8, hv8, h⟩ := h
        refine k_sreg (r_draw Try_mixed 8 [] [(0, .d false [.sl none (a0.map (eF eI))]), (1, .d false [.sl none (a1.map (eF eI))]), (5, .p (.int .i64 x3)), (26, .p (.bool (!v8)))] [(2, {row := some [.sl none (v6.map eI)]}), (6, {row := some [.sl none (v7.map eI)]}), (8, {call := some ([.d false [.sl none (v6.map eI)], .d false [.sl none (v7.map eI)]], [.p (.bool v8)], true)})] [0 ≤ x3, (a0.map (eF eI))[(Int.toNat x3)]? = some [.sl none (v6.map eI)], 0 ≤ x3, (a1.map (eF eI))[(Int.toNat x3)]? = some [.sl none (v7.map eI)], ([.d false [.sl none (v6.map eI)], .d false [.sl none (v7.map eI)]] : List Arg) = [.d false [.sl none (v6.map eI)], .d false [.sl none (v7.map eI)]], Meets Try.prog 18 ([.d false [.sl none (v6.map eI)], .d false [.sl none (v7.map eI)]] ++ []) { vals := [.p (.bool v8)] }, (!true || List.all [.p (.bool v8)] simpleR) = true] (by kernel_rfl) ⟨(idxO_some hv6).1, (map_get (eF eI) (idxO_some hv6).2), (idxO_some hv7).1, (map_get (eF eI) (idxO_some hv7).2), rfl, (wk_laws_eqIntS hv8), (bt rfl), trivial⟩) ?_
        refine k_cond (b := (!v8)) (by kernel_rfl) (fun hc6_8 => ?_) (fun hc6_8 => ?_)
        · replace h := ite_t hc6_8 h
          refine k_sreg (r_go [(4, .p (.bool false))] [] [] (by kernel_rfl) trivial) ?_
          refine k_ret ?_
          refine b_r ?_
          refine q_r ?_
          refine lq_r ?_
          refine b_r ?_
          refine q_r ?_
          have hyy := hy_x3 _ (Option.some.inj h).symm
          subst hyy
          have h := hk_x3
          dsimp only [Sum.elim] at h
          obtain rfl := Option.some.inj h
          exact e_ret (ls := [(.p (.bool false), 4)]) (by kernel_rfl) rfl (by kernel_rfl) rfl
        · replace h := ite_f hc6_8 h
          refine k_skip ?_
          refine b_n ?_
          refine q_n ?_
          refine k_reg (r_go [(0, .d false [.sl none (a0.map (eF eI))]), (1, .d false [.sl none (a1.map (eF eI))]), (5, .p (.int .i64 (w64 (x3 + 1))))] [] [] (by kernel_rfl) trivial) ?_
          exact lq_n (w64 (x3 + 1)) (Option.some.inj h).symm (wk_of (by kernel_rfl) (by kernel_rfl))
      · replace h := ite_f hc5_4 h
        refine k_exit ?_
        refine q_x ?_
        refine lq_x ?_
        refine b_x ?_
        have hyy := hy_x3 _ (Option.some.inj h).symm
        subst hyy
        have h := hk_x3
        dsimp only [Sum.elim] at h
        refine q_n ?_
        exact ⟨(), h, (wk_of (by kernel_rfl) (by kernel_rfl))⟩
theorem wk_laws_markIntS {a0 : (List Int)} {a1 : Int}  {r : (Int × (List Int))} (h : laws_markIntS a0 a1 = some r) : MeetsB Try.prog 29 (.ov false [.sl (some 3) (a0.map eI)]) [.v (.int .i64 a1)] [.p (.int .i64 r.1)] (.ov false [.sl (some 3) (r.2.map eI)]) := by
  refine MeetsB_ofL (by kernel_rfl) Try.func29 rfl (by kernel_rfl) rfl (l0 := [(0, .ov false [.sl (some 3) (a0.map eI)]), (1, .p (.int .i64 a1))]) (by kernel_rfl) ?_
  unfold laws_markIntS at h
  refine k_sreg (r_go [(0, .ov false [.sl (some 3) (a0.map eI)]), (1, .p (.int .i64 a1))] [] [] (by kernel_rfl) trivial) ?_
  refine k_join (J := fun (x : ((List Int) × Int)) => [(0, .ov false [.sl (some 3) (x.1.map eI)]), (1, .p (.int .i64 x.2))]) (K := fun x => laws_markIntS_k1 x = some r) (fun x1 h => ?_) ?_
  · unfold laws_markIntS_k1 at h
    refine k_sreg (r_go [(0, .ov false [.sl (some 3) (x1.1.map eI)]), (4, .p (.int .i64 x1.2))] [] [] (by kernel_rfl) trivial) ?_
    refine k_ret ?_
    obtain rfl := Option.some.inj h
    exact eb_ret (ls := [(.p (.int .i64 x1.2), 4)]) (by kernel_rfl) rfl rfl (by kernel_rfl) (by kernel_rfl)
  · refine k_sreg (r_go [(0, .ov false [.sl (some 3) (a0.map eI)]), (1, .p (.int .i64 a1)), (5, .p (.int .i64 0))] [] [] (by kernel_rfl) trivial) ?_
    refine k_block ?_
    obtain ⟨y3, hl_x2, hk_x2⟩ := bind_some' h
    clear h
    refine k_loop (J := fun (x : ((List Int) × Int × Int)) => [(0, .ov false [.sl (some 3) (x.1.map eI)]), (1, .p (.int .i64 x.2.1)), (5, .p (.int .i64 x.2.2))]) hl_x2 (wk_of (by kernel_rfl) (by kernel_rfl)) (fun x2 o_x2 h hy_x2 => ?_)
    unfold laws_markIntS_b1 at h
    refine k_seq ?_
    refine k_sreg (r_go [(0, .ov false [.sl (some 3) (x2.1.map eI)]), (1, .p (.int .i64 x2.2.1)), (5, .p (.int .i64 x2.2.2)), (9, .p (.bool (decide (x2.2.2 < (x2.1.length : Int)))))] [(2, {n := some x2.1.length})] [(x2.1.map eI).length = x2.1.length] (by kernel_rfl) ⟨(List.length_map ..), trivial⟩) ?_
    refine k_cond (b := (decide (x2.2.2 < (x2.1.length : Int)))) (by kernel_rfl) (fun hc5_3 => ?_) (fun hc5_3 => ?_)
    · replace h := ite_t hc5_3 h
      refine k_skip ?_
      refine q_n ?_
      refine k_seq ?_
      refine k_block ?_
      replace h := bind_some' h
      obtain ⟨v5, hv5, h⟩ := h
      refine k_sreg (r_go [(0, .ov false [.sl (some 3) ((x2.1.set (Int.toNat x2.2.2) x2.2.1).map eI)]), (1, .p (.int .i64 x2.2.1)), (5, .p (.int .i64 x2.2.2))] [(3, {row := some [.raw (.int .i64 v5)]}), (4, {row := some [.raw (.int .i64 v5)], fix := some (0, .ov false [.sl (some 3) ((x2.1.set (Int.toNat x2.2.2) x2.2.1).map eI)])})] [0 ≤ x2.2.2, (x2.1.map eI)[(Int.toNat x2.2.2)]? = some [.raw (.int .i64 v5)], getRow [[.sl (some 3) (x2.1.map eI)]] [(0, 0), ((Int.toNat x2.2.2), 0)] = some [.raw (.int .i64 v5)], (SV.ov false [.sl (some 3) (setL (x2.1.map eI) [((Int.toNat x2.2.2), 0)] [.raw (.int .i64 x2.2.1)])] : SV) = .ov false [.sl (some 3) ((x2.1.set (Int.toNat x2.2.2) x2.2.1).map eI)]] (by kernel_rfl) ⟨(idxO_some hv5).1, (map_get eI (idxO_some hv5).2), ((gr0 rfl).trans (gre (map_get eI (idxO_some hv5).2))), (congrArg (fun z => SV.ov false [.sl (some 3) z]) (set1 (f := eI) (y := x2.2.1) (idxO_some hv5).2 rfl)), trivial⟩) ?_
      refine k_reg (r_go [(0, .ov false [.sl (some 3) ((x2.1.set (Int.toNat x2.2.2) x2.2.1).map eI)]), (1, .p (.int .i64 (w64 (x2.2.1 + 1)))), (5, .p (.int .i64 x2.2.2))] [] [] (by kernel_rfl) trivial) ?_
      refine b_n ?_
      refine q_n ?_
      refine k_reg (r_go [(0, .ov false [.sl (some 3) ((x2.1.set (Int.toNat x2.2.2) x2.2.1).map eI)]), (1, .p (.int .i64 (w64 (x2.2.1 + 1)))), (5, .p (.int .i64 (w64 (x2.2.2 + 1))))] [] [] (by kernel_rfl) trivial) ?_
      exact lq_n ((x2.1.set (Int.toNat x2.2.2) x2.2.1), (w64 (x2.2.1 + 1)), (w64 (x2.2.2 + 1))) (Option.some.inj h).symm (wk_of (by kernel_rfl) (by kernel_rfl))
    · replace h := ite_f hc5_3 h
      refine k_exit ?_
      refine q_x ?_
      refine lq_x ?_
      refine b_x ?_
      have hyy := hy_x2 _ (Option.some.inj h).symm
      subst hyy
      have h := hk_x2
      refine q_n ?_
      exact ⟨(x2.1, x2.2.1), h, (wk_of (by kernel_rfl) (by kernel_rfl))⟩
theorem wk_laws_markIntSS {a0 : (List (List Int))} {a1 : Int}  {r : (Int × (List (List Int)))} (h : laws_markIntSS a0 a1 = some r) : MeetsB Try.prog 28 (.ov false [.sl (some 22) (a0.map (eO 3 eI))]) [.v (.int .i64 a1)] [.p (.int .i64 r.1)] (.ov false [.sl (some 22) (r.2.map (eO 3 eI))]) := by
  refine MeetsB_ofL (by kernel_rfl) Try.func28 rfl (by kernel_rfl) rfl (l0 := [(0, .ov false [.sl (some 22) (a0.map (eO 3 eI))]), (1, .p (.int .i64 a1))]) (by kernel_rfl) ?_
  unfold laws_markIntSS at h
  refine k_sreg (r_go [(0, .ov false [.sl (some 22) (a0.map (eO 3 eI))]), (1, .p (.int .i64 a1))] [] [] (by kernel_rfl) trivial) ?_
  refine k_join (J := fun (x : ((List (List Int)) × Int)) => [(0, .ov false [.sl (some 22) (x.1.map (eO 3 eI))]), (1, .p (.int .i64 x.2))]) (K := fun x => laws_markIntSS_k1 x = some r) (fun x1 h => ?_) ?_
  · unfold laws_markIntSS_k1 at h
    refine k_sreg (r_go [(0, .ov false [.sl (some 22) (x1.1.map (eO 3 eI))]), (4, .p (.int .i64 x1.2))] [] [] (by kernel_rfl) trivial) ?_
    refine k_ret ?_
    obtain rfl := Option.some.inj h
    exact eb_ret (ls := [(.p (.int .i64 x1.2), 4)]) (by kernel_rfl) rfl rfl (by kernel_rfl) (by kernel_rfl)
  · refine k_sreg (r_go [(0, .ov false [.sl (some 22) (a0.map (eO 3 eI))]), (1, .p (.int .i64 a1)), (5, .p (.int .i64 0))] [] [] (by kernel_rfl) trivial) ?_
    refine k_block ?_
    obtain ⟨y3, hl_x2, hk_x2⟩ := bind_some' h
    clear h
    refine k_loop (J := fun (x : ((List (List Int)) × Int × Int)) => [(0, .ov false [.sl (some 22) (x.1.map (eO 3 eI))]), (1, .p (.int .i64 x.2.1)), (5, .p (.int .i64 x.2.2))]) hl_x2 (wk_of (by kernel_rfl) (by kernel_rfl)) (fun x2 o_x2 h hy_x2 => ?_)
    unfold laws_markIntSS_b1 at h
    refine k_seq ?_
    refine k_sreg (r_go [(0, .ov false [.sl (some 22) (x2.1.map (eO 3 eI))]), (1, .p (.int .i64 x2.2.1)), (5, .p (.int .i64 x2.2.2)), (9, .p (.bool (decide (x2.2.2 < (x2.1.length : Int)))))] [(2, {n := some x2.1.length})] [(x2.1.map (eO 3 eI)).length = x2.1.length] (by kernel_rfl) ⟨(List.length_map ..), trivial⟩) ?_
    refine k_cond (b := (decide (x2.2.2 < (x2.1.length : Int)))) (by kernel_rfl) (fun hc5_3 => ?_) (fun hc5_3 => ?_)
    · replace h := ite_t hc5_3 h
      refine k_skip ?_
      refine q_n ?_
      refine k_seq ?_
      refine k_block ?_
      replace h := bind_some' h
      obtain ⟨v5, hv5, h⟩ := h
      replace h := bind_some' h
      obtain ⟨v6, hv6, h⟩ := h
      refine k_reg (r_go [(0, .ov false [.sl (some 22) ((x2.1.set (Int.toNat x2.2.2) v6.2).map (eO 3 eI))]), (1, .p (.int .i64 v6.1)), (5, .p (.int .i64 x2.2.2))] [(2, {row := some [.sl (some 3) (v5.map eI)]}), (3, {row := some [.sl (some 3) (v5.map eI)]}), (5, {lend := some ([.v (.int .i64 x2.2.1)], [.p (.int .i64 v6.1)], .ov false [.sl (some 3) (v6.2.map eI)], true), deep := some [.sl (some 3) (v5.map eI)], fix := some (0, .ov false [.sl (some 22) ((x2.1.set (Int.toNat x2.2.2) v6.2).map (eO 3 eI))])})] [0 ≤ x2.2.2, (x2.1.map (eO 3 eI))[(Int.toNat x2.2.2)]? = some [.sl (some 3) (v5.map eI)], frR [.sl (some 3) (v5.map eI)] = false, getRow [[.sl (some 22) (x2.1.map (eO 3 eI))]] [(0, 0), ((Int.toNat x2.2.2), 0)] = some [.sl (some 3) (v5.map eI)], ([.v (.int .i64 x2.2.1)] : List Arg) = [.v (.int .i64 x2.2.1)], MeetsB Try.prog 29 (.ov false [.sl (some 3) (v5.map eI)]) [.v (.int .i64 x2.2.1)] [.p (.int .i64 v6.1)] (.ov false [.sl (some 3) (v6.2.map eI)]), (!true || (List.all [.p (.int .i64 v6.1)] simpleR && wnS (.ov false [.sl (some 3) (v6.2.map eI)]))) = true, getRow [[.sl (some 22) (x2.1.map (eO 3 eI))]] [(0, 0), ((Int.toNat x2.2.2), 0)] = some [.sl (some 3) (v5.map eI)], (SV.ov false [.sl (some 22) (setL (x2.1.map (eO 3 eI)) [((Int.toNat x2.2.2), 0)] [.sl (some 3) (v6.2.map eI)])] : SV) = .ov false [.sl (some 22) ((x2.1.set (Int.toNat x2.2.2) v6.2).map (eO 3 eI))]] (by kernel_rfl) ⟨(idxO_some hv5).1, (map_get (eO 3 eI) (idxO_some hv5).2), rfl, ((gr0 rfl).trans (gre (map_get (eO 3 eI) (idxO_some hv5).2))), rfl, (wk_laws_markIntS hv6), (bt (ls_t rfl (wnR1 (wnL_enc wn_I) rfl))), ((gr0 rfl).trans (gre (map_get (eO 3 eI) (idxO_some hv5).2))), (congrArg (fun z => SV.ov false [.sl (some 22) z]) (set1 (f := (eO 3 eI)) (y := v6.2) (idxO_some hv5).2 rfl)), trivial⟩) ?_
      refine b_n ?_
      refine q_n ?_
      refine k_reg (r_go [(0, .ov false [.sl (some 22) ((x2.1.set (Int.toNat x2.2.2) v6.2).map (eO 3 eI))]), (1, .p (.int .i64 v6.1)), (5, .p (.int .i64 (w64 (x2.2.2 + 1))))] [] [] (by kernel_rfl) trivial) ?_
      exact lq_n ((x2.1.set (Int.toNat x2.2.2) v6.2), v6.1, (w64 (x2.2.2 + 1))) (Option.some.inj h).symm (wk_of (by kernel_rfl) (by kernel_rfl))
    · replace h := ite_f hc5_3 h
      refine k_exit ?_
      refine q_x ?_
      refine lq_x ?_
      refine b_x ?_
      have hyy := hy_x2 _ (Option.some.inj h).symm
      subst hyy
      have h := hk_x2
      refine q_n ?_
      exact ⟨(x2.1, x2.2.1), h, (wk_of (by kernel_rfl) (by kernel_rfl))⟩
theorem wk_laws_heldIntS {a0 : (List Int)} {a1 : Int}  {r : Int} (h : laws_heldIntS a0 a1 = some r) : Meets Try.prog 30 [.d false [.sl none (a0.map eI)], .v (.int .i64 a1)] { vals := [.p (.int .i64 r)] } := by
  refine Meets_ofL (by kernel_rfl) Try.func30 rfl (by kernel_rfl) (l0 := [(0, .d false [.sl none (a0.map eI)]), (1, .p (.int .i64 a1))]) (by kernel_rfl) ?_
  unfold laws_heldIntS at h
  refine k_sreg (r_go [(0, .d false [.sl none (a0.map eI)]), (1, .p (.int .i64 a1))] [] [] (by kernel_rfl) trivial) ?_
  refine k_join (J := fun (x : Int) => [(1, .p (.int .i64 x))]) (K := fun x => laws_heldIntS_k1 x = some r) (fun x1 h => ?_) ?_
  · unfold laws_heldIntS_k1 at h
    refine k_sreg (r_go [(4, .p (.int .i64 x1))] [] [] (by kernel_rfl) trivial) ?_
    refine k_ret ?_
    obtain rfl := Option.some.inj h
    exact e_ret (ls := [(.p (.int .i64 x1), 4)]) (by kernel_rfl) rfl (by kernel_rfl) rfl
  · refine k_sreg (r_go [(0, .d false [.sl none (a0.map eI)]), (1, .p (.int .i64 a1)), (5, .p (.int .i64 0))] [] [] (by kernel_rfl) trivial) ?_
    refine k_block ?_
    obtain ⟨y3, hl_x2, hk_x2⟩ := bind_some' h
    clear h
    refine k_loop (J := fun (x : (Int × Int)) => [(0, .d false [.sl none (a0.map eI)]), (1, .p (.int .i64 x.1)), (5, .p (.int .i64 x.2))]) hl_x2 (wk_of (by kernel_rfl) (by kernel_rfl)) (fun x2 o_x2 h hy_x2 => ?_)
    unfold laws_heldIntS_b1 at h
    refine k_seq ?_
    refine k_sreg (r_go [(0, .d false [.sl none (a0.map eI)]), (1, .p (.int .i64 x2.1)), (5, .p (.int .i64 x2.2)), (9, .p (.bool (decide (x2.2 < (a0.length : Int)))))] [(2, {n := some a0.length})] [(a0.map eI).length = a0.length] (by kernel_rfl) ⟨(List.length_map ..), trivial⟩) ?_
    refine k_cond (b := (decide (x2.2 < (a0.length : Int)))) (by kernel_rfl) (fun hc5_3 => ?_) (fun hc5_3 => ?_)
    · replace h := ite_t hc5_3 h
      refine k_skip ?_
      refine q_n ?_
      refine k_seq ?_
      refine k_block ?_
      refine k_seq ?_
      replace h := bind_some' h
      obtain ⟨v5, hv5, h⟩ := h
      refine k_sreg (r_go [(0, .d false [.sl none (a0.map eI)]), (1, .p (.int .i64 x2.1)), (5, .p (.int .i64 x2.2)), (17, .p (.bool (v5 != x2.1)))] [(2, {row := some [.raw (.int .i64 v5)]})] [0 ≤ x2.2, (a0.map eI)[(Int.toNat x2.2)]? = some [.raw (.int .i64 v5)]] (by kernel_rfl) ⟨(idxO_some hv5).1, (map_get eI (idxO_some hv5).2), trivial⟩) ?_
      refine k_cond (b := (v5 != x2.1)) (by kernel_rfl) (fun hc7_5 => ?_) (fun hc7_5 => ?_)
      · replace h := ite_t hc7_5 h
        refine k_sreg (r_go [(4, .p (.int .i64 (-1)))] [] [] (by kernel_rfl) trivial) ?_
        refine k_ret ?_
        refine q_r ?_
        refine b_r ?_
        refine q_r ?_
        refine lq_r ?_
        refine b_r ?_
        refine q_r ?_
        have hyy := hy_x2 _ (Option.some.inj h).symm
        subst hyy
        have h := hk_x2
        dsimp only [Sum.elim] at h
        obtain rfl := Option.some.inj h
        exact e_ret (ls := [(.p (.int .i64 (-1)), 4)]) (by kernel_rfl) rfl (by kernel_rfl) rfl
      · replace h := ite_f hc7_5 h
        refine k_skip ?_
        refine q_n ?_
        refine k_reg (r_go [(0, .d false [.sl none (a0.map eI)]), (1, .p (.int .i64 (w64 (x2.1 + 1)))), (5, .p (.int .i64 x2.2))] [] [] (by kernel_rfl) trivial) ?_
        refine b_n ?_
        refine q_n ?_
        refine k_reg (r_go [(0, .d false [.sl none (a0.map eI)]), (1, .p (.int .i64 (w64 (x2.1 + 1)))), (5, .p (.int .i64 (w64 (x2.2 + 1))))] [] [] (by kernel_rfl) trivial) ?_
        exact lq_n ((w64 (x2.1 + 1)), (w64 (x2.2 + 1))) (Option.some.inj h).symm (wk_of (by kernel_rfl) (by kernel_rfl))
    · replace h := ite_f hc5_3 h
      refine k_exit ?_
      refine q_x ?_
      refine lq_x ?_
      refine b_x ?_
      have hyy := hy_x2 _ (Option.some.inj h).symm
      subst hyy
      have h := hk_x2
      dsimp only [Sum.elim] at h
      refine q_n ?_
      exact ⟨x2.1, h, (wk_of (by kernel_rfl) (by kernel_rfl))⟩
theorem wk_laws_FnExactZetaDenominator {a0 : (List (List Int))}  {r : Bool} (h : laws_FnExactZetaDenominator a0 = some r) : Meets Try.prog 12 [.d false [.sl none (a0.map (eF eI))]] { vals := [.p (.bool r)] } := by
  refine Meets_ofL (by kernel_rfl) Try.func12 rfl (by kernel_rfl) (l0 := [(0, .d false [.sl none (a0.map (eF eI))])]) (by kernel_rfl) ?_
  unfold laws_FnExactZetaDenominator at h
  refine k_sreg (r_go [(0, .d false [.sl none (a0.map (eF eI))])] [] [] (by kernel_rfl) trivial) ?_
  refine k_sreg (r_go [(0, .d false [.sl none (a0.map (eF eI))]), (3, .p (.int .i64 1048576))] [] [] (by kernel_rfl) trivial) ?_
  replace h := bind_some' h
  obtain ⟨v1, hv1, h⟩ := h
  refine k_sreg (r_go [(0, .d false [.sl none (a0.map (eF eI))]), (3, .p (.int .i64 v1))] [(2, {call := some ([.d false [.sl none (a0.map (eF eI))], .v (.int .i64 1048576)], [.p (.int .i64 v1)], true)})] [([.d false [.sl none (a0.map (eF eI))], .v (.int .i64 1048576)] : List Arg) = [.d false [.sl none (a0.map (eF eI))], .v (.int .i64 1048576)], Meets Try.prog 23 ([.d false [.sl none (a0.map (eF eI))], .v (.int .i64 1048576)] ++ []) { vals := [.p (.int .i64 v1)] }, (!true || List.all [.p (.int .i64 v1)] simpleR) = true] (by kernel_rfl) ⟨rfl, (wk_laws_szIntSS hv1), (bt rfl), trivial⟩) ?_
  refine k_seq ?_
  refine k_sreg (r_go [(0, .d false [.sl none (a0.map (eF eI))]), (18, .p (.bool (decide (v1 < 0))))] [] [] (by kernel_rfl) trivial) ?_
  refine k_cond (b := (decide (v1 < 0))) (by kernel_rfl) (fun hc2_1 => ?_) (fun hc2_1 => ?_)
  · replace h := ite_t hc2_1 h
    refine k_sreg (r_go [(2, .p (.bool true))] [] [] (by kernel_rfl) trivial) ?_
    refine k_ret ?_
    refine q_r ?_
    obtain rfl := Option.some.inj h
    exact e_ret (ls := [(.p (.bool true), 2)]) (by kernel_rfl) rfl (by kernel_rfl) rfl
  · replace h := ite_f hc2_1 h
    refine k_skip ?_
    refine q_n ?_
    replace h := bind_some' h
    obtain ⟨v3, hv3, h⟩ := h
    replace h := bind_some' h
    obtain ⟨v4, hv4, h⟩ := h
    refine k_sreg (r_go [(0, .d false [.sl none (a0.map (eF eI))]), (4, .ov false [.sl (some 3) (v4.1.map eI)]), (5, .p (.bool v4.2))] [(1, {call := some ([.d false [.sl none (a0.map (eF eI))]], [.ov false [.sl (some 22) (v3.map (eO 3 eI))]], true)}), (2, {call := some ([.d false [.sl none (v3.map (eF eI))]], [.ov false [.sl (some 3) (v4.1.map eI)], .p (.bool v4.2)], true)})] [([.d false [.sl none (a0.map (eF eI))]] : List Arg) = [.d false [.sl none (a0.map (eF eI))]], Meets Try.prog 25 ([.d false [.sl none (a0.map (eF eI))]] ++ []) { vals := [.ov false [.sl (some 22) (v3.map (eO 3 eI))]] }, (!true || List.all [.ov false [.sl (some 22) (v3.map (eO 3 eI))]] simpleR) = true, ([.d false [.sl none (eraL (v3.map (eO 3 eI)))]] : List Arg) = [.d false [.sl none (v3.map (eF eI))]], Meets Try.prog 43 ([.d false [.sl none (v3.map (eF eI))]] ++ []) { vals := [.ov false [.sl (some 3) (v4.1.map eI)], .p (.bool v4.2)] }, (!true || List.all [.ov false [.sl (some 3) (v4.1.map eI)], .p (.bool v4.2)] simpleR) = true] (by kernel_rfl) ⟨rfl, (wk_laws_toIntSS hv3), (bt (sa_o (wnR1 (wnL_enc (wn_O wn_I)) rfl) rfl)), (by simp only [eraL_enc (h := (eF eI)) (era_O er_I)]), (wk_spec_ZetaDenominator hv4), (bt (sa_o (wnR1 (wnL_enc wn_I) rfl) (sa_p rfl))), trivial⟩) ?_
    replace h := bind_some' h
    obtain ⟨v5, hv5, h⟩ := h
    refine k_sreg (r_go [(0, .d false [.sl none (a0.map (eF eI))]), (4, .ov false [.sl (some 3) (v4.1.map eI)]), (5, .p (.bool v4.2)), (6, .ov false [.sl (some 22) (v5.map (eO 3 eI))])] [(1, {call := some ([.d false [.sl none (a0.map (eF eI))]], [.ov false [.sl (some 22) (v5.map (eO 3 eI))]], true)})] [([.d false [.sl none (a0.map (eF eI))]] : List Arg) = [.d false [.sl none (a0.map (eF eI))]], Meets Try.prog 25 ([.d false [.sl none (a0.map (eF eI))]] ++ []) { vals := [.ov false [.sl (some 22) (v5.map (eO 3 eI))]] }, (!true || List.all [.ov false [.sl (some 22) (v5.map (eO 3 eI))]] simpleR) = true] (by kernel_rfl) ⟨rfl, (wk_laws_toIntSS hv5), (bt (sa_o (wnR1 (wnL_enc (wn_O wn_I)) rfl) rfl)), trivial⟩) ?_
    replace h := bind_some' h
    obtain ⟨v6, hv6, h⟩ := h
    refine k_sreg (r_go [(0, .d false [.sl none (a0.map (eF eI))]), (4, .ov false [.sl (some 3) (v4.1.map eI)]), (5, .p (.bool v4.2)), (6, .ov false [.sl (some 22) (v5.map (eO 3 eI))]), (7, .ov false [.sl (some 3) (v6.1.map eI)]), (8, .p (.bool v6.2))] [(1, {call := some ([.d false [.sl none (v5.map (eF eI))]], [.ov false [.sl (some 3) (v6.1.map eI)], .p (.bool v6.2)], true)})] [([.d false [.sl none (eraL (v5.map (eO 3 eI)))]] : List Arg) = [.d false [.sl none (v5.map (eF eI))]], Meets Try.prog 44 ([.d false [.sl none (v5.map (eF eI))]] ++ []) { vals := [.ov false [.sl (some 3) (v6.1.map eI)], .p (.bool v6.2)] }, (!true || List.all [.ov false [.sl (some 3) (v6.1.map eI)], .p (.bool v6.2)] simpleR) = true] (by kernel_rfl) ⟨(by simp only [eraL_enc (h := (eF eI)) (era_O er_I)]), (wk_impl_ZetaDenominator hv6), (bt (sa_o (wnR1 (wnL_enc wn_I) rfl) (sa_p rfl))), trivial⟩) ?_
    refine k_seq ?_
    replace h := bind_some' h
    obtain ⟨v7, hv7, h⟩ := h
    refine k_sreg (l1 := [(0, .d false [.sl none (a0.map (eF eI))]), (4, .ov false [.sl (some 3) (v4.1.map eI)]), (5, .p (.bool v4.2)), (6, .ov false [.sl (some 22) (v5.map (eO 3 eI))]), (7, .ov false [.sl (some 3) (v6.1.map eI)]), (8, .p (.bool v6.2)), (40, .p (.bool ((!v7) || (!(v6.2 == v4.2)))))]) ?_ ?_
    · rcases Bool.eq_false_or_eq_true (!v7) with ha1 | ha1
      · exact RegOk.of_eq (l2 := [(0, .d false [.sl none (a0.map (eF eI))]), (4, .ov false [.sl (some 3) (v4.1.map eI)]), (5, .p (.bool v4.2)), (6, .ov false [.sl (some 22) (v5.map (eO 3 eI))]), (7, .ov false [.sl (some 3) (v6.1.map eI)]), (8, .p (.bool v6.2)), (40, .p (.bool ((!v7) || (!(v6.2 == v4.2)))))]) (r_go [(0, .d false [.sl none (a0.map (eF eI))]), (4, .ov false [.sl (some 3) (v4.1.map eI)]), (5, .p (.bool v4.2)), (6, .ov false [.sl (some 22) (v5.map (eO 3 eI))]), (7, .ov false [.sl (some 3) (v6.1.map eI)]), (8, .p (.bool v6.2)), (40, .p (.bool true))] [(2, {call := some ([.d false [.sl none (v6.1.map eI)], .d false [.sl none (v4.1.map eI)]], [.p (.bool v7)], true)}), (5, {g := some true}), (6, {g := some true}), (7, {g := some true}), (8, {b := some true})] [([.d false [.sl none (eraL (v6.1.map eI))], .d false [.sl none (eraL (v4.1.map eI))]] : List Arg) = [.d false [.sl none (v6.1.map eI)], .d false [.sl none (v4.1.map eI)]], Meets Try.prog 18 ([.d false [.sl none (v6.1.map eI)], .d false [.sl none (v4.1.map eI)]] ++ []) { vals := [.p (.bool v7)] }, (!true || List.all [.p (.bool v7)] simpleR) = true, (!v7) = true, (!v7) = true, (!v7) = true, (!v7) = true] (by kernel_rfl) ⟨(by simp only [eraL_enc (h := eI) er_I, eraL_enc (h := eI) er_I]), (wk_laws_eqIntS hv7), (bt rfl), ha1, ha1, ha1, ha1, trivial⟩) (by simp [ha1])
      · exact RegOk.of_eq (l2 := [(0, .d false [.sl none (a0.map (eF eI))]), (4, .ov false [.sl (some 3) (v4.1.map eI)]), (5, .p (.bool v4.2)), (6, .ov false [.sl (some 22) (v5.map (eO 3 eI))]), (7, .ov false [.sl (some 3) (v6.1.map eI)]), (8, .p (.bool v6.2)), (40, .p (.bool ((!v7) || (!(v6.2 == v4.2)))))]) (r_go [(0, .d false [.sl none (a0.map (eF eI))]), (4, .ov false [.sl (some 3) (v4.1.map eI)]), (5, .p (.bool v4.2)), (6, .ov false [.sl (some 22) (v5.map (eO 3 eI))]), (7, .ov false [.sl (some 3) (v6.1.map eI)]), (8, .p (.bool v6.2)), (40, .p (.bool (!(v6.2 == v4.2))))] [(2, {call := some ([.d false [.sl none (v6.1.map eI)], .d false [.sl none (v4.1.map eI)]], [.p (.bool v7)], true)}), (5, {g := some false}), (6, {g := some false}), (7, {g := some false}), (8, {b := some false})] [([.d false [.sl none (eraL (v6.1.map eI))], .d false [.sl none (eraL (v4.1.map eI))]] : List Arg) = [.d false [.sl none (v6.1.map eI)], .d false [.sl none (v4.1.map eI)]], Meets Try.prog 18 ([.d false [.sl none (v6.1.map eI)], .d false [.sl none (v4.1.map eI)]] ++ []) { vals := [.p (.bool v7)] }, (!true || List.all [.p (.bool v7)] simpleR) = true, (!v7) = false, (!v7) = false, (!v7) = false, (!v7) = false] (by kernel_rfl) ⟨(by simp only [eraL_enc (h := eI) er_I, eraL_enc (h := eI) er_I]), (wk_laws_eqIntS hv7), (bt rfl), ha1, ha1, ha1, ha1, trivial⟩) (by simp [ha1])
    · refine k_cond (b := ((!v7) || (!(v6.2 == v4.2)))) (by kernel_rfl) (fun hc2_7 => ?_) (fun hc2_7 => ?_)
      · replace h := ite_t hc2_7 h
        refine k_sreg (r_go [(2, .p (.bool false))] [] [] (by kernel_rfl) trivial) ?_
        refine k_ret ?_
        refine q_r ?_
        obtain rfl := Option.some.inj h
        exact e_ret (ls := [(.p (.bool false), 2)]) (by kernel_rfl) rfl (by kernel_rfl) rfl
      · replace h := ite_f hc2_7 h
        refine k_skip ?_
        refine q_n ?_
        refine k_seq ?_
        replace h := bind_some' h
        obtain ⟨v9, hv9, h⟩ := h
        replace h := bind_some' h
        obtain ⟨v10, hv10, h⟩ := h
        refine k_sreg (r_go [(0, .d false [.sl none (a0.map (eF eI))]), (4, .ov false [.sl (some 3) (v4.1.map eI)]), (5, .p (.bool v4.2)), (6, .ov false [.sl (some 22) (v5.map (eO 3 eI))]), (7, .ov false [.sl (some 3) (v6.1.map eI)]), (8, .p (.bool v6.2)), (45, .p (.bool (!v10)))] [(2, {call := some ([.d false [.sl none (a0.map (eF eI))]], [.ov false [.sl (some 22) (v9.map (eO 3 eI))]], true)}), (3, {call := some ([.d false [.sl none (v5.map (eF eI))], .d false [.sl none (v9.map (eF eI))]], [.p (.bool v10)], true)})] [([.d false [.sl none (a0.map (eF eI))]] : List Arg) = [.d false [.sl none (a0.map (eF eI))]], Meets Try.prog 25 ([.d false [.sl none (a0.map (eF eI))]] ++ []) { vals := [.ov false [.sl (some 22) (v9.map (eO 3 eI))]] }, (!true || List.all [.ov false [.sl (some 22) (v9.map (eO 3 eI))]] simpleR) = true, ([.d false [.sl none (eraL (v5.map (eO 3 eI)))], .d false [.sl none (eraL (v9.map (eO 3 eI)))]] : List Arg) = [.d false [.sl none (v5.map (eF eI))], .d false [.sl none (v9.map (eF eI))]], Meets Try.prog 27 ([.d false [.sl none (v5.map (eF eI))], .d false [.sl none (v9.map (eF eI))]] ++ []) { vals := [.p (.bool v10)] }, (!true || List.all [.p (.bool v10)] simpleR) = true] (by kernel_rfl) ⟨rfl, (wk_laws_toIntSS hv9), (bt (sa_o (wnR1 (wnL_enc (wn_O wn_I)) rfl) rfl)), (by simp only [eraL_enc (h := (eF eI)) (era_O er_I), eraL_enc (h := (eF eI)) (era_O er_I)]), (wk_laws_eqIntSS hv10), (bt rfl), trivial⟩) ?_
        refine k_cond (b := (!v10)) (by kernel_rfl) (fun hc2_10 => ?_) (fun hc2_10 => ?_)
        · replace h := ite_t hc2_10 h
          refine k_sreg (r_go [(2, .p (.bool false))] [] [] (by kernel_rfl) trivial) ?_
          refine k_ret ?_
          refine q_r ?_
          obtain rfl := Option.some.inj h
          exact e_ret (ls := [(.p (.bool false), 2)]) (by kernel_rfl) rfl (by kernel_rfl) rfl
        · replace h := ite_f hc2_10 h
          refine k_skip ?_
          refine q_n ?_
          refine k_sreg (r_go [(0, .d false [.sl none (a0.map (eF eI))]), (4, .ov false [.sl (some 3) (v4.1.map eI)]), (5, .p (.bool v4.2)), (6, .ov false [.sl (some 22) (v5.map (eO 3 eI))]), (7, .ov false [.sl (some 3) (v6.1.map eI)]), (8, .p (.bool v6.2)), (9, .p (.int .i64 1))] [] [] (by kernel_rfl) trivial) ?_
          replace h := bind_some' h
          obtain ⟨v12, hv12, h⟩ := h
          refine k_sreg (r_go [(0, .d false [.sl none (a0.map (eF eI))]), (4, .ov false [.sl (some 3) (v4.1.map eI)]), (5, .p (.bool v4.2)), (7, .ov false [.sl (some 3) (v6.1.map eI)]), (8, .p (.bool v6.2)), (9, .p (.int .i64 v12.1))] [(2, {lend := some ([.v (.int .i64 1)], [.p (.int .i64 v12.1)], .ov false [.sl (some 22) (v12.2.map (eO 3 eI))], true)})] [([.v (.int .i64 1)] : List Arg) = [.v (.int .i64 1)], MeetsB Try.prog 28 (.ov false [.sl (some 22) (v5.map (eO 3 eI))]) [.v (.int .i64 1)] [.p (.int .i64 v12.1)] (.ov false [.sl (some 22) (v12.2.map (eO 3 eI))]), (!true || (List.all [.p (.int .i64 v12.1)] simpleR && wnS (.ov false [.sl (some 22) (v12.2.map (eO 3 eI))]))) = true] (by kernel_rfl) ⟨rfl, (wk_laws_markIntSS hv12), (bt (ls_t rfl (wnR1 (wnL_enc (wn_O wn_I)) rfl))), trivial⟩) ?_
          refine k_seq ?_
          replace h := bind_some' h
          obtain ⟨w14, hw14, h⟩ := h
          refine k_sreg (l1 := [(0, .d false [.sl none (a0.map (eF eI))]), (4, .ov false [.sl (some 3) (v4.1.map eI)]), (5, .p (.bool v4.2)), (7, .ov false [.sl (some 3) (v6.1.map eI)]), (61, .p (.bool w14))]) ?_ ?_
          · clear h
            rcases Bool.eq_false_or_eq_true (decide (v12.1 < 0)) with ha3 | ha3
            · replace hw14 := ite_t ha3 hw14
              have hw14 := Option.some.inj hw14
              subst hw14
              exact (r_go [(0, .d false [.sl none (a0.map (eF eI))]), (4, .ov false [.sl (some 3) (v4.1.map eI)]), (5, .p (.bool v4.2)), (7, .ov false [.sl (some 3) (v6.1.map eI)]), (61, .p (.bool true))] [(3, {g := some true}), (4, {g := some true}), (5, {g := some true}), (6, {g := some true}), (7, {b := some true}), (9, {g := some true}), (10, {g := some true}), (11, {g := some true}), (12, {b := some true})] [(decide (v12.1 < 0)) = true, (decide (v12.1 < 0)) = true, (decide (v12.1 < 0)) = true, (decide (v12.1 < 0)) = true, (decide (v12.1 < 0)) = true, true = true, true = true, true = true, true = true] (by kernel_rfl) ⟨ha3, ha3, ha3, ha3, ha3, rfl, rfl, rfl, rfl, trivial⟩)
            · replace hw14 := ite_f ha3 hw14
              replace hw14 := bind_some' hw14
              obtain ⟨v13, hv13, hw14⟩ := hw14
              rcases Bool.eq_false_or_eq_true (!v13) with ha4 | ha4
              · replace hw14 := ite_t ha4 hw14
                have hw14 := Option.some.inj hw14
                subst hw14
                exact (r_go [(0, .d false [.sl none (a0.map (eF eI))]), (4, .ov false [.sl (some 3) (v4.1.map eI)]), (5, .p (.bool v4.2)), (7, .ov false [.sl (some 3) (v6.1.map eI)]), (61, .p (.bool true))] [(3, {g := some false}), (4, {g := some false}), (5, {g := some false, call := some ([.d false [.sl none (v6.1.map eI)], .d false [.sl none (v4.1.map eI)]], [.p (.bool v13)], true)}), (6, {g := some false}), (7, {b := some false}), (9, {g := some true}), (10, {g := some true}), (11, {g := some true}), (12, {b := some true})] [(decide (v12.1 < 0)) = false, (decide (v12.1 < 0)) = false, (decide (v12.1 < 0)) = false, ([.d false [.sl none (eraL (v6.1.map eI))], .d false [.sl none (eraL (v4.1.map eI))]] : List Arg) = [.d false [.sl none (v6.1.map eI)], .d false [.sl none (v4.1.map eI)]], Meets Try.prog 18 ([.d false [.sl none (v6.1.map eI)], .d false [.sl none (v4.1.map eI)]] ++ []) { vals := [.p (.bool v13)] }, (!true || List.all [.p (.bool v13)] simpleR) = true, (decide (v12.1 < 0)) = false, (decide (v12.1 < 0)) = false, (!v13) = true, (!v13) = true, (!v13) = true, (!v13) = true] (by kernel_rfl) ⟨ha3, ha3, ha3, (by simp only [eraL_enc (h := eI) er_I, eraL_enc (h := eI) er_I]), (wk_laws_eqIntS hv13), (bt rfl), ha3, ha3, ha4, ha4, ha4, ha4, trivial⟩)
              · replace hw14 := ite_f ha4 hw14
                have hw14 := Option.some.inj hw14
                subst hw14
                exact (r_go [(0, .d false [.sl none (a0.map (eF eI))]), (4, .ov false [.sl (some 3) (v4.1.map eI)]), (5, .p (.bool v4.2)), (7, .ov false [.sl (some 3) (v6.1.map eI)]), (61, .p (.bool (!(v6.2 == v4.2))))] [(3, {g := some false}), (4, {g := some false}), (5, {g := some false, call := some ([.d false [.sl none (v6.1.map eI)], .d false [.sl none (v4.1.map eI)]], [.p (.bool v13)], true)}), (6, {g := some false}), (7, {b := some false}), (9, {g := some false}), (10, {g := some false}), (11, {g := some false}), (12, {b := some false})] [(decide (v12.1 < 0)) = false, (decide (v12.1 < 0)) = false, (decide (v12.1 < 0)) = false, ([.d false [.sl none (eraL (v6.1.map eI))], .d false [.sl none (eraL (v4.1.map eI))]] : List Arg) = [.d false [.sl none (v6.1.map eI)], .d false [.sl none (v4.1.map eI)]], Meets Try.prog 18 ([.d false [.sl none (v6.1.map eI)], .d false [.sl none (v4.1.map eI)]] ++ []) { vals := [.p (.bool v13)] }, (!true || List.all [.p (.bool v13)] simpleR) = true, (decide (v12.1 < 0)) = false, (decide (v12.1 < 0)) = false, (!v13) = false, (!v13) = false, (!v13) = false, (!v13) = false] (by kernel_rfl) ⟨ha3, ha3, ha3, (by simp only [eraL_enc (h := eI) er_I, eraL_enc (h := eI) er_I]), (wk_laws_eqIntS hv13), (bt rfl), ha3, ha3, ha4, ha4, ha4, ha4, trivial⟩)
          · refine k_cond (b := w14) (by kernel_rfl) (fun hc2_14 => ?_) (fun hc2_14 => ?_)
            · replace h := ite_t hc2_14 h
              refine k_sreg (r_go [(2, .p (.bool false))] [] [] (by kernel_rfl) trivial) ?_
              refine k_ret ?_
              refine q_r ?_
              obtain rfl := Option.some.inj h
              exact e_ret (ls := [(.p (.bool false), 2)]) (by kernel_rfl) rfl (by kernel_rfl) rfl
            · replace h := ite_f hc2_14 h
              refine k_skip ?_
              refine q_n ?_
              refine k_sreg (r_go [(0, .d false [.sl none (a0.map (eF eI))]), (4, .ov false [.sl (some 3) (v4.1.map eI)]), (5, .p (.bool v4.2)), (7, .ov false [.sl (some 3) (v6.1.map eI)]), (10, .p (.int .i64 1))] [] [] (by kernel_rfl) trivial) ?_
              replace h := bind_some' h
              obtain ⟨v16, hv16, h⟩ := h
              refine k_sreg (r_go [(0, .d false [.sl none (a0.map (eF eI))]), (4, .ov false [.sl (some 3) (v4.1.map eI)]), (5, .p (.bool v4.2)), (7, .ov false [.sl (some 3) (v16.2.map eI)]), (10, .p (.int .i64 v16.1))] [(2, {lend := some ([.v (.int .i64 1)], [.p (.int .i64 v16.1)], .ov false [.sl (some 3) (v16.2.map eI)], true)})] [([.v (.int .i64 1)] : List Arg) = [.v (.int .i64 1)], MeetsB Try.prog 29 (.ov false [.sl (some 3) (v6.1.map eI)]) [.v (.int .i64 1)] [.p (.int .i64 v16.1)] (.ov false [.sl (some 3) (v16.2.map eI)]), (!true || (List.all [.p (.int .i64 v16.1)] simpleR && wnS (.ov false [.sl (some 3) (v16.2.map eI)]))) = true] (by kernel_rfl) ⟨rfl, (wk_laws_markIntS hv16), (bt (ls_t rfl (wnR1 (wnL_enc wn_I) rfl))), trivial⟩) ?_
              refine k_sreg (r_go [(0, .d false [.sl none (a0.map (eF eI))]), (4, .ov false [.sl (some 3) (v4.1.map eI)]), (5, .p (.bool v4.2)), (7, .ov false [.sl (some 3) (v16.2.map eI)]), (10, .p (.int .i64 v16.1)), (11, .p (.int .i64 1))] [] [] (by kernel_rfl) trivial) ?_
              replace h := bind_some' h
              obtain ⟨v17, hv17, h⟩ := h
              refine k_sreg (r_go [(0, .d false [.sl none (a0.map (eF eI))]), (4, .ov false [.sl (some 3) (v4.1.map eI)]), (5, .p (.bool v4.2)), (7, .ov false [.sl (some 3) (v16.2.map eI)]), (10, .p (.int .i64 v16.1)), (11, .p (.int .i64 v17))] [(2, {call := some ([.d false [.sl none (v16.2.map eI)], .v (.int .i64 1)], [.p (.int .i64 v17)], true)})] [([.d false [.sl none (eraL (v16.2.map eI))], .v (.int .i64 1)] : List Arg) = [.d false [.sl none (v16.2.map eI)], .v (.int .i64 1)], Meets Try.prog 30 ([.d false [.sl none (v16.2.map eI)], .v (.int .i64 1)] ++ []) { vals := [.p (.int .i64 v17)] }, (!true || List.all [.p (.int .i64 v17)] simpleR) = true] (by kernel_rfl) ⟨(by simp only [eraL_enc (h := eI) er_I]), (wk_laws_heldIntS hv17), (bt rfl), trivial⟩) ?_
              refine k_seq ?_
              refine k_sreg (r_go [(0, .d false [.sl none (a0.map (eF eI))]), (4, .ov false [.sl (some 3) (v4.1.map eI)]), (5, .p (.bool v4.2)), (7, .ov false [.sl (some 3) (v16.2.map eI)]), (10, .p (.int .i64 v16.1)), (11, .p (.int .i64 v17)), (69, .p (.bool (decide (v17 < 0))))] [] [] (by kernel_rfl) trivial) ?_
              refine k_cond (b := (decide (v17 < 0))) (by kernel_rfl) (fun hc2_17 => ?_) (fun hc2_17 => ?_)
              · replace h := ite_t hc2_17 h
                refine k_sreg (r_go [(2, .p (.bool false))] [] [] (by kernel_rfl) trivial) ?_
                refine k_ret ?_
                refine q_r ?_
                obtain rfl := Option.some.inj h
                exact e_ret (ls := [(.p (.bool false), 2)]) (by kernel_rfl) rfl (by kernel_rfl) rfl
              · replace h := ite_f hc2_17 h
                refine k_skip ?_
                refine q_n ?_
                refine k_seq ?_
                refine k_sreg (r_go [(0, .d false [.sl none (a0.map (eF eI))]), (4, .ov false [.sl (some 3) (v4.1.map eI)]), (5, .p (.bool v4.2)), (7, .ov false [.sl (some 3) (v16.2.map eI)]), (10, .p (.int .i64 v16.1)), (72, .p (.bool (v17 != v16.1)))] [] [] (by kernel_rfl) trivial) ?_
                refine k_cond (b := (v17 != v16.1)) (by kernel_rfl) (fun hc2_18 => ?_) (fun hc2_18 => ?_)
                · replace h := ite_t hc2_18 h
                  refine k_sreg (r_go [(2, .p (.bool false))] [] [] (by kernel_rfl) trivial) ?_
                  refine k_ret ?_
                  refine q_r ?_
                  obtain rfl := Option.some.inj h
                  exact e_ret (ls := [(.p (.bool false), 2)]) (by kernel_rfl) rfl (by kernel_rfl) rfl
                · replace h := ite_f hc2_18 h
                  refine k_skip ?_
                  refine q_n ?_
                  replace h := bind_some' h
                  obtain ⟨v20, hv20, h⟩ := h
                  replace h := bind_some' h
                  obtain ⟨v21, hv21, h⟩ := h
                  refine k_sreg (r_go [(4, .ov false [.sl (some 3) (v4.1.map eI)]), (5, .p (.bool v4.2)), (7, .ov false [.sl (some 3) (v16.2.map eI)]), (10, .p (.int .i64 v16.1)), (12, .ov false [.sl (some 3) (v21.1.map eI)]), (13, .p (.bool v21.2))] [(1, {call := some ([.d false [.sl none (a0.map (eF eI))]], [.ov false [.sl (some 22) (v20.map (eO 3 eI))]], true)}), (2, {call := some ([.d false [.sl none (v20.map (eF eI))]], [.ov false [.sl (some 3) (v21.1.map eI)], .p (.bool v21.2)], true)})] [([.d false [.sl none (a0.map (eF eI))]] : List Arg) = [.d false [.sl none (a0.map (eF eI))]], Meets Try.prog 25 ([.d false [.sl none (a0.map (eF eI))]] ++ []) { vals := [.ov false [.sl (some 22) (v20.map (eO 3 eI))]] }, (!true || List.all [.ov false [.sl (some 22) (v20.map (eO 3 eI))]] simpleR) = true, ([.d false [.sl none (eraL (v20.map (eO 3 eI)))]] : List Arg) = [.d false [.sl none (v20.map (eF eI))]], Meets Try.prog 44 ([.d false [.sl none (v20.map (eF eI))]] ++ []) { vals := [.ov false [.sl (some 3) (v21.1.map eI)], .p (.bool v21.2)] }, (!true || List.all [.ov false [.sl (some 3) (v21.1.map eI)], .p (.bool v21.2)] simpleR) = true] (by kernel_rfl) ⟨rfl, (wk_laws_toIntSS hv20), (bt (sa_o (wnR1 (wnL_enc (wn_O wn_I)) rfl) rfl)), (by simp only [eraL_enc (h := (eF eI)) (era_O er_I)]), (wk_impl_ZetaDenominator hv21), (bt (sa_o (wnR1 (wnL_enc wn_I) rfl) (sa_p rfl))), trivial⟩) ?_
                  refine k_seq ?_
                  replace h := bind_some' h
                  obtain ⟨v22, hv22, h⟩ := h
                  refine k_sreg (l1 := [(7, .ov false [.sl (some 3) (v16.2.map eI)]), (10, .p (.int .i64 v16.1)), (87, .p (.bool ((!v22) || (!(v21.2 == v4.2)))))]) ?_ ?_
                  · rcases Bool.eq_false_or_eq_true (!v22) with ha6 | ha6
                    · exact RegOk.of_eq (l2 := [(7, .ov false [.sl (some 3) (v16.2.map eI)]), (10, .p (.int .i64 v16.1)), (87, .p (.bool ((!v22) || (!(v21.2 == v4.2)))))]) (r_go [(7, .ov false [.sl (some 3) (v16.2.map eI)]), (10, .p (.int .i64 v16.1)), (87, .p (.bool true))] [(2, {call := some ([.d false [.sl none (v21.1.map eI)], .d false [.sl none (v4.1.map eI)]], [.p (.bool v22)], true)}), (5, {g := some true}), (6, {g := some true}), (7, {g := some true}), (8, {b := some true})] [([.d false [.sl none (eraL (v21.1.map eI))], .d false [.sl none (eraL (v4.1.map eI))]] : List Arg) = [.d false [.sl none (v21.1.map eI)], .d false [.sl none (v4.1.map eI)]], Meets Try.prog 18 ([.d false [.sl none (v21.1.map eI)], .d false [.sl none (v4.1.map eI)]] ++ []) { vals := [.p (.bool v22)] }, (!true || List.all [.p (.bool v22)] simpleR) = true, (!v22) = true, (!v22) = true, (!v22) = true, (!v22) = true] (by kernel_rfl) ⟨(by simp only [eraL_enc (h := eI) er_I, eraL_enc (h := eI) er_I]), (wk_laws_eqIntS hv22), (bt rfl), ha6, ha6, ha6, ha6, trivial⟩) (by simp [ha6])
                    · exact RegOk.of_eq (l2 := [(7, .ov false [.sl (some 3) (v16.2.map eI)]), (10, .p (.int .i64 v16.1)), (87, .p (.bool ((!v22) || (!(v21.2 == v4.2)))))]) (r_go [(7, .ov false [.sl (some 3) (v16.2.map eI)]), (10, .p (.int .i64 v16.1)), (87, .p (.bool (!(v21.2 == v4.2))))] [(2, {call := some ([.d false [.sl none (v21.1.map eI)], .d false [.sl none (v4.1.map eI)]], [.p (.bool v22)], true)}), (5, {g := some false}), (6, {g := some false}), (7, {g := some false}), (8, {b := some false})] [([.d false [.sl none (eraL (v21.1.map eI))], .d false [.sl none (eraL (v4.1.map eI))]] : List Arg) = [.d false [.sl none (v21.1.map eI)], .d false [.sl none (v4.1.map eI)]], Meets Try.prog 18 ([.d false [.sl none (v21.1.map eI)], .d false [.sl none (v4.1.map eI)]] ++ []) { vals := [.p (.bool v22)] }, (!true || List.all [.p (.bool v22)] simpleR) = true, (!v22) = false, (!v22) = false, (!v22) = false, (!v22) = false] (by kernel_rfl) ⟨(by simp only [eraL_enc (h := eI) er_I, eraL_enc (h := eI) er_I]), (wk_laws_eqIntS hv22), (bt rfl), ha6, ha6, ha6, ha6, trivial⟩) (by simp [ha6])
                  · refine k_cond (b := ((!v22) || (!(v21.2 == v4.2)))) (by kernel_rfl) (fun hc2_22 => ?_) (fun hc2_22 => ?_)
                    · replace h := ite_t hc2_22 h
                      refine k_sreg (r_go [(2, .p (.bool false))] [] [] (by kernel_rfl) trivial) ?_
                      refine k_ret ?_
                      refine q_r ?_
                      obtain rfl := Option.some.inj h
                      exact e_ret (ls := [(.p (.bool false), 2)]) (by kernel_rfl) rfl (by kernel_rfl) rfl
                    · replace h := ite_f hc2_22 h
                      refine k_skip ?_
                      refine q_n ?_
                      refine k_sreg (r_go [(7, .ov false [.sl (some 3) (v16.2.map eI)]), (10, .p (.int .i64 v16.1)), (11, .p (.int .i64 1))] [] [] (by kernel_rfl) trivial) ?_
                      replace h := bind_some' h
                      obtain ⟨v24, hv24, h⟩ := h
                      refine k_sreg (r_go [(10, .p (.int .i64 v16.1)), (11, .p (.int .i64 v24))] [(2, {call := some ([.d false [.sl none (v16.2.map eI)], .v (.int .i64 1)], [.p (.int .i64 v24)], true)})] [([.d false [.sl none (eraL (v16.2.map eI))], .v (.int .i64 1)] : List Arg) = [.d false [.sl none (v16.2.map eI)], .v (.int .i64 1)], Meets Try.prog 30 ([.d false [.sl none (v16.2.map eI)], .v (.int .i64 1)] ++ []) { vals := [.p (.int .i64 v24)] }, (!true || List.all [.p (.int .i64 v24)] simpleR) = true] (by kernel_rfl) ⟨(by simp only [eraL_enc (h := eI) er_I]), (wk_laws_heldIntS hv24), (bt rfl), trivial⟩) ?_
                      refine k_seq ?_
                      refine k_sreg (r_go [(10, .p (.int .i64 v16.1)), (11, .p (.int .i64 v24)), (92, .p (.bool (decide (v24 < 0))))] [] [] (by kernel_rfl) trivial) ?_
                      refine k_cond (b := (decide (v24 < 0))) (by kernel_rfl) (fun hc2_24 => ?_) (fun hc2_24 => ?_)
                      · replace h := ite_t hc2_24 h
                        refine k_sreg (r_go [(2, .p (.bool false))] [] [] (by kernel_rfl) trivial) ?_
                        refine k_ret ?_
                        refine q_r ?_
                        obtain rfl := Option.some.inj h
                        exact e_ret (ls := [(.p (.bool false), 2)]) (by kernel_rfl) rfl (by kernel_rfl) rfl
                      · replace h := ite_f hc2_24 h
                        refine k_skip ?_
                        refine q_n ?_
                        refine k_seq ?_
                        refine k_sreg (r_go [(95, .p (.bool (v24 != v16.1)))] [] [] (by kernel_rfl) trivial) ?_
                        refine k_cond (b := (v24 != v16.1)) (by kernel_rfl) (fun hc2_25 => ?_) (fun hc2_25 => ?_)
                        · replace h := ite_t hc2_25 h
                          refine k_sreg (r_go [(2, .p (.bool false))] [] [] (by kernel_rfl) trivial) ?_
                          refine k_ret ?_
                          refine q_r ?_
                          obtain rfl := Option.some.inj h
                          exact e_ret (ls := [(.p (.bool false), 2)]) (by kernel_rfl) rfl (by kernel_rfl) rfl
                        · replace h := ite_f hc2_25 h
                          refine k_skip ?_
                          refine q_n ?_
                          refine k_sreg (r_go [(2, .p (.bool true))] [] [] (by kernel_rfl) trivial) ?_
                          refine k_ret ?_
                          obtain rfl := Option.some.inj h
                          exact e_ret (ls := [(.p (.bool true), 2)]) (by kernel_rfl) rfl (by kernel_rfl) rfl
end Go.PV

/-
  Walks through the functions that the law reaches: each answers as its plain definition does.
  Conditions: none.
-/
import Derived.KernelRfl
import Derived.Test.YtlajjggemadajaaDf
import Derived.Test.YtlajjggemadajaaProg
open Go Go.PV Go.Proofs
set_option linter.all false
namespace Go.PV
attribute [local irreducible] pvC pvL pvD sOp seqQ blockQ Meets MeetsB Ok OkL RegOk agree endQ seqL blockL loopQ endL endLB
theorem Try_mixed : Try.prog.follows .mixedOrders = true := by kernel_rfl
theorem Try_und3 : Try.prog.underlying 3 = some (.int .i64) := by kernel_rfl
theorem Try_und130 : Try.prog.underlying 130 = some (.int .u64) := by kernel_rfl
theorem wk_laws_szIntS {a0 : (List Int)} {a1 : Int}  {r : Int} (h : laws_szIntS a0 a1 = some r) : Meets Try.prog 69 [.d false [.sl none (a0.map eI)], .v (.int .i64 a1)] { vals := [.p (.int .i64 r)] } := by
  refine Meets_ofL (by kernel_rfl) Try.func69 rfl (by kernel_rfl) (l0 := [(0, .d false [.sl none (a0.map eI)]), (1, .p (.int .i64 a1))]) (by kernel_rfl) ?_
  unfold laws_szIntS at h
  refine k_sreg (r_go [(0, .d false [.sl none (a0.map eI)]), (1, .p (.int .i64 a1))] [] [] (by kernel_rfl) trivial) ?_
  refine k_sreg (r_go [(1, .p (.int .i64 (w64 (a1 - (a0.length : Int)))))] [(2, {n := some a0.length})] [(a0.map eI).length = a0.length] (by kernel_rfl) ⟨(List.length_map ..), trivial⟩) ?_
  refine k_seq ?_
  refine k_sreg (r_go [(1, .p (.int .i64 (w64 (a1 - (a0.length : Int))))), (10, .p (.bool (decide ((w64 (a1 - (a0.length : Int))) < 0))))] [] [] (by kernel_rfl) trivial) ?_
  refine k_cond (b := (decide ((w64 (a1 - (a0.length : Int))) < 0))) (by kernel_rfl) (fun hc2_0 => ?_) (fun hc2_0 => ?_)
  · replace h := ite_t hc2_0 h
    refine k_sreg (r_go [(4, .p (.int .i64 (-1)))] [] [] (by kernel_rfl) trivial) ?_
    refine k_ret ?_
    refine q_r ?_
    obtain rfl := Option.some.inj h
    exact e_ret (ls := [(.p (.int .i64 (-1)), 4)]) (by kernel_rfl) rfl (by kernel_rfl) rfl
  · replace h := ite_f hc2_0 h
    refine k_skip ?_
    refine q_n ?_
    refine k_sreg (r_go [(4, .p (.int .i64 (w64 (a1 - (a0.length : Int)))))] [] [] (by kernel_rfl) trivial) ?_
    refine k_ret ?_
    obtain rfl := Option.some.inj h
    exact e_ret (ls := [(.p (.int .i64 (w64 (a1 - (a0.length : Int)))), 4)]) (by kernel_rfl) rfl (by kernel_rfl) rfl
theorem wk_laws_szIntSS {a0 : (List (List Int))} {a1 : Int}  {r : Int} (h : laws_szIntSS a0 a1 = some r) : Meets Try.prog 35 [.d false [.sl none (a0.map (eF eI))], .v (.int .i64 a1)] { vals := [.p (.int .i64 r)] } := by
  refine Meets_ofL (by kernel_rfl) Try.func35 rfl (by kernel_rfl) (l0 := [(0, .d false [.sl none (a0.map (eF eI))]), (1, .p (.int .i64 a1))]) (by kernel_rfl) ?_
  unfold laws_szIntSS at h
  refine k_sreg (r_go [(0, .d false [.sl none (a0.map (eF eI))]), (1, .p (.int .i64 a1))] [] [] (by kernel_rfl) trivial) ?_
  refine k_sreg (r_go [(0, .d false [.sl none (a0.map (eF eI))]), (1, .p (.int .i64 (w64 (a1 - (a0.length : Int)))))] [(2, {n := some a0.length})] [(a0.map (eF eI)).length = a0.length] (by kernel_rfl) ⟨(List.length_map ..), trivial⟩) ?_
  refine k_seq ?_
  refine k_sreg (r_go [(0, .d false [.sl none (a0.map (eF eI))]), (1, .p (.int .i64 (w64 (a1 - (a0.length : Int))))), (11, .p (.bool (decide ((w64 (a1 - (a0.length : Int))) < 0))))] [] [] (by kernel_rfl) trivial) ?_
  refine k_cond (b := (decide ((w64 (a1 - (a0.length : Int))) < 0))) (by kernel_rfl) (fun hc2_0 => ?_) (fun hc2_0 => ?_)
  · replace h := ite_t hc2_0 h
    refine k_sreg (r_go [(4, .p (.int .i64 (-1)))] [] [] (by kernel_rfl) trivial) ?_
    refine k_ret ?_
    refine q_r ?_
    obtain rfl := Option.some.inj h
    exact e_ret (ls := [(.p (.int .i64 (-1)), 4)]) (by kernel_rfl) rfl (by kernel_rfl) rfl
  · replace h := ite_f hc2_0 h
    refine k_skip ?_
    refine q_n ?_
    refine k_join (J := fun (x : Int) => [(1, .p (.int .i64 x))]) (K := fun x => laws_szIntSS_k1 x = some r) (fun x2 h => ?_) ?_
    · unfold laws_szIntSS_k1 at h
      refine k_sreg (r_go [(4, .p (.int .i64 x2))] [] [] (by kernel_rfl) trivial) ?_
      refine k_ret ?_
      obtain rfl := Option.some.inj h
      exact e_ret (ls := [(.p (.int .i64 x2), 4)]) (by kernel_rfl) rfl (by kernel_rfl) rfl
    · refine k_sreg (r_go [(0, .d false [.sl none (a0.map (eF eI))]), (1, .p (.int .i64 (w64 (a1 - (a0.length : Int))))), (5, .p (.int .i64 0))] [] [] (by kernel_rfl) trivial) ?_
      refine k_block ?_
      obtain ⟨y4, hl_x3, hk_x3⟩ := bind_some' h
      clear h
      refine k_loop (J := fun (x : (Int × Int)) => [(0, .d false [.sl none (a0.map (eF eI))]), (1, .p (.int .i64 x.1)), (5, .p (.int .i64 x.2))]) hl_x3 (wk_of (by kernel_rfl) (by kernel_rfl)) (fun x3 o_x3 h hy_x3 => ?_)
      unfold laws_szIntSS_b1 at h
      refine k_seq ?_
      refine k_sreg (r_go [(0, .d false [.sl none (a0.map (eF eI))]), (1, .p (.int .i64 x3.1)), (5, .p (.int .i64 x3.2)), (15, .p (.bool (decide (x3.2 < (a0.length : Int)))))] [(2, {n := some a0.length})] [(a0.map (eF eI)).length = a0.length] (by kernel_rfl) ⟨(List.length_map ..), trivial⟩) ?_
      refine k_cond (b := (decide (x3.2 < (a0.length : Int)))) (by kernel_rfl) (fun hc5_4 => ?_) (fun hc5_4 => ?_)
      · replace h := ite_t hc5_4 h
        refine k_skip ?_
        refine q_n ?_
        refine k_seq ?_
        refine k_block ?_
        replace h := bind_some' h
        obtain ⟨v6, hv6, h⟩ := h
        replace h := bind_some' h
        obtain ⟨v7, hv7, h⟩ := h
        refine k_sreg (r_go [(0, .d false [.sl none (a0.map (eF eI))]), (1, .p (.int .i64 v7)), (5, .p (.int .i64 x3.2))] [(2, {row := some [.sl none (v6.map eI)]}), (5, {call := some ([.d false [.sl none (v6.map eI)], .v (.int .i64 x3.1)], [.p (.int .i64 v7)], true)})] [0 ≤ x3.2, (a0.map (eF eI))[(Int.toNat x3.2)]? = some [.sl none (v6.map eI)], ([.d false [.sl none (v6.map eI)], .v (.int .i64 x3.1)] : List Arg) = [.d false [.sl none (v6.map eI)], .v (.int .i64 x3.1)], Meets Try.prog 69 ([.d false [.sl none (v6.map eI)], .v (.int .i64 x3.1)] ++ []) { vals := [.p (.int .i64 v7)] }, (!true || List.all [.p (.int .i64 v7)] simpleR) = true] (by kernel_rfl) ⟨(idxO_some hv6).1, (map_get (eF eI) (idxO_some hv6).2), rfl, (wk_laws_szIntS hv7), (bt rfl), trivial⟩) ?_
        refine k_sreg (r_go [(0, .d false [.sl none (a0.map (eF eI))]), (1, .p (.int .i64 v7)), (5, .p (.int .i64 x3.2)), (25, .p (.bool (decide (v7 < 0))))] [] [] (by kernel_rfl) trivial) ?_
        refine k_cond (b := (decide (v7 < 0))) (by kernel_rfl) (fun hc6_7 => ?_) (fun hc6_7 => ?_)
        · replace h := ite_t hc6_7 h
          refine k_sreg (r_go [(4, .p (.int .i64 (-1)))] [] [] (by kernel_rfl) trivial) ?_
          refine k_ret ?_
          refine b_r ?_
          refine q_r ?_
          refine lq_r ?_
          refine b_r ?_
          refine q_r ?_
          have hyy := hy_x3 _ (Option.some.inj h).symm
          subst hyy
          have h := hk_x3
          dsimp only [Sum.elim] at h
          obtain rfl := Option.some.inj h
          exact e_ret (ls := [(.p (.int .i64 (-1)), 4)]) (by kernel_rfl) rfl (by kernel_rfl) rfl
        · replace h := ite_f hc6_7 h
          refine k_skip ?_
          refine b_n ?_
          refine q_n ?_
          refine k_reg (r_go [(0, .d false [.sl none (a0.map (eF eI))]), (1, .p (.int .i64 v7)), (5, .p (.int .i64 (w64 (x3.2 + 1))))] [] [] (by kernel_rfl) trivial) ?_
          exact lq_n (v7, (w64 (x3.2 + 1))) (Option.some.inj h).symm (wk_of (by kernel_rfl) (by kernel_rfl))
      · replace h := ite_f hc5_4 h
        refine k_exit ?_
        refine q_x ?_
        refine lq_x ?_
        refine b_x ?_
        have hyy := hy_x3 _ (Option.some.inj h).symm
        subst hyy
        have h := hk_x3
        dsimp only [Sum.elim] at h
        refine q_n ?_
        exact ⟨x3.1, h, (wk_of (by kernel_rfl) (by kernel_rfl))⟩
theorem wk_laws_toIntS {a0 : (List Int)}  {r : (List Int)} (h : laws_toIntS a0 = some r) : Meets Try.prog 38 [.d false [.sl none (a0.map eI)]] { vals := [.ov false [.sl (some 3) (r.map eI)]] } := by
  refine Meets_ofL (by kernel_rfl) Try.func38 rfl (by kernel_rfl) (l0 := [(0, .d false [.sl none (a0.map eI)])]) (by kernel_rfl) ?_
  unfold laws_toIntS at h
  refine k_sreg (r_go [(0, .d false [.sl none (a0.map eI)])] [] [] (by kernel_rfl) trivial) ?_
  replace h := bind_some' h
  obtain ⟨u1, hu1, h⟩ := h
  refine k_sreg (r_go [(0, .d false [.sl none (a0.map eI)]), (3, .ov false [.sl (some 3) ((List.replicate (Int.toNat (a0.length : Int)) (0 : Int)).map eI)])] [(1, {n := some a0.length}), (2, {fix := some (7, .ov false [.sl (some 3) ((List.replicate (Int.toNat (a0.length : Int)) (0 : Int)).map eI)])})] [(a0.map eI).length = a0.length, (a0.length : Int) = (a0.length : Int), 0 ≤ (a0.length : Int), (a0.length : Int) ≤ 1099511627776, (SV.ov false [.sl (some 3) (List.replicate (Int.toNat (a0.length : Int)) [.raw (.int .i64 0)])] : SV) = .ov false [.sl (some 3) ((List.replicate (Int.toNat (a0.length : Int)) (0 : Int)).map eI)]] (by kernel_rfl) ⟨(List.length_map ..), rfl, (guardO_some hu1).1, (guardO_some hu1).2, (congrArg (fun z => SV.ov false [.sl (some 3) z]) (rep_fix eI (0 : Int))), trivial⟩) ?_
  refine k_join (J := fun (x : (List Int)) => [(3, .ov false [.sl (some 3) (x.map eI)])]) (K := fun x => laws_toIntS_k1 x = some r) (fun x2 h => ?_) ?_
  · unfold laws_toIntS_k1 at h
    refine k_sreg (r_go [(2, .ov false [.sl (some 3) (x2.map eI)])] [] [] (by kernel_rfl) trivial) ?_
    refine k_ret ?_
    obtain rfl := Option.some.inj h
    exact e_ret (ls := [(.ov false [.sl (some 3) (x2.map eI)], 2)]) (by kernel_rfl) rfl (by kernel_rfl) rfl
  · refine k_sreg (r_go [(0, .d false [.sl none (a0.map eI)]), (3, .ov false [.sl (some 3) ((List.replicate (Int.toNat (a0.length : Int)) (0 : Int)).map eI)]), (4, .p (.int .i64 0))] [] [] (by kernel_rfl) trivial) ?_
    refine k_block ?_
    obtain ⟨y4, hl_x3, hk_x3⟩ := bind_some' h
    clear h
    refine k_loop (J := fun (x : ((List Int) × Int)) => [(0, .d false [.sl none (a0.map eI)]), (3, .ov false [.sl (some 3) (x.1.map eI)]), (4, .p (.int .i64 x.2))]) hl_x3 (wk_of (by kernel_rfl) (by kernel_rfl)) (fun x3 o_x3 h hy_x3 => ?_)
    unfold laws_toIntS_b1 at h
    refine k_seq ?_
    refine k_sreg (r_go [(0, .d false [.sl none (a0.map eI)]), (3, .ov false [.sl (some 3) (x3.1.map eI)]), (4, .p (.int .i64 x3.2)), (11, .p (.bool (decide (x3.2 < (a0.length : Int)))))] [(2, {n := some a0.length})] [(a0.map eI).length = a0.length] (by kernel_rfl) ⟨(List.length_map ..), trivial⟩) ?_
    refine k_cond (b := (decide (x3.2 < (a0.length : Int)))) (by kernel_rfl) (fun hc5_4 => ?_) (fun hc5_4 => ?_)
    · replace h := ite_t hc5_4 h
      refine k_skip ?_
      refine q_n ?_
      refine k_seq ?_
      refine k_block ?_
      replace h := bind_some' h
      obtain ⟨v6, hv6, h⟩ := h
      replace h := bind_some' h
      obtain ⟨v7, hv7, h⟩ := h
      refine k_reg (r_go [(0, .d false [.sl none (a0.map eI)]), (3, .ov false [.sl (some 3) ((x3.1.set (Int.toNat x3.2) v6).map eI)]), (4, .p (.int .i64 x3.2))] [(4, {row := some [.raw (.int .i64 v6)]}), (6, {row := some [.raw (.int .i64 v7)]}), (7, {row := some [.raw (.int .i64 v7)], fix := some (3, .ov false [.sl (some 3) ((x3.1.set (Int.toNat x3.2) v6).map eI)])})] [0 ≤ x3.2, (a0.map eI)[(Int.toNat x3.2)]? = some [.raw (.int .i64 v6)], 0 ≤ x3.2, (x3.1.map eI)[(Int.toNat x3.2)]? = some [.raw (.int .i64 v7)], getRow [[.sl (some 3) (x3.1.map eI)]] [(0, 0), ((Int.toNat x3.2), 0)] = some [.raw (.int .i64 v7)], (SV.ov false [.sl (some 3) (setL (x3.1.map eI) [((Int.toNat x3.2), 0)] [.raw (.int .i64 v6)])] : SV) = .ov false [.sl (some 3) ((x3.1.set (Int.toNat x3.2) v6).map eI)]] (by kernel_rfl) ⟨(idxO_some hv6).1, (map_get eI (idxO_some hv6).2), (idxO_some hv7).1, (map_get eI (idxO_some hv7).2), ((gr0 rfl).trans (gre (map_get eI (idxO_some hv7).2))), (congrArg (fun z => SV.ov false [.sl (some 3) z]) (set1 (f := eI) (y := v6) (idxO_some hv7).2 rfl)), trivial⟩) ?_
      refine b_n ?_
      refine q_n ?_
      refine k_reg (r_go [(0, .d false [.sl none (a0.map eI)]), (3, .ov false [.sl (some 3) ((x3.1.set (Int.toNat x3.2) v6).map eI)]), (4, .p (.int .i64 (w64 (x3.2 + 1))))] [] [] (by kernel_rfl) trivial) ?_
      exact lq_n ((x3.1.set (Int.toNat x3.2) v6), (w64 (x3.2 + 1))) (Option.some.inj h).symm (wk_of (by kernel_rfl) (by kernel_rfl))
    · replace h := ite_f hc5_4 h
      refine k_exit ?_
      refine q_x ?_
      refine lq_x ?_
      refine b_x ?_
      have hyy := hy_x3 _ (Option.some.inj h).symm
      subst hyy
      have h := hk_x3
      refine q_n ?_
      exact ⟨x3.1, h, (wk_of (by kernel_rfl) (by kernel_rfl))⟩
theorem wk_laws_toIntSS {a0 : (List (List Int))}  {r : (List (List Int))} (h : laws_toIntSS a0 = some r) : Meets Try.prog 37 [.d false [.sl none (a0.map (eF eI))]] { vals := [.ov false [.sl (some 53) (r.map (eO 3 eI))]] } := by
  refine Meets_ofL (by kernel_rfl) Try.func37 rfl (by kernel_rfl) (l0 := [(0, .d false [.sl none (a0.map (eF eI))])]) (by kernel_rfl) ?_
  unfold laws_toIntSS at h
  refine k_sreg (r_go [(0, .d false [.sl none (a0.map (eF eI))])] [] [] (by kernel_rfl) trivial) ?_
  replace h := bind_some' h
  obtain ⟨u1, hu1, h⟩ := h
  refine k_sreg (r_go [(0, .d false [.sl none (a0.map (eF eI))]), (3, .ov false [.sl (some 53) ((List.replicate (Int.toNat (a0.length : Int)) ([] : (List Int))).map (eO 3 eI))])] [(1, {n := some a0.length}), (2, {fix := some (7, .ov false [.sl (some 53) ((List.replicate (Int.toNat (a0.length : Int)) ([] : (List Int))).map (eO 3 eI))])})] [(a0.map (eF eI)).length = a0.length, (a0.length : Int) = (a0.length : Int), 0 ≤ (a0.length : Int), (a0.length : Int) ≤ 1099511627776, (SV.ov false [.sl (some 53) (List.replicate (Int.toNat (a0.length : Int)) [.sl (some 3) []])] : SV) = .ov false [.sl (some 53) ((List.replicate (Int.toNat (a0.length : Int)) ([] : (List Int))).map (eO 3 eI))]] (by kernel_rfl) ⟨(List.length_map ..), rfl, (guardO_some hu1).1, (guardO_some hu1).2, (congrArg (fun z => SV.ov false [.sl (some 53) z]) (rep_fix (eO 3 eI) ([] : (List Int)))), trivial⟩) ?_
  refine k_join (J := fun (x : (List (List Int))) => [(3, .ov false [.sl (some 53) (x.map (eO 3 eI))])]) (K := fun x => laws_toIntSS_k1 x = some r) (fun x2 h => ?_) ?_
  · unfold laws_toIntSS_k1 at h
    refine k_sreg (r_go [(2, .ov false [.sl (some 53) (x2.map (eO 3 eI))])] [] [] (by kernel_rfl) trivial) ?_
    refine k_ret ?_
    obtain rfl := Option.some.inj h
    exact e_ret (ls := [(.ov false [.sl (some 53) (x2.map (eO 3 eI))], 2)]) (by kernel_rfl) rfl (by kernel_rfl) rfl
  · refine k_sreg (r_go [(0, .d false [.sl none (a0.map (eF eI))]), (3, .ov false [.sl (some 53) ((List.replicate (Int.toNat (a0.length : Int)) ([] : (List Int))).map (eO 3 eI))]), (4, .p (.int .i64 0))] [] [] (by kernel_rfl) trivial) ?_
    refine k_block ?_
    obtain ⟨y4, hl_x3, hk_x3⟩ := bind_some' h
    clear h
    refine k_loop (J := fun (x : ((List (List Int)) × Int)) => [(0, .d false [.sl none (a0.map (eF eI))]), (3, .ov false [.sl (some 53) (x.1.map (eO 3 eI))]), (4, .p (.int .i64 x.2))]) hl_x3 (wk_of (by kernel_rfl) (by kernel_rfl)) (fun x3 o_x3 h hy_x3 => ?_)
    unfold laws_toIntSS_b1 at h
    refine k_seq ?_
    refine k_sreg (r_go [(0, .d false [.sl none (a0.map (eF eI))]), (3, .ov false [.sl (some 53) (x3.1.map (eO 3 eI))]), (4, .p (.int .i64 x3.2)), (11, .p (.bool (decide (x3.2 < (a0.length : Int)))))] [(2, {n := some a0.length})] [(a0.map (eF eI)).length = a0.length] (by kernel_rfl) ⟨(List.length_map ..), trivial⟩) ?_
    refine k_cond (b := (decide (x3.2 < (a0.length : Int)))) (by kernel_rfl) (fun hc5_4 => ?_) (fun hc5_4 => ?_)
    · replace h := ite_t hc5_4 h
      refine k_skip ?_
      refine q_n ?_
      refine k_seq ?_
      refine k_block ?_
      replace h := bind_some' h
      obtain ⟨v6, hv6, h⟩ := h
      replace h := bind_some' h
      obtain ⟨v7, hv7, h⟩ := h
      replace h := bind_some' h
      obtain ⟨v8, hv8, h⟩ := h
      refine k_reg (r_go [(0, .d false [.sl none (a0.map (eF eI))]), (3, .ov false [.sl (some 53) ((x3.1.set (Int.toNat x3.2) v7).map (eO 3 eI))]), (4, .p (.int .i64 x3.2))] [(4, {row := some [.sl none (v6.map eI)]}), (6, {call := some ([.d false [.sl none (v6.map eI)]], [.ov false [.sl (some 3) (v7.map eI)]], true)}), (7, {row := some [.sl (some 3) (v8.map eI)]}), (8, {row := some [.sl (some 3) (v8.map eI)], fix := some (3, .ov false [.sl (some 53) ((x3.1.set (Int.toNat x3.2) v7).map (eO 3 eI))])})] [0 ≤ x3.2, (a0.map (eF eI))[(Int.toNat x3.2)]? = some [.sl none (v6.map eI)], ([.d false [.sl none (v6.map eI)]] : List Arg) = [.d false [.sl none (v6.map eI)]], Meets Try.prog 38 ([.d false [.sl none (v6.map eI)]] ++ []) { vals := [.ov false [.sl (some 3) (v7.map eI)]] }, (!true || List.all [.ov false [.sl (some 3) (v7.map eI)]] simpleR) = true, 0 ≤ x3.2, (x3.1.map (eO 3 eI))[(Int.toNat x3.2)]? = some [.sl (some 3) (v8.map eI)], getRow [[.sl (some 53) (x3.1.map (eO 3 eI))]] [(0, 0), ((Int.toNat x3.2), 0)] = some [.sl (some 3) (v8.map eI)], (SV.ov false [.sl (some 53) (setL (x3.1.map (eO 3 eI)) [((Int.toNat x3.2), 0)] [.sl (some 3) (v7.map eI)])] : SV) = .ov false [.sl (some 53) ((x3.1.set (Int.toNat x3.2) v7).map (eO 3 eI))]] (by kernel_rfl) ⟨(idxO_some hv6).1, (map_get (eF eI) (idxO_some hv6).2), rfl, (wk_laws_toIntS hv7), (bt (sa_o (wnR1 (wnL_enc wn_I) rfl) rfl)), (idxO_some hv8).1, (map_get (eO 3 eI) (idxO_some hv8).2), ((gr0 rfl).trans (gre (map_get (eO 3 eI) (idxO_some hv8).2))), (congrArg (fun z => SV.ov false [.sl (some 53) z]) (set1 (f := (eO 3 eI)) (y := v7) (idxO_some hv8).2 rfl)), trivial⟩) ?_
      refine b_n ?_
      refine q_n ?_
      refine k_reg (r_go [(0, .d false [.sl none (a0.map (eF eI))]), (3, .ov false [.sl (some 53) ((x3.1.set (Int.toNat x3.2) v7).map (eO 3 eI))]), (4, .p (.int .i64 (w64 (x3.2 + 1))))] [] [] (by kernel_rfl) trivial) ?_
      exact lq_n ((x3.1.set (Int.toNat x3.2) v7), (w64 (x3.2 + 1))) (Option.some.inj h).symm (wk_of (by kernel_rfl) (by kernel_rfl))
    · replace h := ite_f hc5_4 h
      refine k_exit ?_
      refine q_x ?_
      refine lq_x ?_
      refine b_x ?_
      have hyy := hy_x3 _ (Option.some.inj h).symm
      subst hyy
      have h := hk_x3
      refine q_n ?_
      exact ⟨x3.1, h, (wk_of (by kernel_rfl) (by kernel_rfl))⟩
theorem wk_spec_l1In {a0 : Int} {a1 : Int} {a2 : Int}  {r : Bool} (h : spec_l1In a0 a1 a2 = some r) : Meets Try.prog 87 [.v (.int .i64 a0), .v (.int .i64 a1), .v (.int .i64 a2)] { vals := [.p (.bool r)] } := by
  refine Meets_ofL (by kernel_rfl) Try.func87 rfl (by kernel_rfl) (l0 := [(0, .p (.int .i64 a0)), (1, .p (.int .i64 a1)), (2, .p (.int .i64 a2))]) (by kernel_rfl) ?_
  unfold spec_l1In at h
  refine k_sreg (r_go [(0, .p (.int .i64 a0)), (1, .p (.int .i64 a1)), (2, .p (.int .i64 a2))] [] [] (by kernel_rfl) trivial) ?_
  refine k_sreg (l1 := [(6, .p (.bool ((decide (a0 ≥ a1)) && (decide (a0 ≤ a2)))))]) ?_ ?_
  · rcases Bool.eq_false_or_eq_true (decide (a0 ≥ a1)) with ha0 | ha0
    · exact RegOk.of_eq (l2 := [(6, .p (.bool ((decide (a0 ≥ a1)) && (decide (a0 ≤ a2)))))]) (r_go [(6, .p (.bool (decide (a0 ≤ a2))))] [(4, {g := some true}), (5, {g := some true}), (6, {g := some true}), (7, {b := some true})] [(decide (a0 ≥ a1)) = true, (decide (a0 ≥ a1)) = true, (decide (a0 ≥ a1)) = true, (decide (a0 ≥ a1)) = true] (by kernel_rfl) ⟨ha0, ha0, ha0, ha0, trivial⟩) (by simp [ha0])
    · exact RegOk.of_eq (l2 := [(6, .p (.bool ((decide (a0 ≥ a1)) && (decide (a0 ≤ a2)))))]) (r_go [(6, .p (.bool false))] [(4, {g := some false}), (5, {g := some false}), (6, {g := some false}), (7, {b := some false})] [(decide (a0 ≥ a1)) = false, (decide (a0 ≥ a1)) = false, (decide (a0 ≥ a1)) = false, (decide (a0 ≥ a1)) = false] (by kernel_rfl) ⟨ha0, ha0, ha0, ha0, trivial⟩) (by simp [ha0])
  · refine k_ret ?_
    obtain rfl := Option.some.inj h
    exact e_ret (ls := [(.p (.bool ((decide (a0 ≥ a1)) && (decide (a0 ≤ a2)))), 6)]) (by kernel_rfl) rfl (by kernel_rfl) rfl
theorem wk_spec_l1All {a0 : (List Int)} {a1 : Int} {a2 : Int}  {r : Bool} (h : spec_l1All a0 a1 a2 = some r) : Meets Try.prog 116 [.d false [.sl none (a0.map eI)], .v (.int .i64 a1), .v (.int .i64 a2)] { vals := [.p (.bool r)] } := by
  refine Meets_ofL (by kernel_rfl) Try.func116 rfl (by kernel_rfl) (l0 := [(0, .d false [.sl none (a0.map eI)]), (1, .p (.int .i64 a1)), (2, .p (.int .i64 a2))]) (by kernel_rfl) ?_
  unfold spec_l1All at h
  refine k_sreg (r_go [(0, .d false [.sl none (a0.map eI)]), (1, .p (.int .i64 a1)), (2, .p (.int .i64 a2))] [] [] (by kernel_rfl) trivial) ?_
  refine k_join (J := fun (x : Unit) => []) (K := fun x => spec_l1All_k1 x = some r) (fun x1 h => ?_) ?_
  · unfold spec_l1All_k1 at h
    refine k_sreg (r_go [(6, .p (.bool true))] [] [] (by kernel_rfl) trivial) ?_
    refine k_ret ?_
    obtain rfl := Option.some.inj h
    exact e_ret (ls := [(.p (.bool true), 6)]) (by kernel_rfl) rfl (by kernel_rfl) rfl
  · refine k_sreg (r_go [(1, .p (.int .i64 a1)), (2, .p (.int .i64 a2)), (9, .d false [.sl none (a0.map eI)]), (10, .p (.int .i64 (a0.length : Int))), (11, .p (.int .i64 0))] [(1, {n := some a0.length})] [(a0.map eI).length = a0.length] (by kernel_rfl) ⟨(List.length_map ..), trivial⟩) ?_
    refine k_block ?_
    obtain ⟨y3, hl_x2, hk_x2⟩ := bind_some' h
    clear h
    refine k_loop (J := fun (x : Int) => [(1, .p (.int .i64 a1)), (2, .p (.int .i64 a2)), (9, .d false [.sl none (a0.map eI)]), (10, .p (.int .i64 (a0.length : Int))), (11, .p (.int .i64 x))]) hl_x2 (wk_of (by kernel_rfl) (by kernel_rfl)) (fun x2 o_x2 h hy_x2 => ?_)
    unfold spec_l1All_b1 at h
    refine k_sreg (r_go [(1, .p (.int .i64 a1)), (2, .p (.int .i64 a2)), (9, .d false [.sl none (a0.map eI)]), (10, .p (.int .i64 (a0.length : Int))), (11, .p (.int .i64 x2)), (12, .p (.bool (decide (x2 < (a0.length : Int)))))] [] [] (by kernel_rfl) trivial) ?_
    refine k_seq ?_
    refine k_cond (b := (decide (x2 < (a0.length : Int)))) (by kernel_rfl) (fun hc5_3 => ?_) (fun hc5_3 => ?_)
    · replace h := ite_t hc5_3 h
      refine k_skip ?_
      refine q_n ?_
      refine k_seq ?_
      refine k_block ?_
      replace h := bind_some' h
      obtain ⟨v5, hv5, h⟩ := h
      refine k_sreg (r_go [(1, .p (.int .i64 a1)), (2, .p (.int .i64 a2)), (8, .p (.int .i64 v5)), (9, .d false [.sl none (a0.map eI)]), (10, .p (.int .i64 (a0.length : Int))), (11, .p (.int .i64 x2))] [(0, {row := some [.raw (.int .i64 v5)]})] [0 ≤ x2, (a0.map eI)[(Int.toNat x2)]? = some [.raw (.int .i64 v5)]] (by kernel_rfl) ⟨(idxO_some hv5).1, (map_get eI (idxO_some hv5).2), trivial⟩) ?_
      replace h := bind_some' h
      obtain ⟨v6, hv6, h⟩ := h
      refine k_sreg (r_go [(1, .p (.int .i64 a1)), (2, .p (.int .i64 a2)), (9, .d false [.sl none (a0.map eI)]), (10, .p (.int .i64 (a0.length : Int))), (11, .p (.int .i64 x2)), (19, .p (.bool (!v6)))] [(3, {call := some ([.v (.int .i64 v5), .v (.int .i64 a1), .v (.int .i64 a2)], [.p (.bool v6)], true)})] [([.v (.int .i64 v5), .v (.int .i64 a1), .v (.int .i64 a2)] : List Arg) = [.v (.int .i64 v5), .v (.int .i64 a1), .v (.int .i64 a2)], Meets Try.prog 87 ([.v (.int .i64 v5), .v (.int .i64 a1), .v (.int .i64 a2)] ++ []) { vals := [.p (.bool v6)] }, (!true || List.all [.p (.bool v6)] simpleR) = true] (by kernel_rfl) ⟨rfl, (wk_spec_l1In hv6), (bt rfl), trivial⟩) ?_
      refine k_cond (b := (!v6)) (by kernel_rfl) (fun hc6_6 => ?_) (fun hc6_6 => ?_)
      · replace h := ite_t hc6_6 h
        refine k_sreg (r_go [(6, .p (.bool false))] [] [] (by kernel_rfl) trivial) ?_
        refine k_ret ?_
        refine b_r ?_
        refine q_r ?_
        refine lq_r ?_
        refine b_r ?_
        refine q_r ?_
        have hyy := hy_x2 _ (Option.some.inj h).symm
        subst hyy
        have h := hk_x2
        dsimp only [Sum.elim] at h
        obtain rfl := Option.some.inj h
        exact e_ret (ls := [(.p (.bool false), 6)]) (by kernel_rfl) rfl (by kernel_rfl) rfl
      · replace h := ite_f hc6_6 h
        refine k_skip ?_
        refine b_n ?_
        refine q_n ?_
        refine k_reg (r_go [(1, .p (.int .i64 a1)), (2, .p (.int .i64 a2)), (9, .d false [.sl none (a0.map eI)]), (10, .p (.int .i64 (a0.length : Int))), (11, .p (.int .i64 (w64 (x2 + 1))))] [] [] (by kernel_rfl) trivial) ?_
        exact lq_n (w64 (x2 + 1)) (Option.some.inj h).symm (wk_of (by kernel_rfl) (by kernel_rfl))
    · replace h := ite_f hc5_3 h
      refine k_exit ?_
      refine q_x ?_
      refine lq_x ?_
      refine b_x ?_
      have hyy := hy_x2 _ (Option.some.inj h).symm
      subst hyy
      have h := hk_x2
      dsimp only [Sum.elim] at h
      refine q_n ?_
      exact ⟨(), h, (wk_of (by kernel_rfl) (by kernel_rfl))⟩
theorem wk_spec_grGood {a0 : (List (List Int))}  {r : Bool} (h : spec_grGood a0 = some r) : Meets Try.prog 77 [.d false [.sl none (a0.map (eF eI))]] { vals := [.p (.bool r)] } := by
  refine Meets_ofL (by kernel_rfl) Try.func77 rfl (by kernel_rfl) (l0 := [(0, .d false [.sl none (a0.map (eF eI))])]) (by kernel_rfl) ?_
  unfold spec_grGood at h
  refine k_sreg (r_go [(0, .d false [.sl none (a0.map (eF eI))])] [] [] (by kernel_rfl) trivial) ?_
  refine k_seq ?_
  replace h := bind_some' h
  obtain ⟨v1, hv1, h⟩ := h
  refine k_sreg (r_go [(0, .d false [.sl none (a0.map (eF eI))]), (8, .p (.bool (!v1)))] [(1, {n := some a0.length}), (2, {call := some ([.v (.int .i64 (a0.length : Int)), .v (.int .i64 1), .v (.int .i64 8)], [.p (.bool v1)], true)})] [(a0.map (eF eI)).length = a0.length, ([.v (.int .i64 (a0.length : Int)), .v (.int .i64 1), .v (.int .i64 8)] : List Arg) = [.v (.int .i64 (a0.length : Int)), .v (.int .i64 1), .v (.int .i64 8)], Meets Try.prog 87 ([.v (.int .i64 (a0.length : Int)), .v (.int .i64 1), .v (.int .i64 8)] ++ []) { vals := [.p (.bool v1)] }, (!true || List.all [.p (.bool v1)] simpleR) = true] (by kernel_rfl) ⟨(List.length_map ..), rfl, (wk_spec_l1In hv1), (bt rfl), trivial⟩) ?_
  refine k_cond (b := (!v1)) (by kernel_rfl) (fun hc2_1 => ?_) (fun hc2_1 => ?_)
  · replace h := ite_t hc2_1 h
    refine k_sreg (r_go [(2, .p (.bool false))] [] [] (by kernel_rfl) trivial) ?_
    refine k_ret ?_
    refine q_r ?_
    obtain rfl := Option.some.inj h
    exact e_ret (ls := [(.p (.bool false), 2)]) (by kernel_rfl) rfl (by kernel_rfl) rfl
  · replace h := ite_f hc2_1 h
    refine k_skip ?_
    refine q_n ?_
    refine k_join (J := fun (x : Unit) => []) (K := fun x => spec_grGood_k1 x = some r) (fun x3 h => ?_) ?_
    · unfold spec_grGood_k1 at h
      refine k_sreg (r_go [(2, .p (.bool true))] [] [] (by kernel_rfl) trivial) ?_
      refine k_ret ?_
      obtain rfl := Option.some.inj h
      exact e_ret (ls := [(.p (.bool true), 2)]) (by kernel_rfl) rfl (by kernel_rfl) rfl
    · refine k_sreg (r_go [(0, .d false [.sl none (a0.map (eF eI))]), (9, .d false [.sl none (a0.map (eF eI))]), (10, .p (.int .i64 (a0.length : Int))), (11, .p (.int .i64 0))] [(1, {n := some a0.length})] [(a0.map (eF eI)).length = a0.length] (by kernel_rfl) ⟨(List.length_map ..), trivial⟩) ?_
      refine k_block ?_
      obtain ⟨y5, hl_x4, hk_x4⟩ := bind_some' h
      clear h
      refine k_loop (J := fun (x : Int) => [(0, .d false [.sl none (a0.map (eF eI))]), (9, .d false [.sl none (a0.map (eF eI))]), (10, .p (.int .i64 (a0.length : Int))), (11, .p (.int .i64 x))]) hl_x4 (wk_of (by kernel_rfl) (by kernel_rfl)) (fun x4 o_x4 h hy_x4 => ?_)
      unfold spec_grGood_b1 at h
      refine k_sreg (r_go [(0, .d false [.sl none (a0.map (eF eI))]), (9, .d false [.sl none (a0.map (eF eI))]), (10, .p (.int .i64 (a0.length : Int))), (11, .p (.int .i64 x4)), (12, .p (.bool (decide (x4 < (a0.length : Int)))))] [] [] (by kernel_rfl) trivial) ?_
      refine k_seq ?_
      refine k_cond (b := (decide (x4 < (a0.length : Int)))) (by kernel_rfl) (fun hc5_5 => ?_) (fun hc5_5 => ?_)
      · replace h := ite_t hc5_5 h
        refine k_skip ?_
        refine q_n ?_
        refine k_seq ?_
        refine k_block ?_
        replace h := bind_some' h
        obtain ⟨v7, hv7, h⟩ := h
        refine k_sreg (r_go [(0, .d false [.sl none (a0.map (eF eI))]), (4, .d false [.sl none (v7.map eI)]), (9, .d false [.sl none (a0.map (eF eI))]), (10, .p (.int .i64 (a0.length : Int))), (11, .p (.int .i64 x4))] [(0, {row := some [.sl none (v7.map eI)]})] [0 ≤ x4, (a0.map (eF eI))[(Int.toNat x4)]? = some [.sl none (v7.map eI)]] (by kernel_rfl) ⟨(idxO_some hv7).1, (map_get (eF eI) (idxO_some hv7).2), trivial⟩) ?_
        replace h := bind_some' h
        obtain ⟨w9, hw9, h⟩ := h
        refine k_sreg (l1 := [(0, .d false [.sl none (a0.map (eF eI))]), (9, .d false [.sl none (a0.map (eF eI))]), (10, .p (.int .i64 (a0.length : Int))), (11, .p (.int .i64 x4)), (24, .p (.bool w9))]) ?_ ?_
        · clear h
          rcases Bool.eq_false_or_eq_true ((v7.length : Int) != (a0.length : Int)) with ha2 | ha2
          · replace hw9 := ite_t ha2 hw9
            have hw9 := Option.some.inj hw9
            subst hw9
            exact (r_go [(0, .d false [.sl none (a0.map (eF eI))]), (9, .d false [.sl none (a0.map (eF eI))]), (10, .p (.int .i64 (a0.length : Int))), (11, .p (.int .i64 x4)), (24, .p (.bool true))] [(1, {n := some v7.length}), (3, {n := some a0.length}), (6, {g := some true}), (7, {g := some true}), (8, {g := some true}), (9, {b := some true})] [(v7.map eI).length = v7.length, (a0.map (eF eI)).length = a0.length, ((v7.length : Int) != (a0.length : Int)) = true, ((v7.length : Int) != (a0.length : Int)) = true, ((v7.length : Int) != (a0.length : Int)) = true, ((v7.length : Int) != (a0.length : Int)) = true] (by kernel_rfl) ⟨(List.length_map ..), (List.length_map ..), ha2, ha2, ha2, ha2, trivial⟩)
          · replace hw9 := ite_f ha2 hw9
            replace hw9 := bind_some' hw9
            obtain ⟨v8, hv8, hw9⟩ := hw9
            have hw9 := Option.some.inj hw9
            subst hw9
            exact (r_go [(0, .d false [.sl none (a0.map (eF eI))]), (9, .d false [.sl none (a0.map (eF eI))]), (10, .p (.int .i64 (a0.length : Int))), (11, .p (.int .i64 x4)), (24, .p (.bool (!v8)))] [(1, {n := some v7.length}), (3, {n := some a0.length}), (6, {g := some false}), (7, {g := some false, call := some ([.d false [.sl none (v7.map eI)], .v (.int .i64 0), .v (.int .i64 9)], [.p (.bool v8)], true)}), (8, {g := some false}), (9, {b := some false})] [(v7.map eI).length = v7.length, (a0.map (eF eI)).length = a0.length, ((v7.length : Int) != (a0.length : Int)) = false, ((v7.length : Int) != (a0.length : Int)) = false, ([.d false [.sl none (v7.map eI)], .v (.int .i64 0), .v (.int .i64 9)] : List Arg) = [.d false [.sl none (v7.map eI)], .v (.int .i64 0), .v (.int .i64 9)], Meets Try.prog 116 ([.d false [.sl none (v7.map eI)], .v (.int .i64 0), .v (.int .i64 9)] ++ []) { vals := [.p (.bool v8)] }, (!true || List.all [.p (.bool v8)] simpleR) = true, ((v7.length : Int) != (a0.length : Int)) = false, ((v7.length : Int) != (a0.length : Int)) = false] (by kernel_rfl) ⟨(List.length_map ..), (List.length_map ..), ha2, ha2, rfl, (wk_spec_l1All hv8), (bt rfl), ha2, ha2, trivial⟩)
        · refine k_cond (b := w9) (by kernel_rfl) (fun hc6_9 => ?_) (fun hc6_9 => ?_)
          · replace h := ite_t hc6_9 h
            refine k_sreg (r_go [(2, .p (.bool false))] [] [] (by kernel_rfl) trivial) ?_
            refine k_ret ?_
            refine b_r ?_
            refine q_r ?_
            refine lq_r ?_
            refine b_r ?_
            refine q_r ?_
            have hyy := hy_x4 _ (Option.some.inj h).symm
            subst hyy
            have h := hk_x4
            dsimp only [Sum.elim] at h
            obtain rfl := Option.some.inj h
            exact e_ret (ls := [(.p (.bool false), 2)]) (by kernel_rfl) rfl (by kernel_rfl) rfl
          · replace h := ite_f hc6_9 h
            refine k_skip ?_
            refine b_n ?_
            refine q_n ?_
            refine k_reg (r_go [(0, .d false [.sl none (a0.map (eF eI))]), (9, .d false [.sl none (a0.map (eF eI))]), (10, .p (.int .i64 (a0.length : Int))), (11, .p (.int .i64 (w64 (x4 + 1))))] [] [] (by kernel_rfl) trivial) ?_
            exact lq_n (w64 (x4 + 1)) (Option.some.inj h).symm (wk_of (by kernel_rfl) (by kernel_rfl))
      · replace h := ite_f hc5_5 h
        refine k_exit ?_
        refine q_x ?_
        refine lq_x ?_
        refine b_x ?_
        have hyy := hy_x4 _ (Option.some.inj h).symm
        subst hyy
        have h := hk_x4
        dsimp only [Sum.elim] at h
        refine q_n ?_
        exact ⟨(), h, (wk_of (by kernel_rfl) (by kernel_rfl))⟩
theorem wk_spec_gwSteps {a0 : Int}  {r : Bool} (h : spec_gwSteps a0 = some r) : Meets Try.prog 82 [.v (.int .i64 a0)] { vals := [.p (.bool r)] } := by
  refine Meets_ofL (by kernel_rfl) Try.func82 rfl (by kernel_rfl) (l0 := [(0, .p (.int .i64 a0))]) (by kernel_rfl) ?_
  unfold spec_gwSteps at h
  refine k_sreg (r_go [(0, .p (.int .i64 a0))] [] [] (by kernel_rfl) trivial) ?_
  replace h := bind_some' h
  obtain ⟨v1, hv1, h⟩ := h
  refine k_sreg (r_go [(2, .p (.bool v1))] [(1, {call := some ([.v (.int .i64 a0), .v (.int .i64 0), .v (.int .i64 20)], [.p (.bool v1)], true)})] [([.v (.int .i64 a0), .v (.int .i64 0), .v (.int .i64 20)] : List Arg) = [.v (.int .i64 a0), .v (.int .i64 0), .v (.int .i64 20)], Meets Try.prog 87 ([.v (.int .i64 a0), .v (.int .i64 0), .v (.int .i64 20)] ++ []) { vals := [.p (.bool v1)] }, (!true || List.all [.p (.bool v1)] simpleR) = true] (by kernel_rfl) ⟨rfl, (wk_spec_l1In hv1), (bt rfl), trivial⟩) ?_
  refine k_ret ?_
  obtain rfl := Option.some.inj h
  exact e_ret (ls := [(.p (.bool v1), 2)]) (by kernel_rfl) rfl (by kernel_rfl) rfl
theorem wk_spec_gwTimes {a0 : (List (List Int))} {a1 : (List Int)}  {r : (List Int)} (h : spec_gwTimes a0 a1 = some r) : Meets Try.prog 123 [.d false [.sl none (a0.map (eF eI))], .d false [.sl none (a1.map eI)]] { vals := [.ov false [.sl (some 3) (r.map eI)]] } := by
  refine Meets_ofL (by kernel_rfl) Try.func123 rfl (by kernel_rfl) (l0 := [(0, .d false [.sl none (a0.map (eF eI))]), (1, .d false [.sl none (a1.map eI)])]) (by kernel_rfl) ?_
  unfold spec_gwTimes at h
  refine k_sreg (r_go [(0, .d false [.sl none (a0.map (eF eI))]), (1, .d false [.sl none (a1.map eI)])] [] [] (by kernel_rfl) trivial) ?_
  refine k_sreg (r_go [(0, .d false [.sl none (a0.map (eF eI))]), (1, .d false [.sl none (a1.map eI)]), (5, .ov false [.sl (some 3) []])] [] [] (by kernel_rfl) trivial) ?_
  refine k_join (J := fun (x : (List Int)) => [(5, .ov false [.sl (some 3) (x.map eI)])]) (K := fun x => spec_gwTimes_k1 x = some r) (fun x1 h => ?_) ?_
  · unfold spec_gwTimes_k1 at h
    refine k_sreg (r_go [(4, .ov false [.sl (some 3) (x1.map eI)])] [] [] (by kernel_rfl) trivial) ?_
    refine k_ret ?_
    obtain rfl := Option.some.inj h
    exact e_ret (ls := [(.ov false [.sl (some 3) (x1.map eI)], 4)]) (by kernel_rfl) rfl (by kernel_rfl) rfl
  · refine k_sreg (r_go [(1, .d false [.sl none (a1.map eI)]), (5, .ov false [.sl (some 3) []]), (11, .d false [.sl none (a0.map (eF eI))]), (12, .p (.int .i64 (a0.length : Int))), (13, .p (.int .i64 0))] [(1, {n := some a0.length})] [(a0.map (eF eI)).length = a0.length] (by kernel_rfl) ⟨(List.length_map ..), trivial⟩) ?_
    refine k_block ?_
    obtain ⟨y3, hl_x2, hk_x2⟩ := bind_some' h
    clear h
    refine k_loop (J := fun (x : ((List Int) × Int)) => [(1, .d false [.sl none (a1.map eI)]), (5, .ov false [.sl (some 3) (x.1.map eI)]), (11, .d false [.sl none (a0.map (eF eI))]), (12, .p (.int .i64 (a0.length : Int))), (13, .p (.int .i64 x.2))]) hl_x2 (wk_of (by kernel_rfl) (by kernel_rfl)) (fun x2 o_x2 h hy_x2 => ?_)
    unfold spec_gwTimes_b1 at h
    refine k_sreg (r_go [(1, .d false [.sl none (a1.map eI)]), (5, .ov false [.sl (some 3) (x2.1.map eI)]), (11, .d false [.sl none (a0.map (eF eI))]), (12, .p (.int .i64 (a0.length : Int))), (13, .p (.int .i64 x2.2)), (14, .p (.bool (decide (x2.2 < (a0.length : Int)))))] [] [] (by kernel_rfl) trivial) ?_
    refine k_seq ?_
    refine k_cond (b := (decide (x2.2 < (a0.length : Int)))) (by kernel_rfl) (fun hc5_3 => ?_) (fun hc5_3 => ?_)
    · replace h := ite_t hc5_3 h
      refine k_skip ?_
      refine q_n ?_
      refine k_join (J := fun (x : (List Int)) => [(1, .d false [.sl none (a1.map eI)]), (5, .ov false [.sl (some 3) (x.map eI)]), (11, .d false [.sl none (a0.map (eF eI))]), (12, .p (.int .i64 (a0.length : Int))), (13, .p (.int .i64 x2.2))]) (K := fun x => spec_gwTimes_k2 x2 x = some o_x2) (fun x5 h => ?_) ?_
      · unfold spec_gwTimes_k2 at h
        refine k_reg (r_go [(1, .d false [.sl none (a1.map eI)]), (5, .ov false [.sl (some 3) (x5.map eI)]), (11, .d false [.sl none (a0.map (eF eI))]), (12, .p (.int .i64 (a0.length : Int))), (13, .p (.int .i64 (w64 (x2.2 + 1))))] [] [] (by kernel_rfl) trivial) ?_
        exact lq_n (x5, (w64 (x2.2 + 1))) (Option.some.inj h).symm (wk_of (by kernel_rfl) (by kernel_rfl))
      · refine k_block ?_
        replace h := bind_some' h
        obtain ⟨v6, hv6, h⟩ := h
        refine k_sreg (r_go [(1, .d false [.sl none (a1.map eI)]), (5, .ov false [.sl (some 3) (x2.1.map eI)]), (7, .d false [.sl none (v6.map eI)]), (11, .d false [.sl none (a0.map (eF eI))]), (12, .p (.int .i64 (a0.length : Int))), (13, .p (.int .i64 x2.2))] [(0, {row := some [.sl none (v6.map eI)]})] [0 ≤ x2.2, (a0.map (eF eI))[(Int.toNat x2.2)]? = some [.sl none (v6.map eI)]] (by kernel_rfl) ⟨(idxO_some hv6).1, (map_get (eF eI) (idxO_some hv6).2), trivial⟩) ?_
        refine k_sreg (r_go [(1, .d false [.sl none (a1.map eI)]), (5, .ov false [.sl (some 3) (x2.1.map eI)]), (7, .d false [.sl none (v6.map eI)]), (8, .p (.int .i64 0)), (11, .d false [.sl none (a0.map (eF eI))]), (12, .p (.int .i64 (a0.length : Int))), (13, .p (.int .i64 x2.2))] [] [] (by kernel_rfl) trivial) ?_
        refine k_join (J := fun (x : Int) => [(1, .d false [.sl none (a1.map eI)]), (5, .ov false [.sl (some 3) (x2.1.map eI)]), (8, .p (.int .i64 x)), (11, .d false [.sl none (a0.map (eF eI))]), (12, .p (.int .i64 (a0.length : Int))), (13, .p (.int .i64 x2.2))]) (K := fun x => spec_gwTimes_k3 x2 x = some o_x2) (fun x7 h => ?_) ?_
        · unfold spec_gwTimes_k3 at h
          replace h := bind_some' h
          obtain ⟨u8, hu8, h⟩ := h
          refine k_reg (r_go [(1, .d false [.sl none (a1.map eI)]), (5, .ov false [.sl (some 3) ((x2.1 ++ [x7]).map eI)]), (11, .d false [.sl none (a0.map (eF eI))]), (12, .p (.int .i64 (a0.length : Int))), (13, .p (.int .i64 x2.2))] [(3, {fix := some (36, .ov false [.sl (some 3) ((x2.1 ++ [x7]).map eI)])})] [List.length ((x2.1.map eI) : List (List C)) + List.length ((([x7]).map eI) : List (List C)) ≤ 1099511627776, ∀ row ∈ ((([x7]).map eI) : List (List C)), row.length = 1, (SV.ov false [.sl (some 3) ((x2.1.map eI) ++ (([x7]).map eI))] : SV) = .ov false [.sl (some 3) ((x2.1 ++ [x7]).map eI)]] (by kernel_rfl) ⟨(by have hg := (guardO_some hu8); simpa using hg), (rows_len fun _ => rfl), (congrArg (fun z => SV.ov false [.sl (some 3) z]) (List.map_append ..).symm), trivial⟩) ?_
          refine b_n ?_
          refine q_n ?_
          exact ⟨(x2.1 ++ [x7]), h, (wk_of (by kernel_rfl) (by kernel_rfl))⟩
        · refine k_sreg (r_go [(1, .d false [.sl none (a1.map eI)]), (5, .ov false [.sl (some 3) (x2.1.map eI)]), (8, .p (.int .i64 0)), (11, .d false [.sl none (a0.map (eF eI))]), (12, .p (.int .i64 (a0.length : Int))), (13, .p (.int .i64 x2.2)), (17, .d false [.sl none (v6.map eI)]), (18, .p (.int .i64 (v6.length : Int))), (19, .p (.int .i64 0))] [(1, {n := some v6.length})] [(v6.map eI).length = v6.length] (by kernel_rfl) ⟨(List.length_map ..), trivial⟩) ?_
          refine k_block ?_
          obtain ⟨y10, hl_x9, hk_x9⟩ := bind_some' h
          clear h
          refine k_loop (J := fun (x : (Int × Int)) => [(1, .d false [.sl none (a1.map eI)]), (5, .ov false [.sl (some 3) (x2.1.map eI)]), (8, .p (.int .i64 x.1)), (11, .d false [.sl none (a0.map (eF eI))]), (12, .p (.int .i64 (a0.length : Int))), (13, .p (.int .i64 x2.2)), (17, .d false [.sl none (v6.map eI)]), (18, .p (.int .i64 (v6.length : Int))), (19, .p (.int .i64 x.2))]) hl_x9 (wk_of (by kernel_rfl) (by kernel_rfl)) (fun x9 o_x9 h hy_x9 => ?_)
          unfold spec_gwTimes_b2 at h
          refine k_sreg (r_go [(1, .d false [.sl none (a1.map eI)]), (5, .ov false [.sl (some 3) (x2.1.map eI)]), (8, .p (.int .i64 x9.1)), (11, .d false [.sl none (a0.map (eF eI))]), (12, .p (.int .i64 (a0.length : Int))), (13, .p (.int .i64 x2.2)), (17, .d false [.sl none (v6.map eI)]), (18, .p (.int .i64 (v6.length : Int))), (19, .p (.int .i64 x9.2)), (20, .p (.bool (decide (x9.2 < (v6.length : Int)))))] [] [] (by kernel_rfl) trivial) ?_
          refine k_seq ?_
          refine k_cond (b := (decide (x9.2 < (v6.length : Int)))) (by kernel_rfl) (fun hc10_10 => ?_) (fun hc10_10 => ?_)
          · replace h := ite_t hc10_10 h
            refine k_skip ?_
            refine q_n ?_
            refine k_seq ?_
            refine k_block ?_
            replace h := bind_some' h
            obtain ⟨v12, hv12, h⟩ := h
            refine k_sreg (r_go [(1, .d false [.sl none (a1.map eI)]), (5, .ov false [.sl (some 3) (x2.1.map eI)]), (8, .p (.int .i64 x9.1)), (9, .p (.int .i64 x9.2)), (10, .p (.int .i64 v12)), (11, .d false [.sl none (a0.map (eF eI))]), (12, .p (.int .i64 (a0.length : Int))), (13, .p (.int .i64 x2.2)), (17, .d false [.sl none (v6.map eI)]), (18, .p (.int .i64 (v6.length : Int))), (19, .p (.int .i64 x9.2))] [(1, {row := some [.raw (.int .i64 v12)]})] [0 ≤ x9.2, (v6.map eI)[(Int.toNat x9.2)]? = some [.raw (.int .i64 v12)]] (by kernel_rfl) ⟨(idxO_some hv12).1, (map_get eI (idxO_some hv12).2), trivial⟩) ?_
            replace h := bind_some' h
            obtain ⟨v13, hv13, h⟩ := h
            refine k_reg (r_go [(1, .d false [.sl none (a1.map eI)]), (5, .ov false [.sl (some 3) (x2.1.map eI)]), (8, .p (.int .i64 (w64 (x9.1 + (w64 (v12 * v13)))))), (11, .d false [.sl none (a0.map (eF eI))]), (12, .p (.int .i64 (a0.length : Int))), (13, .p (.int .i64 x2.2)), (17, .d false [.sl none (v6.map eI)]), (18, .p (.int .i64 (v6.length : Int))), (19, .p (.int .i64 x9.2))] [(4, {row := some [.raw (.int .i64 v13)]})] [0 ≤ x9.2, (a1.map eI)[(Int.toNat x9.2)]? = some [.raw (.int .i64 v13)]] (by kernel_rfl) ⟨(idxO_some hv13).1, (map_get eI (idxO_some hv13).2), trivial⟩) ?_
            refine b_n ?_
            refine q_n ?_
            refine k_reg (r_go [(1, .d false [.sl none (a1.map eI)]), (5, .ov false [.sl (some 3) (x2.1.map eI)]), (8, .p (.int .i64 (w64 (x9.1 + (w64 (v12 * v13)))))), (11, .d false [.sl none (a0.map (eF eI))]), (12, .p (.int .i64 (a0.length : Int))), (13, .p (.int .i64 x2.2)), (17, .d false [.sl none (v6.map eI)]), (18, .p (.int .i64 (v6.length : Int))), (19, .p (.int .i64 (w64 (x9.2 + 1))))] [] [] (by kernel_rfl) trivial) ?_
            exact lq_n ((w64 (x9.1 + (w64 (v12 * v13)))), (w64 (x9.2 + 1))) (Option.some.inj h).symm (wk_of (by kernel_rfl) (by kernel_rfl))
          · replace h := ite_f hc10_10 h
            refine k_exit ?_
            refine q_x ?_
            refine lq_x ?_
            refine b_x ?_
            have hyy := hy_x9 _ (Option.some.inj h).symm
            subst hyy
            have h := hk_x9
            refine q_n ?_
            exact ⟨x9.1, h, (wk_of (by kernel_rfl) (by kernel_rfl))⟩
    · replace h := ite_f hc5_3 h
      refine k_exit ?_
      refine q_x ?_
      refine lq_x ?_
      refine b_x ?_
      have hyy := hy_x2 _ (Option.some.inj h).symm
      subst hyy
      have h := hk_x2
      refine q_n ?_
      exact ⟨x2.1, h, (wk_of (by kernel_rfl) (by kernel_rfl))⟩
theorem wk_spec_gwVector {a0 : (List Int)}  {r : Bool} (h : spec_gwVector a0 = some r) : Meets Try.prog 110 [.d false [.sl none (a0.map eI)]] { vals := [.p (.bool r)] } := by
  refine Meets_ofL (by kernel_rfl) Try.func110 rfl (by kernel_rfl) (l0 := [(0, .d false [.sl none (a0.map eI)])]) (by kernel_rfl) ?_
  unfold spec_gwVector at h
  refine k_sreg (r_go [(0, .d false [.sl none (a0.map eI)])] [] [] (by kernel_rfl) trivial) ?_
  replace h := bind_some' h
  obtain ⟨v1, hv1, h⟩ := h
  replace h := bind_some' h
  obtain ⟨w3, hw3, h⟩ := h
  refine k_sreg (l1 := [(2, .p (.bool w3))]) ?_ ?_
  · clear h
    rcases Bool.eq_false_or_eq_true v1 with ha0 | ha0
    · replace hw3 := ite_t ha0 hw3
      replace hw3 := bind_some' hw3
      obtain ⟨v2, hv2, hw3⟩ := hw3
      have hw3 := Option.some.inj hw3
      subst hw3
      exact (r_go [(2, .p (.bool v2))] [(1, {n := some a0.length}), (2, {call := some ([.v (.int .i64 (a0.length : Int)), .v (.int .i64 1), .v (.int .i64 8)], [.p (.bool v1)], true)}), (4, {g := some true}), (5, {g := some true, call := some ([.d false [.sl none (a0.map eI)], .v (.int .i64 1), .v (.int .i64 1000000)], [.p (.bool v2)], true)}), (6, {b := some true})] [(a0.map eI).length = a0.length, ([.v (.int .i64 (a0.length : Int)), .v (.int .i64 1), .v (.int .i64 8)] : List Arg) = [.v (.int .i64 (a0.length : Int)), .v (.int .i64 1), .v (.int .i64 8)], Meets Try.prog 87 ([.v (.int .i64 (a0.length : Int)), .v (.int .i64 1), .v (.int .i64 8)] ++ []) { vals := [.p (.bool v1)] }, (!true || List.all [.p (.bool v1)] simpleR) = true, v1 = true, v1 = true, ([.d false [.sl none (a0.map eI)], .v (.int .i64 1), .v (.int .i64 1000000)] : List Arg) = [.d false [.sl none (a0.map eI)], .v (.int .i64 1), .v (.int .i64 1000000)], Meets Try.prog 116 ([.d false [.sl none (a0.map eI)], .v (.int .i64 1), .v (.int .i64 1000000)] ++ []) { vals := [.p (.bool v2)] }, (!true || List.all [.p (.bool v2)] simpleR) = true, v1 = true] (by kernel_rfl) ⟨(List.length_map ..), rfl, (wk_spec_l1In hv1), (bt rfl), ha0, ha0, rfl, (wk_spec_l1All hv2), (bt rfl), ha0, trivial⟩)
    · replace hw3 := ite_f ha0 hw3
      have hw3 := Option.some.inj hw3
      subst hw3
      exact (r_go [(2, .p (.bool false))] [(1, {n := some a0.length}), (2, {call := some ([.v (.int .i64 (a0.length : Int)), .v (.int .i64 1), .v (.int .i64 8)], [.p (.bool v1)], true)}), (4, {g := some false}), (5, {g := some false}), (6, {b := some false})] [(a0.map eI).length = a0.length, ([.v (.int .i64 (a0.length : Int)), .v (.int .i64 1), .v (.int .i64 8)] : List Arg) = [.v (.int .i64 (a0.length : Int)), .v (.int .i64 1), .v (.int .i64 8)], Meets Try.prog 87 ([.v (.int .i64 (a0.length : Int)), .v (.int .i64 1), .v (.int .i64 8)] ++ []) { vals := [.p (.bool v1)] }, (!true || List.all [.p (.bool v1)] simpleR) = true, v1 = false, v1 = false, v1 = false] (by kernel_rfl) ⟨(List.length_map ..), rfl, (wk_spec_l1In hv1), (bt rfl), ha0, ha0, ha0, trivial⟩)
  · refine k_ret ?_
    obtain rfl := Option.some.inj h
    exact e_ret (ls := [(.p (.bool w3), 2)]) (by kernel_rfl) rfl (by kernel_rfl) rfl
theorem wk_spec_gwWalks {a0 : (List (List Int))} {a1 : Int}  {r : ((List Int) × Bool)} (h : spec_gwWalks a0 a1 = some r) : Meets Try.prog 83 [.d false [.sl none (a0.map (eF eI))], .v (.int .i64 a1)] { vals := [.ov false [.sl (some 3) (r.1.map eI)], .p (.bool r.2)] } := by
  refine Meets_ofL (by kernel_rfl) Try.func83 rfl (by kernel_rfl) (l0 := [(0, .d false [.sl none (a0.map (eF eI))]), (1, .p (.int .i64 a1))]) (by kernel_rfl) ?_
  unfold spec_gwWalks at h
  refine k_sreg (r_go [(0, .d false [.sl none (a0.map (eF eI))]), (1, .p (.int .i64 a1))] [] [] (by kernel_rfl) trivial) ?_
  replace h := bind_some' h
  obtain ⟨u1, hu1, h⟩ := h
  refine k_sreg (r_go [(0, .d false [.sl none (a0.map (eF eI))]), (1, .p (.int .i64 a1)), (6, .ov false [.sl (some 3) ((List.replicate (Int.toNat (a0.length : Int)) (0 : Int)).map eI)])] [(1, {n := some a0.length}), (2, {fix := some (12, .ov false [.sl (some 3) ((List.replicate (Int.toNat (a0.length : Int)) (0 : Int)).map eI)])})] [(a0.map (eF eI)).length = a0.length, (a0.length : Int) = (a0.length : Int), 0 ≤ (a0.length : Int), (a0.length : Int) ≤ 1099511627776, (SV.ov false [.sl (some 3) (List.replicate (Int.toNat (a0.length : Int)) [.raw (.int .i64 0)])] : SV) = .ov false [.sl (some 3) ((List.replicate (Int.toNat (a0.length : Int)) (0 : Int)).map eI)]] (by kernel_rfl) ⟨(List.length_map ..), rfl, (guardO_some hu1).1, (guardO_some hu1).2, (congrArg (fun z => SV.ov false [.sl (some 3) z]) (rep_fix eI (0 : Int))), trivial⟩) ?_
  refine k_join (J := fun (x : (List Int)) => [(0, .d false [.sl none (a0.map (eF eI))]), (1, .p (.int .i64 a1)), (6, .ov false [.sl (some 3) (x.map eI)])]) (K := fun x => spec_gwWalks_k1 a0 a1 x = some r) (fun x2 h => ?_) ?_
  · unfold spec_gwWalks_k1 at h
    refine k_join (J := fun (x : (List Int)) => [(6, .ov false [.sl (some 3) (x.map eI)])]) (K := fun x => spec_gwWalks_k2 x = some r) (fun x3 h => ?_) ?_
    · unfold spec_gwWalks_k2 at h
      refine k_sreg (r_go [(4, .ov false [.sl (some 3) (x3.map eI)]), (5, .p (.bool true))] [] [] (by kernel_rfl) trivial) ?_
      refine k_ret ?_
      obtain rfl := Option.some.inj h
      exact e_ret (ls := [(.ov false [.sl (some 3) (x3.map eI)], 4), (.p (.bool true), 5)]) (by kernel_rfl) rfl (by kernel_rfl) rfl
    · refine k_block ?_
      obtain ⟨y5, hl_x4, hk_x4⟩ := bind_some' h
      clear h
      refine k_loop (J := fun (x : (Int × (List Int))) => [(0, .d false [.sl none (a0.map (eF eI))]), (1, .p (.int .i64 x.1)), (6, .ov false [.sl (some 3) (x.2.map eI)])]) hl_x4 (wk_of (by kernel_rfl) (by kernel_rfl)) (fun x4 o_x4 h hy_x4 => ?_)
      unfold spec_gwWalks_b1 at h
      refine k_seq ?_
      refine k_sreg (r_go [(0, .d false [.sl none (a0.map (eF eI))]), (1, .p (.int .i64 x4.1)), (6, .ov false [.sl (some 3) (x4.2.map eI)]), (23, .p (.bool (decide (x4.1 > 0))))] [] [] (by kernel_rfl) trivial) ?_
      refine k_cond (b := (decide (x4.1 > 0))) (by kernel_rfl) (fun hc5_5 => ?_) (fun hc5_5 => ?_)
      · replace h := ite_t hc5_5 h
        refine k_skip ?_
        refine q_n ?_
        refine k_join (J := fun (x : (List Int)) => [(0, .d false [.sl none (a0.map (eF eI))]), (1, .p (.int .i64 x4.1)), (6, .ov false [.sl (some 3) (x.map eI)])]) (K := fun x => spec_gwWalks_k3 x4 x = some o_x4) (fun x7 h => ?_) ?_
        · unfold spec_gwWalks_k3 at h
          refine k_reg (r_go [(0, .d false [.sl none (a0.map (eF eI))]), (1, .p (.int .i64 (w64 (x4.1 - 1)))), (6, .ov false [.sl (some 3) (x7.map eI)])] [] [] (by kernel_rfl) trivial) ?_
          exact lq_n ((w64 (x4.1 - 1)), x7) (Option.some.inj h).symm (wk_of (by kernel_rfl) (by kernel_rfl))
        · refine k_block ?_
          refine k_join (J := fun (x : (List Int)) => [(0, .d false [.sl none (a0.map (eF eI))]), (1, .p (.int .i64 x4.1)), (6, .ov false [.sl (some 3) (x.map eI)])]) (K := fun x => spec_gwWalks_k4 x4 x = some o_x4) (fun x8 h => ?_) ?_
          · unfold spec_gwWalks_k4 at h
            replace h := bind_some' h
            obtain ⟨v9, hv9, h⟩ := h
            refine k_sreg (r_go [(0, .d false [.sl none (a0.map (eF eI))]), (1, .p (.int .i64 x4.1)), (6, .ov false [.sl (some 3) (x8.map eI)]), (45, .p (.bool (!v9)))] [(1, {call := some ([.d false [.sl none (x8.map eI)]], [.p (.bool v9)], true)})] [([.d false [.sl none (eraL (x8.map eI))]] : List Arg) = [.d false [.sl none (x8.map eI)]], Meets Try.prog 110 ([.d false [.sl none (x8.map eI)]] ++ []) { vals := [.p (.bool v9)] }, (!true || List.all [.p (.bool v9)] simpleR) = true] (by kernel_rfl) ⟨(by simp only [eraL_enc (h := eI) er_I]), (wk_spec_gwVector hv9), (bt rfl), trivial⟩) ?_
            refine k_cond (b := (!v9)) (by kernel_rfl) (fun hc6_9 => ?_) (fun hc6_9 => ?_)
            · replace h := ite_t hc6_9 h
              refine k_sreg (r_go [(4, .ov false [.sl (some 3) []]), (5, .p (.bool false))] [] [] (by kernel_rfl) trivial) ?_
              refine k_ret ?_
              refine b_r ?_
              refine q_r ?_
              refine lq_r ?_
              refine b_r ?_
              refine q_r ?_
              have hyy := hy_x4 _ (Option.some.inj h).symm
              subst hyy
              have h := hk_x4
              dsimp only [Sum.elim] at h
              obtain rfl := Option.some.inj h
              exact e_ret (ls := [(.ov false [.sl (some 3) []], 4), (.p (.bool false), 5)]) (by kernel_rfl) rfl (by kernel_rfl) rfl
            · replace h := ite_f hc6_9 h
              refine k_skip ?_
              refine b_n ?_
              refine q_n ?_
              exact ⟨x8, h, (wk_of (by kernel_rfl) (by kernel_rfl))⟩
          · replace h := bind_some' h
            obtain ⟨v11, hv11, h⟩ := h
            refine k_sreg (r_go [(0, .d false [.sl none (a0.map (eF eI))]), (1, .p (.int .i64 x4.1)), (6, .ov false [.sl (some 3) (x4.2.map eI)]), (28, .ov false [.sl (some 3) (v11.map eI)]), (29, .p (.int .i64 (v11.length : Int))), (30, .p (.int .i64 0))] [(2, {call := some ([.d false [.sl none (a0.map (eF eI))], .d false [.sl none (x4.2.map eI)]], [.ov false [.sl (some 3) (v11.map eI)]], true)}), (3, {n := some v11.length})] [([.d false [.sl none (a0.map (eF eI))], .d false [.sl none (eraL (x4.2.map eI))]] : List Arg) = [.d false [.sl none (a0.map (eF eI))], .d false [.sl none (x4.2.map eI)]], Meets Try.prog 123 ([.d false [.sl none (a0.map (eF eI))], .d false [.sl none (x4.2.map eI)]] ++ []) { vals := [.ov false [.sl (some 3) (v11.map eI)]] }, (!true || List.all [.ov false [.sl (some 3) (v11.map eI)]] simpleR) = true, (v11.map eI).length = v11.length] (by kernel_rfl) ⟨(by simp only [eraL_enc (h := eI) er_I]), (wk_spec_gwTimes hv11), (bt (sa_o (wnR1 (wnL_enc wn_I) rfl) rfl)), (List.length_map ..), trivial⟩) ?_
            refine k_block ?_
            obtain ⟨y13, hl_x12, hk_x12⟩ := bind_some' h
            clear h
            refine k_loop (J := fun (x : ((List Int) × Int)) => [(0, .d false [.sl none (a0.map (eF eI))]), (1, .p (.int .i64 x4.1)), (6, .ov false [.sl (some 3) (x.1.map eI)]), (28, .ov false [.sl (some 3) (v11.map eI)]), (29, .p (.int .i64 (v11.length : Int))), (30, .p (.int .i64 x.2))]) hl_x12 (wk_of (by kernel_rfl) (by kernel_rfl)) (fun x12 o_x12 h hy_x12 => ?_)
            unfold spec_gwWalks_b2 at h
            refine k_sreg (r_go [(0, .d false [.sl none (a0.map (eF eI))]), (1, .p (.int .i64 x4.1)), (6, .ov false [.sl (some 3) (x12.1.map eI)]), (28, .ov false [.sl (some 3) (v11.map eI)]), (29, .p (.int .i64 (v11.length : Int))), (30, .p (.int .i64 x12.2)), (31, .p (.bool (decide (x12.2 < (v11.length : Int)))))] [] [] (by kernel_rfl) trivial) ?_
            refine k_seq ?_
            refine k_cond (b := (decide (x12.2 < (v11.length : Int)))) (by kernel_rfl) (fun hc10_13 => ?_) (fun hc10_13 => ?_)
            · replace h := ite_t hc10_13 h
              refine k_skip ?_
              refine q_n ?_
              refine k_seq ?_
              refine k_block ?_
              replace h := bind_some' h
              obtain ⟨v15, hv15, h⟩ := h
              refine k_sreg (r_go [(0, .d false [.sl none (a0.map (eF eI))]), (1, .p (.int .i64 x4.1)), (6, .ov false [.sl (some 3) (x12.1.map eI)]), (8, .p (.int .i64 x12.2)), (9, .p (.int .i64 v15)), (28, .ov false [.sl (some 3) (v11.map eI)]), (29, .p (.int .i64 (v11.length : Int))), (30, .p (.int .i64 x12.2))] [(1, {row := some [.raw (.int .i64 v15)]}), (2, {row := some [.raw (.int .i64 v15)]})] [0 ≤ x12.2, (v11.map eI)[(Int.toNat x12.2)]? = some [.raw (.int .i64 v15)], getRow [[.sl (some 3) (v11.map eI)]] [(0, 0), ((Int.toNat x12.2), 0)] = some [.raw (.int .i64 v15)]] (by kernel_rfl) ⟨(idxO_some hv15).1, (map_get eI (idxO_some hv15).2), ((gr0 rfl).trans (gre (map_get eI (idxO_some hv15).2))), trivial⟩) ?_
              replace h := bind_some' h
              obtain ⟨v16, hv16, h⟩ := h
              refine k_reg (r_go [(0, .d false [.sl none (a0.map (eF eI))]), (1, .p (.int .i64 x4.1)), (6, .ov false [.sl (some 3) ((x12.1.set (Int.toNat x12.2) (w64 (v16 + v15))).map eI)]), (28, .ov false [.sl (some 3) (v11.map eI)]), (29, .p (.int .i64 (v11.length : Int))), (30, .p (.int .i64 x12.2))] [(2, {row := some [.raw (.int .i64 v16)]}), (3, {row := some [.raw (.int .i64 v16)]}), (6, {row := some [.raw (.int .i64 v16)]}), (7, {row := some [.raw (.int .i64 v16)], fix := some (6, .ov false [.sl (some 3) ((x12.1.set (Int.toNat x12.2) (w64 (v16 + v15))).map eI)])})] [0 ≤ x12.2, (x12.1.map eI)[(Int.toNat x12.2)]? = some [.raw (.int .i64 v16)], getRow [[.sl (some 3) (x12.1.map eI)]] [(0, 0), ((Int.toNat x12.2), 0)] = some [.raw (.int .i64 v16)], 0 ≤ x12.2, (x12.1.map eI)[(Int.toNat x12.2)]? = some [.raw (.int .i64 v16)], getRow [[.sl (some 3) (x12.1.map eI)]] [(0, 0), ((Int.toNat x12.2), 0)] = some [.raw (.int .i64 v16)], (SV.ov false [.sl (some 3) (setL (x12.1.map eI) [((Int.toNat x12.2), 0)] [.raw (.int .i64 (w64 (v16 + v15)))])] : SV) = .ov false [.sl (some 3) ((x12.1.set (Int.toNat x12.2) (w64 (v16 + v15))).map eI)]] (by kernel_rfl) ⟨(idxO_some hv16).1, (map_get eI (idxO_some hv16).2), ((gr0 rfl).trans (gre (map_get eI (idxO_some hv16).2))), (idxO_some hv16).1, (map_get eI (idxO_some hv16).2), ((gr0 rfl).trans (gre (map_get eI (idxO_some hv16).2))), (congrArg (fun z => SV.ov false [.sl (some 3) z]) (set1 (f := eI) (y := (w64 (v16 + v15))) (idxO_some hv16).2 rfl)), trivial⟩) ?_
              refine b_n ?_
              refine q_n ?_
              refine k_reg (r_go [(0, .d false [.sl none (a0.map (eF eI))]), (1, .p (.int .i64 x4.1)), (6, .ov false [.sl (some 3) ((x12.1.set (Int.toNat x12.2) (w64 (v16 + v15))).map eI)]), (28, .ov false [.sl (some 3) (v11.map eI)]), (29, .p (.int .i64 (v11.length : Int))), (30, .p (.int .i64 (w64 (x12.2 + 1))))] [] [] (by kernel_rfl) trivial) ?_
              exact lq_n ((x12.1.set (Int.toNat x12.2) (w64 (v16 + v15))), (w64 (x12.2 + 1))) (Option.some.inj h).symm (wk_of (by kernel_rfl) (by kernel_rfl))
            · replace h := ite_f hc10_13 h
              refine k_exit ?_
              refine q_x ?_
              refine lq_x ?_
              refine b_x ?_
              have hyy := hy_x12 _ (Option.some.inj h).symm
              subst hyy
              have h := hk_x12
              refine q_n ?_
              exact ⟨x12.1, h, (wk_of (by kernel_rfl) (by kernel_rfl))⟩
      · replace h := ite_f hc5_5 h
        refine k_exit ?_
        refine q_x ?_
        refine lq_x ?_
        refine b_x ?_
        have hyy := hy_x4 _ (Option.some.inj h).symm
        subst hyy
        have h := hk_x4
        dsimp only [Sum.elim] at h
        refine q_n ?_
        exact ⟨x4.2, h, (wk_of (by kernel_rfl) (by kernel_rfl))⟩
  · refine k_sreg (r_go [(0, .d false [.sl none (a0.map (eF eI))]), (1, .p (.int .i64 a1)), (6, .ov false [.sl (some 3) ((List.replicate (Int.toNat (a0.length : Int)) (0 : Int)).map eI)]), (14, .p (.int .i64 ((List.replicate (Int.toNat (a0.length : Int)) (0 : Int)).length : Int))), (15, .p (.int .i64 0))] [(1, {n := some (List.replicate (Int.toNat (a0.length : Int)) (0 : Int)).length})] [((List.replicate (Int.toNat (a0.length : Int)) (0 : Int)).map eI).length = (List.replicate (Int.toNat (a0.length : Int)) (0 : Int)).length] (by kernel_rfl) ⟨(List.length_map ..), trivial⟩) ?_
    refine k_block ?_
    obtain ⟨y18, hl_x17, hk_x17⟩ := bind_some' h
    clear h
    refine k_loop (J := fun (x : ((List Int) × Int)) => [(0, .d false [.sl none (a0.map (eF eI))]), (1, .p (.int .i64 a1)), (6, .ov false [.sl (some 3) (x.1.map eI)]), (14, .p (.int .i64 ((List.replicate (Int.toNat (a0.length : Int)) (0 : Int)).length : Int))), (15, .p (.int .i64 x.2))]) hl_x17 (wk_of (by kernel_rfl) (by kernel_rfl)) (fun x17 o_x17 h hy_x17 => ?_)
    unfold spec_gwWalks_b3 at h
    refine k_sreg (r_go [(0, .d false [.sl none (a0.map (eF eI))]), (1, .p (.int .i64 a1)), (6, .ov false [.sl (some 3) (x17.1.map eI)]), (14, .p (.int .i64 ((List.replicate (Int.toNat (a0.length : Int)) (0 : Int)).length : Int))), (15, .p (.int .i64 x17.2)), (16, .p (.bool (decide (x17.2 < ((List.replicate (Int.toNat (a0.length : Int)) (0 : Int)).length : Int)))))] [] [] (by kernel_rfl) trivial) ?_
    refine k_seq ?_
    refine k_cond (b := (decide (x17.2 < ((List.replicate (Int.toNat (a0.length : Int)) (0 : Int)).length : Int)))) (by kernel_rfl) (fun hc5_18 => ?_) (fun hc5_18 => ?_)
    · replace h := ite_t hc5_18 h
      refine k_skip ?_
      refine q_n ?_
      refine k_seq ?_
      refine k_block ?_
      refine k_sreg (r_go [(0, .d false [.sl none (a0.map (eF eI))]), (1, .p (.int .i64 a1)), (6, .ov false [.sl (some 3) (x17.1.map eI)]), (7, .p (.int .i64 x17.2)), (14, .p (.int .i64 ((List.replicate (Int.toNat (a0.length : Int)) (0 : Int)).length : Int))), (15, .p (.int .i64 x17.2))] [] [] (by kernel_rfl) trivial) ?_
      replace h := bind_some' h
      obtain ⟨v20, hv20, h⟩ := h
      refine k_reg (r_go [(0, .d false [.sl none (a0.map (eF eI))]), (1, .p (.int .i64 a1)), (6, .ov false [.sl (some 3) ((x17.1.set (Int.toNat x17.2) 1).map eI)]), (14, .p (.int .i64 ((List.replicate (Int.toNat (a0.length : Int)) (0 : Int)).length : Int))), (15, .p (.int .i64 x17.2))] [(2, {row := some [.raw (.int .i64 v20)]}), (3, {row := some [.raw (.int .i64 v20)], fix := some (6, .ov false [.sl (some 3) ((x17.1.set (Int.toNat x17.2) 1).map eI)])})] [0 ≤ x17.2, (x17.1.map eI)[(Int.toNat x17.2)]? = some [.raw (.int .i64 v20)], getRow [[.sl (some 3) (x17.1.map eI)]] [(0, 0), ((Int.toNat x17.2), 0)] = some [.raw (.int .i64 v20)], (SV.ov false [.sl (some 3) (setL (x17.1.map eI) [((Int.toNat x17.2), 0)] [.raw (.int .i64 1)])] : SV) = .ov false [.sl (some 3) ((x17.1.set (Int.toNat x17.2) 1).map eI)]] (by kernel_rfl) ⟨(idxO_some hv20).1, (map_get eI (idxO_some hv20).2), ((gr0 rfl).trans (gre (map_get eI (idxO_some hv20).2))), (congrArg (fun z => SV.ov false [.sl (some 3) z]) (set1 (f := eI) (y := 1) (idxO_some hv20).2 rfl)), trivial⟩) ?_
      refine b_n ?_
      refine q_n ?_
      refine k_reg (r_go [(0, .d false [.sl none (a0.map (eF eI))]), (1, .p (.int .i64 a1)), (6, .ov false [.sl (some 3) ((x17.1.set (Int.toNat x17.2) 1).map eI)]), (14, .p (.int .i64 ((List.replicate (Int.toNat (a0.length : Int)) (0 : Int)).length : Int))), (15, .p (.int .i64 (w64 (x17.2 + 1))))] [] [] (by kernel_rfl) trivial) ?_
      exact lq_n ((x17.1.set (Int.toNat x17.2) 1), (w64 (x17.2 + 1))) (Option.some.inj h).symm (wk_of (by kernel_rfl) (by kernel_rfl))
    · replace h := ite_f hc5_18 h
      refine k_exit ?_
      refine q_x ?_
      refine lq_x ?_
      refine b_x ?_
      have hyy := hy_x17 _ (Option.some.inj h).symm
      subst hyy
      have h := hk_x17
      refine q_n ?_
      exact ⟨x17.1, h, (wk_of (by kernel_rfl) (by kernel_rfl))⟩
theorem wk_spec_l1Most {a0 : Int} {a1 : Int}  {r : Int} (h : spec_l1Most a0 a1 = some r) : Meets Try.prog 130 [.v (.int .i64 a0), .v (.int .i64 a1)] { vals := [.p (.int .i64 r)] } := by
  refine Meets_ofL (by kernel_rfl) Try.func130 rfl (by kernel_rfl) (l0 := [(0, .p (.int .i64 a0)), (1, .p (.int .i64 a1))]) (by kernel_rfl) ?_
  unfold spec_l1Most at h
  refine k_sreg (r_go [(0, .p (.int .i64 a0)), (1, .p (.int .i64 a1))] [] [] (by kernel_rfl) trivial) ?_
  refine k_seq ?_
  refine k_sreg (r_go [(0, .p (.int .i64 a0)), (1, .p (.int .i64 a1)), (7, .p (.bool (decide (a0 > a1))))] [] [] (by kernel_rfl) trivial) ?_
  refine k_cond (b := (decide (a0 > a1))) (by kernel_rfl) (fun hc2_0 => ?_) (fun hc2_0 => ?_)
  · replace h := ite_t hc2_0 h
    refine k_sreg (r_go [(4, .p (.int .i64 a0))] [] [] (by kernel_rfl) trivial) ?_
    refine k_ret ?_
    refine q_r ?_
    obtain rfl := Option.some.inj h
    exact e_ret (ls := [(.p (.int .i64 a0), 4)]) (by kernel_rfl) rfl (by kernel_rfl) rfl
  · replace h := ite_f hc2_0 h
    refine k_skip ?_
    refine q_n ?_
    refine k_sreg (r_go [(4, .p (.int .i64 a1))] [] [] (by kernel_rfl) trivial) ?_
    refine k_ret ?_
    obtain rfl := Option.some.inj h
    exact e_ret (ls := [(.p (.int .i64 a1), 4)]) (by kernel_rfl) rfl (by kernel_rfl) rfl
theorem wk_spec_l1Abs {a0 : Int}  {r : Int} (h : spec_l1Abs a0 = some r) : Meets Try.prog 112 [.v (.int .i64 a0)] { vals := [.p (.int .i64 r)] } := by
  refine Meets_ofL (by kernel_rfl) Try.func112 rfl (by kernel_rfl) (l0 := [(0, .p (.int .i64 a0))]) (by kernel_rfl) ?_
  unfold spec_l1Abs at h
  refine k_sreg (r_go [(0, .p (.int .i64 a0))] [] [] (by kernel_rfl) trivial) ?_
  replace h := bind_some' h
  obtain ⟨v1, hv1, h⟩ := h
  refine k_sreg (r_go [(2, .p (.int .i64 v1))] [(3, {call := some ([.v (.int .i64 a0), .v (.int .i64 (w64 (0 - a0)))], [.p (.int .i64 v1)], true)})] [([.v (.int .i64 a0), .v (.int .i64 (w64 (0 - a0)))] : List Arg) = [.v (.int .i64 a0), .v (.int .i64 (w64 (0 - a0)))], Meets Try.prog 130 ([.v (.int .i64 a0), .v (.int .i64 (w64 (0 - a0)))] ++ []) { vals := [.p (.int .i64 v1)] }, (!true || List.all [.p (.int .i64 v1)] simpleR) = true] (by kernel_rfl) ⟨rfl, (wk_spec_l1Most hv1), (bt rfl), trivial⟩) ?_
  refine k_ret ?_
  obtain rfl := Option.some.inj h
  exact e_ret (ls := [(.p (.int .i64 v1), 2)]) (by kernel_rfl) rfl (by kernel_rfl) rfl
theorem wk_spec_raCommon {a0 : Int} {a1 : Int}  {r : Int} (h : spec_raCommon a0 a1 = some r) : Meets Try.prog 111 [.v (.int .i64 a0), .v (.int .i64 a1)] { vals := [.p (.int .i64 r)] } := by
  refine Meets_ofL (by kernel_rfl) Try.func111 rfl (by kernel_rfl) (l0 := [(0, .p (.int .i64 a0)), (1, .p (.int .i64 a1))]) (by kernel_rfl) ?_
  unfold spec_raCommon at h
  refine k_sreg (r_go [(0, .p (.int .i64 a0)), (1, .p (.int .i64 a1))] [] [] (by kernel_rfl) trivial) ?_
  refine k_join (J := fun (x : Int) => [(0, .p (.int .i64 x))]) (K := fun x => spec_raCommon_k1 x = some r) (fun x1 h => ?_) ?_
  · unfold spec_raCommon_k1 at h
    refine k_sreg (r_go [(4, .p (.int .i64 x1))] [] [] (by kernel_rfl) trivial) ?_
    refine k_ret ?_
    obtain rfl := Option.some.inj h
    exact e_ret (ls := [(.p (.int .i64 x1), 4)]) (by kernel_rfl) rfl (by kernel_rfl) rfl
  · refine k_block ?_
    obtain ⟨y3, hl_x2, hk_x2⟩ := bind_some' h
    clear h
    refine k_loop (J := fun (x : (Int × Int)) => [(0, .p (.int .i64 x.1)), (1, .p (.int .i64 x.2))]) hl_x2 (wk_of (by kernel_rfl) (by kernel_rfl)) (fun x2 o_x2 h hy_x2 => ?_)
    unfold spec_raCommon_b1 at h
    refine k_seq ?_
    refine k_sreg (r_go [(0, .p (.int .i64 x2.1)), (1, .p (.int .i64 x2.2)), (7, .p (.bool (decide (x2.2 > 0))))] [] [] (by kernel_rfl) trivial) ?_
    refine k_cond (b := (decide (x2.2 > 0))) (by kernel_rfl) (fun hc5_3 => ?_) (fun hc5_3 => ?_)
    · replace h := ite_t hc5_3 h
      refine k_skip ?_
      refine q_n ?_
      refine k_block ?_
      replace h := bind_some' h
      obtain ⟨u5, hu5, h⟩ := h
      refine k_sreg (r_go [(1, .p (.int .i64 x2.2)), (5, .p (.int .i64 (Int.tmod x2.1 x2.2)))] [] [x2.2 ≠ (0 : Int)] (by kernel_rfl) ⟨(guardO_some hu5), trivial⟩) ?_
      refine k_sreg (r_go [(0, .p (.int .i64 x2.2)), (5, .p (.int .i64 (Int.tmod x2.1 x2.2)))] [] [] (by kernel_rfl) trivial) ?_
      refine k_reg (r_go [(0, .p (.int .i64 x2.2)), (1, .p (.int .i64 (Int.tmod x2.1 x2.2)))] [] [] (by kernel_rfl) trivial) ?_
      refine b_n ?_
      exact lq_n (x2.2, (Int.tmod x2.1 x2.2)) (Option.some.inj h).symm (wk_of (by kernel_rfl) (by kernel_rfl))
    · replace h := ite_f hc5_3 h
      refine k_exit ?_
      refine q_x ?_
      refine lq_x ?_
      refine b_x ?_
      have hyy := hy_x2 _ (Option.some.inj h).symm
      subst hyy
      have h := hk_x2
      refine q_n ?_
      exact ⟨x2.1, h, (wk_of (by kernel_rfl) (by kernel_rfl))⟩
theorem wk_spec_raGood {a0 : (Int × Int)}  {r : Bool} (h : spec_raGood a0 = some r) : Meets Try.prog 71 [.v (.agg #[.int .i64 a0.1, .int .i64 a0.2])] { vals := [.p (.bool r)] } := by
  refine Meets_ofL (by kernel_rfl) Try.func71 rfl (by kernel_rfl) (l0 := [(0, .p (.agg #[.int .i64 a0.1, .int .i64 a0.2]))]) (by kernel_rfl) ?_
  unfold spec_raGood at h
  refine k_sreg (r_go [(1, .box [.raw (.int .i64 a0.1), .raw (.int .i64 a0.2)])] [] [] (by kernel_rfl) trivial) ?_
  replace h := bind_some' h
  obtain ⟨v1, hv1, h⟩ := h
  replace h := bind_some' h
  obtain ⟨w5, hw5, h⟩ := h
  refine k_sreg (l1 := [(2, .p (.bool w5))]) ?_ ?_
  · clear h
    rcases Bool.eq_false_or_eq_true v1 with ha0 | ha0
    · replace hw5 := ite_t ha0 hw5
      replace hw5 := bind_some' hw5
      obtain ⟨v2, hv2, hw5⟩ := hw5
      rcases Bool.eq_false_or_eq_true v2 with ha1 | ha1
      · replace hw5 := ite_t ha1 hw5
        replace hw5 := bind_some' hw5
        obtain ⟨v3, hv3, hw5⟩ := hw5
        replace hw5 := bind_some' hw5
        obtain ⟨v4, hv4, hw5⟩ := hw5
        have hw5 := Option.some.inj hw5
        subst hw5
        exact (r_draw Try_mixed 14 [] [(2, .p (.bool (v4 == 1)))] [(2, {call := some ([.v (.int .i64 a0.2), .v (.int .i64 1), .v (.int .i64 1000000000)], [.p (.bool v1)], true)}), (4, {g := some true}), (5, {g := some true}), (6, {g := some true, call := some ([.v (.int .i64 a0.1), .v (.int .i64 (-1000000000)), .v (.int .i64 1000000000)], [.p (.bool v2)], true)}), (7, {b := some true}), (9, {g := some true}), (10, {g := some true}), (11, {g := some true, call := some ([.v (.int .i64 a0.1)], [.p (.int .i64 v3)], true)}), (12, {g := some true}), (13, {g := some true}), (14, {g := some true, call := some ([.v (.int .i64 v3), .v (.int .i64 a0.2)], [.p (.int .i64 v4)], true)}), (15, {g := some true}), (16, {b := some true})] [([.v (.int .i64 a0.2), .v (.int .i64 1), .v (.int .i64 1000000000)] : List Arg) = [.v (.int .i64 a0.2), .v (.int .i64 1), .v (.int .i64 1000000000)], Meets Try.prog 87 ([.v (.int .i64 a0.2), .v (.int .i64 1), .v (.int .i64 1000000000)] ++ []) { vals := [.p (.bool v1)] }, (!true || List.all [.p (.bool v1)] simpleR) = true, v1 = true, v1 = true, v1 = true, ([.v (.int .i64 a0.1), .v (.int .i64 (-1000000000)), .v (.int .i64 1000000000)] : List Arg) = [.v (.int .i64 a0.1), .v (.int .i64 (-1000000000)), .v (.int .i64 1000000000)], Meets Try.prog 87 ([.v (.int .i64 a0.1), .v (.int .i64 (-1000000000)), .v (.int .i64 1000000000)] ++ []) { vals := [.p (.bool v2)] }, (!true || List.all [.p (.bool v2)] simpleR) = true, v1 = true, v2 = true, v2 = true, v2 = true, ([.v (.int .i64 a0.1)] : List Arg) = [.v (.int .i64 a0.1)], Meets Try.prog 112 ([.v (.int .i64 a0.1)] ++ []) { vals := [.p (.int .i64 v3)] }, (!true || List.all [.p (.int .i64 v3)] simpleR) = true, v2 = true, v2 = true, v2 = true, ([.v (.int .i64 v3), .v (.int .i64 a0.2)] : List Arg) = [.v (.int .i64 v3), .v (.int .i64 a0.2)], Meets Try.prog 111 ([.v (.int .i64 v3), .v (.int .i64 a0.2)] ++ []) { vals := [.p (.int .i64 v4)] }, (!true || List.all [.p (.int .i64 v4)] simpleR) = true, v2 = true, v2 = true] (by kernel_rfl) ⟨rfl, (wk_spec_l1In hv1), (bt rfl), ha0, ha0, ha0, rfl, (wk_spec_l1In hv2), (bt rfl), ha0, ha1, ha1, ha1, rfl, (wk_spec_l1Abs hv3), (bt rfl), ha1, ha1, ha1, rfl, (wk_spec_raCommon hv4), (bt rfl), ha1, ha1, trivial⟩)
      · replace hw5 := ite_f ha1 hw5
        have hw5 := Option.some.inj hw5
        subst hw5
        exact (r_draw Try_mixed 14 [] [(2, .p (.bool false))] [(2, {call := some ([.v (.int .i64 a0.2), .v (.int .i64 1), .v (.int .i64 1000000000)], [.p (.bool v1)], true)}), (4, {g := some true}), (5, {g := some true}), (6, {g := some true, call := some ([.v (.int .i64 a0.1), .v (.int .i64 (-1000000000)), .v (.int .i64 1000000000)], [.p (.bool v2)], true)}), (7, {b := some true}), (9, {g := some false}), (10, {g := some false}), (11, {g := some false}), (12, {g := some false}), (13, {g := some false}), (14, {g := some false}), (15, {g := some false}), (16, {b := some false})] [([.v (.int .i64 a0.2), .v (.int .i64 1), .v (.int .i64 1000000000)] : List Arg) = [.v (.int .i64 a0.2), .v (.int .i64 1), .v (.int .i64 1000000000)], Meets Try.prog 87 ([.v (.int .i64 a0.2), .v (.int .i64 1), .v (.int .i64 1000000000)] ++ []) { vals := [.p (.bool v1)] }, (!true || List.all [.p (.bool v1)] simpleR) = true, v1 = true, v1 = true, v1 = true, ([.v (.int .i64 a0.1), .v (.int .i64 (-1000000000)), .v (.int .i64 1000000000)] : List Arg) = [.v (.int .i64 a0.1), .v (.int .i64 (-1000000000)), .v (.int .i64 1000000000)], Meets Try.prog 87 ([.v (.int .i64 a0.1), .v (.int .i64 (-1000000000)), .v (.int .i64 1000000000)] ++ []) { vals := [.p (.bool v2)] }, (!true || List.all [.p (.bool v2)] simpleR) = true, v1 = true, v2 = false, v2 = false, v2 = false, v2 = false, v2 = false, v2 = false, v2 = false, v2 = false] (by kernel_rfl) ⟨rfl, (wk_spec_l1In hv1), (bt rfl), ha0, ha0, ha0, rfl, (wk_spec_l1In hv2), (bt rfl), ha0, ha1, ha1, ha1, ha1, ha1, ha1, ha1, ha1, trivial⟩)
    · replace hw5 := ite_f ha0 hw5
      have hw5 := Option.some.inj hw5
      subst hw5
      exact (r_draw Try_mixed 14 [] [(2, .p (.bool false))] [(2, {call := some ([.v (.int .i64 a0.2), .v (.int .i64 1), .v (.int .i64 1000000000)], [.p (.bool v1)], true)}), (4, {g := some false}), (5, {g := some false}), (6, {g := some false}), (7, {b := some false}), (9, {g := some false}), (10, {g := some false}), (11, {g := some false}), (12, {g := some false}), (13, {g := some false}), (14, {g := some false}), (15, {g := some false}), (16, {b := some false})] [([.v (.int .i64 a0.2), .v (.int .i64 1), .v (.int .i64 1000000000)] : List Arg) = [.v (.int .i64 a0.2), .v (.int .i64 1), .v (.int .i64 1000000000)], Meets Try.prog 87 ([.v (.int .i64 a0.2), .v (.int .i64 1), .v (.int .i64 1000000000)] ++ []) { vals := [.p (.bool v1)] }, (!true || List.all [.p (.bool v1)] simpleR) = true, v1 = false, v1 = false, v1 = false, v1 = false, false = false, false = false, false = false, false = false, false = false, false = false, false = false, false = false] (by kernel_rfl) ⟨rfl, (wk_spec_l1In hv1), (bt rfl), ha0, ha0, ha0, ha0, rfl, rfl, rfl, rfl, rfl, rfl, rfl, rfl, trivial⟩)
  · refine k_ret ?_
    obtain rfl := Option.some.inj h
    exact e_ret (ls := [(.p (.bool w5), 2)]) (by kernel_rfl) rfl (by kernel_rfl) rfl
theorem wk_spec_raMake {a0 : Int} {a1 : Int}  {r : ((Int × Int) × Bool)} (h : spec_raMake a0 a1 = some r) : Meets Try.prog 102 [.v (.int .i64 a0), .v (.int .i64 a1)] { vals := [.p (.agg #[.int .i64 r.1.1, .int .i64 r.1.2]), .p (.bool r.2)] } := by
  refine Meets_ofL (by kernel_rfl) Try.func102 rfl (by kernel_rfl) (l0 := [(0, .p (.int .i64 a0)), (1, .p (.int .i64 a1))]) (by kernel_rfl) ?_
  unfold spec_raMake at h
  refine k_sreg (r_go [(0, .p (.int .i64 a0)), (1, .p (.int .i64 a1)), (4, .box [.raw (.int .i64 0), .raw (.int .i64 0)])] [] [] (by kernel_rfl) trivial) ?_
  refine k_seq ?_
  refine k_sreg (r_go [(0, .p (.int .i64 a0)), (1, .p (.int .i64 a1)), (4, .box [.raw (.int .i64 0), .raw (.int .i64 0)]), (9, .p (.bool (a1 == 0)))] [] [] (by kernel_rfl) trivial) ?_
  refine k_cond (b := (a1 == 0)) (by kernel_rfl) (fun hc2_0 => ?_) (fun hc2_0 => ?_)
  · replace h := ite_t hc2_0 h
    refine k_sreg (r_go [(4, .box [.raw (.int .i64 0), .raw (.int .i64 0)]), (5, .p (.bool false))] [] [] (by kernel_rfl) trivial) ?_
    refine k_ret ?_
    refine q_r ?_
    obtain rfl := Option.some.inj h
    exact e_ret (ls := [(.p (.agg #[.int .i64 0, .int .i64 0]), 4), (.p (.bool false), 5)]) (by kernel_rfl) rfl (by kernel_rfl) rfl
  · replace h := ite_f hc2_0 h
    refine k_skip ?_
    refine q_n ?_
    replace h := bind_some' h
    obtain ⟨v2, hv2, h⟩ := h
    replace h := bind_some' h
    obtain ⟨v3, hv3, h⟩ := h
    replace h := bind_some' h
    obtain ⟨v4, hv4, h⟩ := h
    refine k_sreg (r_go [(0, .p (.int .i64 a0)), (1, .p (.int .i64 a1)), (4, .box [.raw (.int .i64 0), .raw (.int .i64 0)]), (6, .p (.int .i64 v4))] [(1, {call := some ([.v (.int .i64 a0)], [.p (.int .i64 v2)], true)}), (3, {call := some ([.v (.int .i64 a1)], [.p (.int .i64 v3)], true)}), (4, {call := some ([.v (.int .i64 v2), .v (.int .i64 v3)], [.p (.int .i64 v4)], true)})] [([.v (.int .i64 a0)] : List Arg) = [.v (.int .i64 a0)], Meets Try.prog 112 ([.v (.int .i64 a0)] ++ []) { vals := [.p (.int .i64 v2)] }, (!true || List.all [.p (.int .i64 v2)] simpleR) = true, ([.v (.int .i64 a1)] : List Arg) = [.v (.int .i64 a1)], Meets Try.prog 112 ([.v (.int .i64 a1)] ++ []) { vals := [.p (.int .i64 v3)] }, (!true || List.all [.p (.int .i64 v3)] simpleR) = true, ([.v (.int .i64 v2), .v (.int .i64 v3)] : List Arg) = [.v (.int .i64 v2), .v (.int .i64 v3)], Meets Try.prog 111 ([.v (.int .i64 v2), .v (.int .i64 v3)] ++ []) { vals := [.p (.int .i64 v4)] }, (!true || List.all [.p (.int .i64 v4)] simpleR) = true] (by kernel_rfl) ⟨rfl, (wk_spec_l1Abs hv2), (bt rfl), rfl, (wk_spec_l1Abs hv3), (bt rfl), rfl, (wk_spec_raCommon hv4), (bt rfl), trivial⟩) ?_
    refine k_join (J := fun (x : Int) => [(0, .p (.int .i64 a0)), (1, .p (.int .i64 a1)), (4, .box [.raw (.int .i64 0), .raw (.int .i64 0)]), (6, .p (.int .i64 x))]) (K := fun x => spec_raMake_k1 a0 a1 x = some r) (fun x5 h => ?_) ?_
    · unfold spec_raMake_k1 at h
      replace h := bind_some' h
      obtain ⟨u6, hu6, h⟩ := h
      refine k_sreg (r_draw Try_mixed 8 [] [(4, .box [.raw (.int .i64 0), .raw (.int .i64 0)]), (7, .box [.raw (.int .i64 (w64 (Int.tdiv a0 x5))), .raw (.int .i64 (w64 (Int.tdiv a1 x5)))])] [] [x5 ≠ (0 : Int), x5 ≠ (0 : Int)] (by kernel_rfl) ⟨(guardO_some hu6), (guardO_some hu6), trivial⟩) ?_
      refine k_seq ?_
      replace h := bind_some' h
      obtain ⟨v7, hv7, h⟩ := h
      refine k_sreg (r_go [(4, .box [.raw (.int .i64 0), .raw (.int .i64 0)]), (7, .box [.raw (.int .i64 (w64 (Int.tdiv a0 x5))), .raw (.int .i64 (w64 (Int.tdiv a1 x5)))]), (29, .p (.bool (!v7)))] [(1, {call := some ([.v (.agg #[.int .i64 (w64 (Int.tdiv a0 x5)), .int .i64 (w64 (Int.tdiv a1 x5))])], [.p (.bool v7)], true)})] [([.v (.agg #[.int .i64 (w64 (Int.tdiv a0 x5)), .int .i64 (w64 (Int.tdiv a1 x5))])] : List Arg) = [.v (.agg #[.int .i64 (w64 (Int.tdiv a0 x5)), .int .i64 (w64 (Int.tdiv a1 x5))])], Meets Try.prog 71 ([.v (.agg #[.int .i64 (w64 (Int.tdiv a0 x5)), .int .i64 (w64 (Int.tdiv a1 x5))])] ++ []) { vals := [.p (.bool v7)] }, (!true || List.all [.p (.bool v7)] simpleR) = true] (by kernel_rfl) ⟨rfl, (wk_spec_raGood hv7), (bt rfl), trivial⟩) ?_
      refine k_cond (b := (!v7)) (by kernel_rfl) (fun hc2_7 => ?_) (fun hc2_7 => ?_)
      · replace h := ite_t hc2_7 h
        refine k_sreg (r_go [(4, .box [.raw (.int .i64 0), .raw (.int .i64 0)]), (5, .p (.bool false))] [] [] (by kernel_rfl) trivial) ?_
        refine k_ret ?_
        refine q_r ?_
        obtain rfl := Option.some.inj h
        exact e_ret (ls := [(.p (.agg #[.int .i64 0, .int .i64 0]), 4), (.p (.bool false), 5)]) (by kernel_rfl) rfl (by kernel_rfl) rfl
      · replace h := ite_f hc2_7 h
        refine k_skip ?_
        refine q_n ?_
        refine k_sreg (r_go [(4, .box [.raw (.int .i64 (w64 (Int.tdiv a0 x5))), .raw (.int .i64 (w64 (Int.tdiv a1 x5)))]), (5, .p (.bool true))] [] [] (by kernel_rfl) trivial) ?_
        refine k_ret ?_
        obtain rfl := Option.some.inj h
        exact e_ret (ls := [(.p (.agg #[.int .i64 (w64 (Int.tdiv a0 x5)), .int .i64 (w64 (Int.tdiv a1 x5))]), 4), (.p (.bool true), 5)]) (by kernel_rfl) rfl (by kernel_rfl) rfl
    · refine k_sreg (r_go [(0, .p (.int .i64 a0)), (1, .p (.int .i64 a1)), (4, .box [.raw (.int .i64 0), .raw (.int .i64 0)]), (6, .p (.int .i64 v4)), (17, .p (.bool (decide (a1 < 0))))] [] [] (by kernel_rfl) trivial) ?_
      refine k_cond (b := (decide (a1 < 0))) (by kernel_rfl) (fun hc2_8 => ?_) (fun hc2_8 => ?_)
      · replace h := ite_t hc2_8 h
        refine k_reg (r_go [(0, .p (.int .i64 a0)), (1, .p (.int .i64 a1)), (4, .box [.raw (.int .i64 0), .raw (.int .i64 0)]), (6, .p (.int .i64 (w64 (0 - v4))))] [] [] (by kernel_rfl) trivial) ?_
        refine q_n ?_
        exact ⟨(w64 (0 - v4)), h, (wk_of (by kernel_rfl) (by kernel_rfl))⟩
      · replace h := ite_f hc2_8 h
        refine k_skip ?_
        refine q_n ?_
        exact ⟨v4, h, (wk_of (by kernel_rfl) (by kernel_rfl))⟩
theorem wk_spec_gwRatios {a0 : (List (List Int))} {a1 : (List Int)}  {r : (List (Int × Int))} (h : spec_gwRatios a0 a1 = some r) : Meets Try.prog 124 [.d false [.sl none (a0.map (eF eI))], .d false [.sl none (a1.map eI)]] { vals := [.ov false [.sl (some 44) (r.map (eP eI eI))]] } := by
  refine Meets_ofL (by kernel_rfl) Try.func124 rfl (by kernel_rfl) (l0 := [(0, .d false [.sl none (a0.map (eF eI))]), (1, .d false [.sl none (a1.map eI)])]) (by kernel_rfl) ?_
  unfold spec_gwRatios at h
  refine k_sreg (r_go [(0, .d false [.sl none (a0.map (eF eI))]), (1, .d false [.sl none (a1.map eI)])] [] [] (by kernel_rfl) trivial) ?_
  refine k_sreg (r_go [(0, .d false [.sl none (a0.map (eF eI))]), (1, .d false [.sl none (a1.map eI)]), (5, .ov false [.sl (some 44) []])] [] [] (by kernel_rfl) trivial) ?_
  refine k_join (J := fun (x : (List (Int × Int))) => [(5, .ov false [.sl (some 44) (x.map (eP eI eI))])]) (K := fun x => spec_gwRatios_k1 x = some r) (fun x1 h => ?_) ?_
  · unfold spec_gwRatios_k1 at h
    refine k_sreg (r_go [(4, .ov false [.sl (some 44) (x1.map (eP eI eI))])] [] [] (by kernel_rfl) trivial) ?_
    refine k_ret ?_
    obtain rfl := Option.some.inj h
    exact e_ret (ls := [(.ov false [.sl (some 44) (x1.map (eP eI eI))], 4)]) (by kernel_rfl) rfl (by kernel_rfl) rfl
  · replace h := bind_some' h
    obtain ⟨v2, hv2, h⟩ := h
    refine k_sreg (r_go [(1, .d false [.sl none (a1.map eI)]), (5, .ov false [.sl (some 44) []]), (12, .ov false [.sl (some 3) (v2.map eI)]), (13, .p (.int .i64 (v2.length : Int))), (14, .p (.int .i64 0))] [(2, {call := some ([.d false [.sl none (a0.map (eF eI))], .d false [.sl none (a1.map eI)]], [.ov false [.sl (some 3) (v2.map eI)]], true)}), (3, {n := some v2.length})] [([.d false [.sl none (a0.map (eF eI))], .d false [.sl none (a1.map eI)]] : List Arg) = [.d false [.sl none (a0.map (eF eI))], .d false [.sl none (a1.map eI)]], Meets Try.prog 123 ([.d false [.sl none (a0.map (eF eI))], .d false [.sl none (a1.map eI)]] ++ []) { vals := [.ov false [.sl (some 3) (v2.map eI)]] }, (!true || List.all [.ov false [.sl (some 3) (v2.map eI)]] simpleR) = true, (v2.map eI).length = v2.length] (by kernel_rfl) ⟨rfl, (wk_spec_gwTimes hv2), (bt (sa_o (wnR1 (wnL_enc wn_I) rfl) rfl)), (List.length_map ..), trivial⟩) ?_
    refine k_block ?_
    obtain ⟨y4, hl_x3, hk_x3⟩ := bind_some' h
    clear h
    refine k_loop (J := fun (x : ((List (Int × Int)) × Int)) => [(1, .d false [.sl none (a1.map eI)]), (5, .ov false [.sl (some 44) (x.1.map (eP eI eI))]), (12, .ov false [.sl (some 3) (v2.map eI)]), (13, .p (.int .i64 (v2.length : Int))), (14, .p (.int .i64 x.2))]) hl_x3 (wk_of (by kernel_rfl) (by kernel_rfl)) (fun x3 o_x3 h hy_x3 => ?_)
    unfold spec_gwRatios_b1 at h
    refine k_sreg (r_go [(1, .d false [.sl none (a1.map eI)]), (5, .ov false [.sl (some 44) (x3.1.map (eP eI eI))]), (12, .ov false [.sl (some 3) (v2.map eI)]), (13, .p (.int .i64 (v2.length : Int))), (14, .p (.int .i64 x3.2)), (15, .p (.bool (decide (x3.2 < (v2.length : Int)))))] [] [] (by kernel_rfl) trivial) ?_
    refine k_seq ?_
    refine k_cond (b := (decide (x3.2 < (v2.length : Int)))) (by kernel_rfl) (fun hc5_4 => ?_) (fun hc5_4 => ?_)
    · replace h := ite_t hc5_4 h
      refine k_skip ?_
      refine q_n ?_
      refine k_seq ?_
      refine k_block ?_
      replace h := bind_some' h
      obtain ⟨v6, hv6, h⟩ := h
      refine k_sreg (r_go [(1, .d false [.sl none (a1.map eI)]), (5, .ov false [.sl (some 44) (x3.1.map (eP eI eI))]), (6, .p (.int .i64 x3.2)), (7, .p (.int .i64 v6)), (12, .ov false [.sl (some 3) (v2.map eI)]), (13, .p (.int .i64 (v2.length : Int))), (14, .p (.int .i64 x3.2))] [(1, {row := some [.raw (.int .i64 v6)]}), (2, {row := some [.raw (.int .i64 v6)]})] [0 ≤ x3.2, (v2.map eI)[(Int.toNat x3.2)]? = some [.raw (.int .i64 v6)], getRow [[.sl (some 3) (v2.map eI)]] [(0, 0), ((Int.toNat x3.2), 0)] = some [.raw (.int .i64 v6)]] (by kernel_rfl) ⟨(idxO_some hv6).1, (map_get eI (idxO_some hv6).2), ((gr0 rfl).trans (gre (map_get eI (idxO_some hv6).2))), trivial⟩) ?_
      replace h := bind_some' h
      obtain ⟨v7, hv7, h⟩ := h
      replace h := bind_some' h
      obtain ⟨v8, hv8, h⟩ := h
      refine k_sreg (r_go [(1, .d false [.sl none (a1.map eI)]), (5, .ov false [.sl (some 44) (x3.1.map (eP eI eI))]), (8, .box [.raw (.int .i64 v8.1.1), .raw (.int .i64 v8.1.2)]), (12, .ov false [.sl (some 3) (v2.map eI)]), (13, .p (.int .i64 (v2.length : Int))), (14, .p (.int .i64 x3.2))] [(3, {row := some [.raw (.int .i64 v7)]}), (5, {call := some ([.v (.int .i64 v6), .v (.int .i64 v7)], [.p (.agg #[.int .i64 v8.1.1, .int .i64 v8.1.2]), .p (.bool v8.2)], true)})] [0 ≤ x3.2, (a1.map eI)[(Int.toNat x3.2)]? = some [.raw (.int .i64 v7)], ([.v (.int .i64 v6), .v (.int .i64 v7)] : List Arg) = [.v (.int .i64 v6), .v (.int .i64 v7)], Meets Try.prog 102 ([.v (.int .i64 v6), .v (.int .i64 v7)] ++ []) { vals := [.p (.agg #[.int .i64 v8.1.1, .int .i64 v8.1.2]), .p (.bool v8.2)] }, (!true || List.all [.p (.agg #[.int .i64 v8.1.1, .int .i64 v8.1.2]), .p (.bool v8.2)] simpleR) = true] (by kernel_rfl) ⟨(idxO_some hv7).1, (map_get eI (idxO_some hv7).2), rfl, (wk_spec_raMake hv8), (bt rfl), trivial⟩) ?_
      replace h := bind_some' h
      obtain ⟨u9, hu9, h⟩ := h
      refine k_reg (r_go [(1, .d false [.sl none (a1.map eI)]), (5, .ov false [.sl (some 44) ((x3.1 ++ [v8.1]).map (eP eI eI))]), (12, .ov false [.sl (some 3) (v2.map eI)]), (13, .p (.int .i64 (v2.length : Int))), (14, .p (.int .i64 x3.2))] [(3, {fix := some (31, .ov false [.sl (some 44) ((x3.1 ++ [v8.1]).map (eP eI eI))])})] [List.length ((x3.1.map (eP eI eI)) : List (List C)) + List.length ((([v8.1]).map (eP eI eI)) : List (List C)) ≤ 1099511627776, ∀ row ∈ ((([v8.1]).map (eP eI eI)) : List (List C)), row.length = 2, (SV.ov false [.sl (some 44) ((x3.1.map (eP eI eI)) ++ (([v8.1]).map (eP eI eI)))] : SV) = .ov false [.sl (some 44) ((x3.1 ++ [v8.1]).map (eP eI eI))]] (by kernel_rfl) ⟨(by have hg := (guardO_some hu9); simpa using hg), (rows_len fun _ => rfl), (congrArg (fun z => SV.ov false [.sl (some 44) z]) (List.map_append ..).symm), trivial⟩) ?_
      refine b_n ?_
      refine q_n ?_
      refine k_reg (r_go [(1, .d false [.sl none (a1.map eI)]), (5, .ov false [.sl (some 44) ((x3.1 ++ [v8.1]).map (eP eI eI))]), (12, .ov false [.sl (some 3) (v2.map eI)]), (13, .p (.int .i64 (v2.length : Int))), (14, .p (.int .i64 (w64 (x3.2 + 1))))] [] [] (by kernel_rfl) trivial) ?_
      exact lq_n ((x3.1 ++ [v8.1]), (w64 (x3.2 + 1))) (Option.some.inj h).symm (wk_of (by kernel_rfl) (by kernel_rfl))
    · replace h := ite_f hc5_4 h
      refine k_exit ?_
      refine q_x ?_
      refine lq_x ?_
      refine b_x ?_
      have hyy := hy_x3 _ (Option.some.inj h).symm
      subst hyy
      have h := hk_x3
      refine q_n ?_
      exact ⟨x3.1, h, (wk_of (by kernel_rfl) (by kernel_rfl))⟩
theorem wk_spec_l1Sign {a0 : Int}  {r : Int} (h : spec_l1Sign a0 = some r) : Meets Try.prog 122 [.v (.int .i64 a0)] { vals := [.p (.int .i64 r)] } := by
  refine Meets_ofL (by kernel_rfl) Try.func122 rfl (by kernel_rfl) (l0 := [(0, .p (.int .i64 a0))]) (by kernel_rfl) ?_
  unfold spec_l1Sign at h
  refine k_sreg (r_go [(0, .p (.int .i64 a0))] [] [] (by kernel_rfl) trivial) ?_
  refine k_seq ?_
  refine k_block ?_
  refine k_sreg (r_go [(0, .p (.int .i64 a0)), (3, .p (.bool (decide (a0 > 0))))] [] [] (by kernel_rfl) trivial) ?_
  refine k_cond (b := (decide (a0 > 0))) (by kernel_rfl) (fun hc3_0 => ?_) (fun hc3_0 => ?_)
  · replace h := ite_t hc3_0 h
    refine k_sreg (r_go [(2, .p (.int .i64 1))] [] [] (by kernel_rfl) trivial) ?_
    refine k_ret ?_
    refine b_r ?_
    refine q_r ?_
    obtain rfl := Option.some.inj h
    exact e_ret (ls := [(.p (.int .i64 1), 2)]) (by kernel_rfl) rfl (by kernel_rfl) rfl
  · replace h := ite_f hc3_0 h
    refine k_sreg (r_go [(6, .p (.bool (decide (a0 < 0))))] [] [] (by kernel_rfl) trivial) ?_
    refine k_cond (b := (decide (a0 < 0))) (by kernel_rfl) (fun hc3_1 => ?_) (fun hc3_1 => ?_)
    · replace h := ite_t hc3_1 h
      refine k_sreg (r_go [(2, .p (.int .i64 (-1)))] [] [] (by kernel_rfl) trivial) ?_
      refine k_ret ?_
      refine b_r ?_
      refine q_r ?_
      obtain rfl := Option.some.inj h
      exact e_ret (ls := [(.p (.int .i64 (-1)), 2)]) (by kernel_rfl) rfl (by kernel_rfl) rfl
    · replace h := ite_f hc3_1 h
      refine k_skip ?_
      refine b_n ?_
      refine q_n ?_
      refine k_sreg (r_go [(2, .p (.int .i64 0))] [] [] (by kernel_rfl) trivial) ?_
      refine k_ret ?_
      obtain rfl := Option.some.inj h
      exact e_ret (ls := [(.p (.int .i64 0), 2)]) (by kernel_rfl) rfl (by kernel_rfl) rfl
theorem wk_spec_raCmp {a0 : (Int × Int)} {a1 : (Int × Int)}  {r : Int} (h : spec_raCmp a0 a1 = some r) : Meets Try.prog 81 [.v (.agg #[.int .i64 a0.1, .int .i64 a0.2]), .v (.agg #[.int .i64 a1.1, .int .i64 a1.2])] { vals := [.p (.int .i64 r)] } := by
  refine Meets_ofL (by kernel_rfl) Try.func81 rfl (by kernel_rfl) (l0 := [(0, .p (.agg #[.int .i64 a0.1, .int .i64 a0.2])), (1, .p (.agg #[.int .i64 a1.1, .int .i64 a1.2]))]) (by kernel_rfl) ?_
  unfold spec_raCmp at h
  refine k_sreg (r_go [(2, .box [.raw (.int .i64 a0.1), .raw (.int .i64 a0.2)]), (3, .box [.raw (.int .i64 a1.1), .raw (.int .i64 a1.2)])] [] [] (by kernel_rfl) trivial) ?_
  replace h := bind_some' h
  obtain ⟨v1, hv1, h⟩ := h
  refine k_sreg (r_go [(4, .p (.int .i64 v1))] [(11, {call := some ([.v (.int .i64 (w64 ((w64 (a0.1 * a1.2)) - (w64 (a1.1 * a0.2)))))], [.p (.int .i64 v1)], true)})] [([.v (.int .i64 (w64 ((w64 (a0.1 * a1.2)) - (w64 (a1.1 * a0.2)))))] : List Arg) = [.v (.int .i64 (w64 ((w64 (a0.1 * a1.2)) - (w64 (a1.1 * a0.2)))))], Meets Try.prog 122 ([.v (.int .i64 (w64 ((w64 (a0.1 * a1.2)) - (w64 (a1.1 * a0.2)))))] ++ []) { vals := [.p (.int .i64 v1)] }, (!true || List.all [.p (.int .i64 v1)] simpleR) = true] (by kernel_rfl) ⟨rfl, (wk_spec_l1Sign hv1), (bt rfl), trivial⟩) ?_
  refine k_ret ?_
  obtain rfl := Option.some.inj h
  exact e_ret (ls := [(.p (.int .i64 v1), 4)]) (by kernel_rfl) rfl (by kernel_rfl) rfl
theorem wk_spec_ivLess {a0 : (Int × Int)} {a1 : (Int × Int)}  {r : (Int × Int)} (h : spec_ivLess a0 a1 = some r) : Meets Try.prog 62 [.v (.agg #[.int .i64 a0.1, .int .i64 a0.2]), .v (.agg #[.int .i64 a1.1, .int .i64 a1.2])] { vals := [.p (.agg #[.int .i64 r.1, .int .i64 r.2])] } := by
  refine Meets_ofL (by kernel_rfl) Try.func62 rfl (by kernel_rfl) (l0 := [(0, .p (.agg #[.int .i64 a0.1, .int .i64 a0.2])), (1, .p (.agg #[.int .i64 a1.1, .int .i64 a1.2]))]) (by kernel_rfl) ?_
  unfold spec_ivLess at h
  refine k_sreg (r_go [(2, .box [.raw (.int .i64 a0.1), .raw (.int .i64 a0.2)]), (3, .box [.raw (.int .i64 a1.1), .raw (.int .i64 a1.2)]), (4, .box [.raw (.int .i64 0), .raw (.int .i64 0)])] [] [] (by kernel_rfl) trivial) ?_
  refine k_seq ?_
  replace h := bind_some' h
  obtain ⟨v1, hv1, h⟩ := h
  refine k_sreg (r_go [(2, .box [.raw (.int .i64 a0.1), .raw (.int .i64 a0.2)]), (3, .box [.raw (.int .i64 a1.1), .raw (.int .i64 a1.2)]), (4, .box [.raw (.int .i64 0), .raw (.int .i64 0)]), (8, .p (.bool (decide (v1 < 0))))] [(2, {call := some ([.v (.agg #[.int .i64 a0.1, .int .i64 a0.2]), .v (.agg #[.int .i64 a1.1, .int .i64 a1.2])], [.p (.int .i64 v1)], true)})] [([.v (.agg #[.int .i64 a0.1, .int .i64 a0.2]), .v (.agg #[.int .i64 a1.1, .int .i64 a1.2])] : List Arg) = [.v (.agg #[.int .i64 a0.1, .int .i64 a0.2]), .v (.agg #[.int .i64 a1.1, .int .i64 a1.2])], Meets Try.prog 81 ([.v (.agg #[.int .i64 a0.1, .int .i64 a0.2]), .v (.agg #[.int .i64 a1.1, .int .i64 a1.2])] ++ []) { vals := [.p (.int .i64 v1)] }, (!true || List.all [.p (.int .i64 v1)] simpleR) = true] (by kernel_rfl) ⟨rfl, (wk_spec_raCmp hv1), (bt rfl), trivial⟩) ?_
  refine k_cond (b := (decide (v1 < 0))) (by kernel_rfl) (fun hc2_1 => ?_) (fun hc2_1 => ?_)
  · replace h := ite_t hc2_1 h
    refine k_sreg (r_go [(4, .box [.raw (.int .i64 a0.1), .raw (.int .i64 a0.2)])] [] [] (by kernel_rfl) trivial) ?_
    refine k_ret ?_
    refine q_r ?_
    obtain rfl := Option.some.inj h
    exact e_ret (ls := [(.p (.agg #[.int .i64 a0.1, .int .i64 a0.2]), 4)]) (by kernel_rfl) rfl (by kernel_rfl) rfl
  · replace h := ite_f hc2_1 h
    refine k_skip ?_
    refine q_n ?_
    refine k_sreg (r_go [(4, .box [.raw (.int .i64 a1.1), .raw (.int .i64 a1.2)])] [] [] (by kernel_rfl) trivial) ?_
    refine k_ret ?_
    obtain rfl := Option.some.inj h
    exact e_ret (ls := [(.p (.agg #[.int .i64 a1.1, .int .i64 a1.2]), 4)]) (by kernel_rfl) rfl (by kernel_rfl) rfl
theorem wk_spec_ivGreater {a0 : (Int × Int)} {a1 : (Int × Int)}  {r : (Int × Int)} (h : spec_ivGreater a0 a1 = some r) : Meets Try.prog 63 [.v (.agg #[.int .i64 a0.1, .int .i64 a0.2]), .v (.agg #[.int .i64 a1.1, .int .i64 a1.2])] { vals := [.p (.agg #[.int .i64 r.1, .int .i64 r.2])] } := by
  refine Meets_ofL (by kernel_rfl) Try.func63 rfl (by kernel_rfl) (l0 := [(0, .p (.agg #[.int .i64 a0.1, .int .i64 a0.2])), (1, .p (.agg #[.int .i64 a1.1, .int .i64 a1.2]))]) (by kernel_rfl) ?_
  unfold spec_ivGreater at h
  refine k_sreg (r_go [(2, .box [.raw (.int .i64 a0.1), .raw (.int .i64 a0.2)]), (3, .box [.raw (.int .i64 a1.1), .raw (.int .i64 a1.2)]), (4, .box [.raw (.int .i64 0), .raw (.int .i64 0)])] [] [] (by kernel_rfl) trivial) ?_
  refine k_seq ?_
  replace h := bind_some' h
  obtain ⟨v1, hv1, h⟩ := h
  refine k_sreg (r_go [(2, .box [.raw (.int .i64 a0.1), .raw (.int .i64 a0.2)]), (3, .box [.raw (.int .i64 a1.1), .raw (.int .i64 a1.2)]), (4, .box [.raw (.int .i64 0), .raw (.int .i64 0)]), (8, .p (.bool (decide (v1 < 0))))] [(2, {call := some ([.v (.agg #[.int .i64 a0.1, .int .i64 a0.2]), .v (.agg #[.int .i64 a1.1, .int .i64 a1.2])], [.p (.int .i64 v1)], true)})] [([.v (.agg #[.int .i64 a0.1, .int .i64 a0.2]), .v (.agg #[.int .i64 a1.1, .int .i64 a1.2])] : List Arg) = [.v (.agg #[.int .i64 a0.1, .int .i64 a0.2]), .v (.agg #[.int .i64 a1.1, .int .i64 a1.2])], Meets Try.prog 81 ([.v (.agg #[.int .i64 a0.1, .int .i64 a0.2]), .v (.agg #[.int .i64 a1.1, .int .i64 a1.2])] ++ []) { vals := [.p (.int .i64 v1)] }, (!true || List.all [.p (.int .i64 v1)] simpleR) = true] (by kernel_rfl) ⟨rfl, (wk_spec_raCmp hv1), (bt rfl), trivial⟩) ?_
  refine k_cond (b := (decide (v1 < 0))) (by kernel_rfl) (fun hc2_1 => ?_) (fun hc2_1 => ?_)
  · replace h := ite_t hc2_1 h
    refine k_sreg (r_go [(4, .box [.raw (.int .i64 a1.1), .raw (.int .i64 a1.2)])] [] [] (by kernel_rfl) trivial) ?_
    refine k_ret ?_
    refine q_r ?_
    obtain rfl := Option.some.inj h
    exact e_ret (ls := [(.p (.agg #[.int .i64 a1.1, .int .i64 a1.2]), 4)]) (by kernel_rfl) rfl (by kernel_rfl) rfl
  · replace h := ite_f hc2_1 h
    refine k_skip ?_
    refine q_n ?_
    refine k_sreg (r_go [(4, .box [.raw (.int .i64 a0.1), .raw (.int .i64 a0.2)])] [] [] (by kernel_rfl) trivial) ?_
    refine k_ret ?_
    obtain rfl := Option.some.inj h
    exact e_ret (ls := [(.p (.agg #[.int .i64 a0.1, .int .i64 a0.2]), 4)]) (by kernel_rfl) rfl (by kernel_rfl) rfl
theorem wk_spec_gwBounds {a0 : (List (List Int))} {a1 : (List Int)}  {r : ((Int × Int) × (Int × Int))} (h : spec_gwBounds a0 a1 = some r) : Meets Try.prog 84 [.d false [.sl none (a0.map (eF eI))], .d false [.sl none (a1.map eI)]] { vals := [.p (.agg #[.int .i64 r.1.1, .int .i64 r.1.2]), .p (.agg #[.int .i64 r.2.1, .int .i64 r.2.2])] } := by
  refine Meets_ofL (by kernel_rfl) Try.func84 rfl (by kernel_rfl) (l0 := [(0, .d false [.sl none (a0.map (eF eI))]), (1, .d false [.sl none (a1.map eI)])]) (by kernel_rfl) ?_
  unfold spec_gwBounds at h
  refine k_sreg (r_go [(0, .d false [.sl none (a0.map (eF eI))]), (1, .d false [.sl none (a1.map eI)]), (4, .box [.raw (.int .i64 0), .raw (.int .i64 0)]), (5, .box [.raw (.int .i64 0), .raw (.int .i64 0)])] [] [] (by kernel_rfl) trivial) ?_
  replace h := bind_some' h
  obtain ⟨v1, hv1, h⟩ := h
  refine k_sreg (r_go [(4, .box [.raw (.int .i64 0), .raw (.int .i64 0)]), (5, .box [.raw (.int .i64 0), .raw (.int .i64 0)]), (6, .ov false [.sl (some 44) (v1.map (eP eI eI))])] [(2, {call := some ([.d false [.sl none (a0.map (eF eI))], .d false [.sl none (a1.map eI)]], [.ov false [.sl (some 44) (v1.map (eP eI eI))]], true)})] [([.d false [.sl none (a0.map (eF eI))], .d false [.sl none (a1.map eI)]] : List Arg) = [.d false [.sl none (a0.map (eF eI))], .d false [.sl none (a1.map eI)]], Meets Try.prog 124 ([.d false [.sl none (a0.map (eF eI))], .d false [.sl none (a1.map eI)]] ++ []) { vals := [.ov false [.sl (some 44) (v1.map (eP eI eI))]] }, (!true || List.all [.ov false [.sl (some 44) (v1.map (eP eI eI))]] simpleR) = true] (by kernel_rfl) ⟨rfl, (wk_spec_gwRatios hv1), (bt (sa_o (wnR1 (wnL_enc (wn_P wn_I wn_I)) rfl) rfl)), trivial⟩) ?_
  replace h := bind_some' h
  obtain ⟨v2, hv2, h⟩ := h
  refine k_sreg (r_draw Try_mixed 9 [(8, 7)] [(4, .box [.raw (.int .i64 0), .raw (.int .i64 0)]), (5, .box [.raw (.int .i64 0), .raw (.int .i64 0)]), (6, .ov false [.sl (some 44) (v1.map (eP eI eI))]), (7, .box [.raw (.int .i64 v2.1), .raw (.int .i64 v2.2)]), (8, .box [.raw (.int .i64 v2.1), .raw (.int .i64 v2.2)])] [(1, {row := some [.raw (.int .i64 v2.1), .raw (.int .i64 v2.2)]}), (2, {row := some [.raw (.int .i64 v2.1), .raw (.int .i64 v2.2)]}), (4, {row := some [.raw (.int .i64 v2.1), .raw (.int .i64 v2.2)]}), (5, {row := some [.raw (.int .i64 v2.1), .raw (.int .i64 v2.2)]})] [0 ≤ 0, (v1.map (eP eI eI))[(Int.toNat 0)]? = some [.raw (.int .i64 v2.1), .raw (.int .i64 v2.2)], getRow [[.sl (some 44) (v1.map (eP eI eI))]] [(0, 0), ((Int.toNat 0), 0)] = some [.raw (.int .i64 v2.1), .raw (.int .i64 v2.2)], 0 ≤ 0, (v1.map (eP eI eI))[(Int.toNat 0)]? = some [.raw (.int .i64 v2.1), .raw (.int .i64 v2.2)], getRow [[.sl (some 44) (v1.map (eP eI eI))]] [(0, 0), ((Int.toNat 0), 0)] = some [.raw (.int .i64 v2.1), .raw (.int .i64 v2.2)]] (by kernel_rfl) ⟨(idxO_some hv2).1, (map_get (eP eI eI) (idxO_some hv2).2), ((gr0 rfl).trans (gre (map_get (eP eI eI) (idxO_some hv2).2))), (idxO_some hv2).1, (map_get (eP eI eI) (idxO_some hv2).2), ((gr0 rfl).trans (gre (map_get (eP eI eI) (idxO_some hv2).2))), trivial⟩) ?_
  refine k_join (J := fun (x : (Int × Int × Int × Int)) => [(4, .box [.raw (.int .i64 0), .raw (.int .i64 0)]), (5, .box [.raw (.int .i64 0), .raw (.int .i64 0)]), (7, .box [.raw (.int .i64 x.1), .raw (.int .i64 x.2.1)]), (8, .box [.raw (.int .i64 x.2.2.1), .raw (.int .i64 x.2.2.2)])]) (K := fun x => spec_gwBounds_k1 x = some r) (fun x3 h => ?_) ?_
  · unfold spec_gwBounds_k1 at h
    refine k_sreg (r_draw Try_mixed 3 [(2, 4)] [(4, .box [.raw (.int .i64 x3.1), .raw (.int .i64 x3.2.1)]), (5, .box [.raw (.int .i64 x3.2.2.1), .raw (.int .i64 x3.2.2.2)])] [] [] (by kernel_rfl) trivial) ?_
    refine k_ret ?_
    obtain rfl := Option.some.inj h
    exact e_ret (ls := [(.p (.agg #[.int .i64 x3.1, .int .i64 x3.2.1]), 4), (.p (.agg #[.int .i64 x3.2.2.1, .int .i64 x3.2.2.2]), 5)]) (by kernel_rfl) rfl (by kernel_rfl) rfl
  · refine k_sreg (r_go [(4, .box [.raw (.int .i64 0), .raw (.int .i64 0)]), (5, .box [.raw (.int .i64 0), .raw (.int .i64 0)]), (6, .ov false [.sl (some 44) (v1.map (eP eI eI))]), (7, .box [.raw (.int .i64 v2.1), .raw (.int .i64 v2.2)]), (8, .box [.raw (.int .i64 v2.1), .raw (.int .i64 v2.2)]), (20, .ref 6 [(0, 0)] none), (21, .p (.int .i64 (v1.length : Int))), (22, .p (.int .i64 0))] [(1, {n := some v1.length})] [(v1.map (eP eI eI)).length = v1.length] (by kernel_rfl) ⟨(List.length_map ..), trivial⟩) ?_
    refine k_block ?_
    obtain ⟨y5, hl_x4, hk_x4⟩ := bind_some' h
    clear h
    refine k_loop (J := fun (x : (Int × Int × Int × Int × Int)) => [(4, .box [.raw (.int .i64 0), .raw (.int .i64 0)]), (5, .box [.raw (.int .i64 0), .raw (.int .i64 0)]), (6, .ov false [.sl (some 44) (v1.map (eP eI eI))]), (7, .box [.raw (.int .i64 x.1), .raw (.int .i64 x.2.1)]), (8, .box [.raw (.int .i64 x.2.2.1), .raw (.int .i64 x.2.2.2.1)]), (20, .ref 6 [(0, 0)] none), (21, .p (.int .i64 (v1.length : Int))), (22, .p (.int .i64 x.2.2.2.2))]) hl_x4 (wk_of (by kernel_rfl) (by kernel_rfl)) (fun x4 o_x4 h hy_x4 => ?_)
    unfold spec_gwBounds_b1 at h
    refine k_sreg (r_go [(4, .box [.raw (.int .i64 0), .raw (.int .i64 0)]), (5, .box [.raw (.int .i64 0), .raw (.int .i64 0)]), (6, .ov false [.sl (some 44) (v1.map (eP eI eI))]), (7, .box [.raw (.int .i64 x4.1), .raw (.int .i64 x4.2.1)]), (8, .box [.raw (.int .i64 x4.2.2.1), .raw (.int .i64 x4.2.2.2.1)]), (20, .ref 6 [(0, 0)] none), (21, .p (.int .i64 (v1.length : Int))), (22, .p (.int .i64 x4.2.2.2.2)), (23, .p (.bool (decide (x4.2.2.2.2 < (v1.length : Int)))))] [] [] (by kernel_rfl) trivial) ?_
    refine k_seq ?_
    refine k_cond (b := (decide (x4.2.2.2.2 < (v1.length : Int)))) (by kernel_rfl) (fun hc5_5 => ?_) (fun hc5_5 => ?_)
    · replace h := ite_t hc5_5 h
      refine k_skip ?_
      refine q_n ?_
      refine k_seq ?_
      refine k_block ?_
      replace h := bind_some' h
      obtain ⟨v7, hv7, h⟩ := h
      refine k_sreg (r_go [(4, .box [.raw (.int .i64 0), .raw (.int .i64 0)]), (5, .box [.raw (.int .i64 0), .raw (.int .i64 0)]), (6, .ov false [.sl (some 44) (v1.map (eP eI eI))]), (7, .box [.raw (.int .i64 x4.1), .raw (.int .i64 x4.2.1)]), (8, .box [.raw (.int .i64 x4.2.2.1), .raw (.int .i64 x4.2.2.2.1)]), (10, .box [.raw (.int .i64 v7.1), .raw (.int .i64 v7.2)]), (20, .ref 6 [(0, 0)] none), (21, .p (.int .i64 (v1.length : Int))), (22, .p (.int .i64 x4.2.2.2.2))] [(0, {row := some [.raw (.int .i64 v7.1), .raw (.int .i64 v7.2)]}), (1, {row := some [.raw (.int .i64 v7.1), .raw (.int .i64 v7.2)]})] [0 ≤ x4.2.2.2.2, (v1.map (eP eI eI))[(Int.toNat x4.2.2.2.2)]? = some [.raw (.int .i64 v7.1), .raw (.int .i64 v7.2)], getRow [[.sl (some 44) (v1.map (eP eI eI))]] [(0, 0), ((Int.toNat x4.2.2.2.2), 0)] = some [.raw (.int .i64 v7.1), .raw (.int .i64 v7.2)]] (by kernel_rfl) ⟨(idxO_some hv7).1, (map_get (eP eI eI) (idxO_some hv7).2), ((gr0 rfl).trans (gre (map_get (eP eI eI) (idxO_some hv7).2))), trivial⟩) ?_
      replace h := bind_some' h
      obtain ⟨v8, hv8, h⟩ := h
      refine k_sreg (r_go [(4, .box [.raw (.int .i64 0), .raw (.int .i64 0)]), (5, .box [.raw (.int .i64 0), .raw (.int .i64 0)]), (6, .ov false [.sl (some 44) (v1.map (eP eI eI))]), (7, .box [.raw (.int .i64 v8.1), .raw (.int .i64 v8.2)]), (8, .box [.raw (.int .i64 x4.2.2.1), .raw (.int .i64 x4.2.2.2.1)]), (10, .box [.raw (.int .i64 v7.1), .raw (.int .i64 v7.2)]), (20, .ref 6 [(0, 0)] none), (21, .p (.int .i64 (v1.length : Int))), (22, .p (.int .i64 x4.2.2.2.2))] [(2, {call := some ([.v (.agg #[.int .i64 x4.1, .int .i64 x4.2.1]), .v (.agg #[.int .i64 v7.1, .int .i64 v7.2])], [.p (.agg #[.int .i64 v8.1, .int .i64 v8.2])], true)})] [([.v (.agg #[.int .i64 x4.1, .int .i64 x4.2.1]), .v (.agg #[.int .i64 v7.1, .int .i64 v7.2])] : List Arg) = [.v (.agg #[.int .i64 x4.1, .int .i64 x4.2.1]), .v (.agg #[.int .i64 v7.1, .int .i64 v7.2])], Meets Try.prog 62 ([.v (.agg #[.int .i64 x4.1, .int .i64 x4.2.1]), .v (.agg #[.int .i64 v7.1, .int .i64 v7.2])] ++ []) { vals := [.p (.agg #[.int .i64 v8.1, .int .i64 v8.2])] }, (!true || List.all [.p (.agg #[.int .i64 v8.1, .int .i64 v8.2])] simpleR) = true] (by kernel_rfl) ⟨rfl, (wk_spec_ivLess hv8), (bt rfl), trivial⟩) ?_
      replace h := bind_some' h
      obtain ⟨v9, hv9, h⟩ := h
      refine k_reg (r_go [(4, .box [.raw (.int .i64 0), .raw (.int .i64 0)]), (5, .box [.raw (.int .i64 0), .raw (.int .i64 0)]), (6, .ov false [.sl (some 44) (v1.map (eP eI eI))]), (7, .box [.raw (.int .i64 v8.1), .raw (.int .i64 v8.2)]), (8, .box [.raw (.int .i64 v9.1), .raw (.int .i64 v9.2)]), (20, .ref 6 [(0, 0)] none), (21, .p (.int .i64 (v1.length : Int))), (22, .p (.int .i64 x4.2.2.2.2))] [(2, {call := some ([.v (.agg #[.int .i64 x4.2.2.1, .int .i64 x4.2.2.2.1]), .v (.agg #[.int .i64 v7.1, .int .i64 v7.2])], [.p (.agg #[.int .i64 v9.1, .int .i64 v9.2])], true)})] [([.v (.agg #[.int .i64 x4.2.2.1, .int .i64 x4.2.2.2.1]), .v (.agg #[.int .i64 v7.1, .int .i64 v7.2])] : List Arg) = [.v (.agg #[.int .i64 x4.2.2.1, .int .i64 x4.2.2.2.1]), .v (.agg #[.int .i64 v7.1, .int .i64 v7.2])], Meets Try.prog 63 ([.v (.agg #[.int .i64 x4.2.2.1, .int .i64 x4.2.2.2.1]), .v (.agg #[.int .i64 v7.1, .int .i64 v7.2])] ++ []) { vals := [.p (.agg #[.int .i64 v9.1, .int .i64 v9.2])] }, (!true || List.all [.p (.agg #[.int .i64 v9.1, .int .i64 v9.2])] simpleR) = true] (by kernel_rfl) ⟨rfl, (wk_spec_ivGreater hv9), (bt rfl), trivial⟩) ?_
      refine b_n ?_
      refine q_n ?_
      refine k_reg (r_go [(4, .box [.raw (.int .i64 0), .raw (.int .i64 0)]), (5, .box [.raw (.int .i64 0), .raw (.int .i64 0)]), (6, .ov false [.sl (some 44) (v1.map (eP eI eI))]), (7, .box [.raw (.int .i64 v8.1), .raw (.int .i64 v8.2)]), (8, .box [.raw (.int .i64 v9.1), .raw (.int .i64 v9.2)]), (20, .ref 6 [(0, 0)] none), (21, .p (.int .i64 (v1.length : Int))), (22, .p (.int .i64 (w64 (x4.2.2.2.2 + 1))))] [] [] (by kernel_rfl) trivial) ?_
      exact lq_n (v8.1, v8.2, v9.1, v9.2, (w64 (x4.2.2.2.2 + 1))) (Option.some.inj h).symm (wk_of (by kernel_rfl) (by kernel_rfl))
    · replace h := ite_f hc5_5 h
      refine k_exit ?_
      refine q_x ?_
      refine lq_x ?_
      refine b_x ?_
      have hyy := hy_x4 _ (Option.some.inj h).symm
      subst hyy
      have h := hk_x4
      refine q_n ?_
      exact ⟨(x4.1, x4.2.1, x4.2.2.1, x4.2.2.2.1), h, (wk_of (by kernel_rfl) (by kernel_rfl))⟩
theorem wk_spec_GrowthBounds {a0 : (List (List Int))} {a1 : Int}  {r : ((Int × Int) × (Int × Int) × Bool)} (h : spec_GrowthBounds a0 a1 = some r) : Meets Try.prog 46 [.d false [.sl none (a0.map (eF eI))], .v (.int .i64 a1)] { vals := [.p (.agg #[.int .i64 r.1.1, .int .i64 r.1.2]), .p (.agg #[.int .i64 r.2.1.1, .int .i64 r.2.1.2]), .p (.bool r.2.2)] } := by
  refine Meets_ofL (by kernel_rfl) Try.func46 rfl (by kernel_rfl) (l0 := [(0, .d false [.sl none (a0.map (eF eI))]), (1, .p (.int .i64 a1))]) (by kernel_rfl) ?_
  unfold spec_GrowthBounds at h
  refine k_sreg (r_go [(0, .d false [.sl none (a0.map (eF eI))]), (1, .p (.int .i64 a1)), (4, .box [.raw (.int .i64 0), .raw (.int .i64 0)]), (5, .box [.raw (.int .i64 0), .raw (.int .i64 0)])] [] [] (by kernel_rfl) trivial) ?_
  refine k_seq ?_
  replace h := bind_some' h
  obtain ⟨v1, hv1, h⟩ := h
  replace h := bind_some' h
  obtain ⟨w3, hw3, h⟩ := h
  refine k_sreg (l1 := [(0, .d false [.sl none (a0.map (eF eI))]), (1, .p (.int .i64 a1)), (4, .box [.raw (.int .i64 0), .raw (.int .i64 0)]), (5, .box [.raw (.int .i64 0), .raw (.int .i64 0)]), (18, .p (.bool w3))]) ?_ ?_
  · clear h
    rcases Bool.eq_false_or_eq_true (!v1) with ha0 | ha0
    · replace hw3 := ite_t ha0 hw3
      have hw3 := Option.some.inj hw3
      subst hw3
      exact (r_go [(0, .d false [.sl none (a0.map (eF eI))]), (1, .p (.int .i64 a1)), (4, .box [.raw (.int .i64 0), .raw (.int .i64 0)]), (5, .box [.raw (.int .i64 0), .raw (.int .i64 0)]), (18, .p (.bool true))] [(1, {call := some ([.d false [.sl none (a0.map (eF eI))]], [.p (.bool v1)], true)}), (4, {g := some true}), (5, {g := some true}), (6, {g := some true}), (7, {b := some true})] [([.d false [.sl none (a0.map (eF eI))]] : List Arg) = [.d false [.sl none (a0.map (eF eI))]], Meets Try.prog 77 ([.d false [.sl none (a0.map (eF eI))]] ++ []) { vals := [.p (.bool v1)] }, (!true || List.all [.p (.bool v1)] simpleR) = true, (!v1) = true, (!v1) = true, (!v1) = true, (!v1) = true] (by kernel_rfl) ⟨rfl, (wk_spec_grGood hv1), (bt rfl), ha0, ha0, ha0, ha0, trivial⟩)
    · replace hw3 := ite_f ha0 hw3
      replace hw3 := bind_some' hw3
      obtain ⟨v2, hv2, hw3⟩ := hw3
      have hw3 := Option.some.inj hw3
      subst hw3
      exact (r_go [(0, .d false [.sl none (a0.map (eF eI))]), (1, .p (.int .i64 a1)), (4, .box [.raw (.int .i64 0), .raw (.int .i64 0)]), (5, .box [.raw (.int .i64 0), .raw (.int .i64 0)]), (18, .p (.bool (!v2)))] [(1, {call := some ([.d false [.sl none (a0.map (eF eI))]], [.p (.bool v1)], true)}), (4, {g := some false}), (5, {g := some false, call := some ([.v (.int .i64 a1)], [.p (.bool v2)], true)}), (6, {g := some false}), (7, {b := some false})] [([.d false [.sl none (a0.map (eF eI))]] : List Arg) = [.d false [.sl none (a0.map (eF eI))]], Meets Try.prog 77 ([.d false [.sl none (a0.map (eF eI))]] ++ []) { vals := [.p (.bool v1)] }, (!true || List.all [.p (.bool v1)] simpleR) = true, (!v1) = false, (!v1) = false, ([.v (.int .i64 a1)] : List Arg) = [.v (.int .i64 a1)], Meets Try.prog 82 ([.v (.int .i64 a1)] ++ []) { vals := [.p (.bool v2)] }, (!true || List.all [.p (.bool v2)] simpleR) = true, (!v1) = false, (!v1) = false] (by kernel_rfl) ⟨rfl, (wk_spec_grGood hv1), (bt rfl), ha0, ha0, rfl, (wk_spec_gwSteps hv2), (bt rfl), ha0, ha0, trivial⟩)
  · refine k_cond (b := w3) (by kernel_rfl) (fun hc2_3 => ?_) (fun hc2_3 => ?_)
    · replace h := ite_t hc2_3 h
      refine k_sreg (r_go [(4, .box [.raw (.int .i64 0), .raw (.int .i64 0)]), (5, .box [.raw (.int .i64 0), .raw (.int .i64 0)]), (6, .p (.bool false))] [] [] (by kernel_rfl) trivial) ?_
      refine k_ret ?_
      refine q_r ?_
      obtain rfl := Option.some.inj h
      exact e_ret (ls := [(.p (.agg #[.int .i64 0, .int .i64 0]), 4), (.p (.agg #[.int .i64 0, .int .i64 0]), 5), (.p (.bool false), 6)]) (by kernel_rfl) rfl (by kernel_rfl) rfl
    · replace h := ite_f hc2_3 h
      refine k_skip ?_
      refine q_n ?_
      replace h := bind_some' h
      obtain ⟨v5, hv5, h⟩ := h
      refine k_sreg (r_go [(0, .d false [.sl none (a0.map (eF eI))]), (4, .box [.raw (.int .i64 0), .raw (.int .i64 0)]), (5, .box [.raw (.int .i64 0), .raw (.int .i64 0)]), (7, .ov false [.sl (some 3) (v5.1.map eI)]), (8, .p (.bool v5.2))] [(2, {call := some ([.d false [.sl none (a0.map (eF eI))], .v (.int .i64 a1)], [.ov false [.sl (some 3) (v5.1.map eI)], .p (.bool v5.2)], true)})] [([.d false [.sl none (a0.map (eF eI))], .v (.int .i64 a1)] : List Arg) = [.d false [.sl none (a0.map (eF eI))], .v (.int .i64 a1)], Meets Try.prog 83 ([.d false [.sl none (a0.map (eF eI))], .v (.int .i64 a1)] ++ []) { vals := [.ov false [.sl (some 3) (v5.1.map eI)], .p (.bool v5.2)] }, (!true || List.all [.ov false [.sl (some 3) (v5.1.map eI)], .p (.bool v5.2)] simpleR) = true] (by kernel_rfl) ⟨rfl, (wk_spec_gwWalks hv5), (bt (sa_o (wnR1 (wnL_enc wn_I) rfl) (sa_p rfl))), trivial⟩) ?_
      refine k_seq ?_
      refine k_sreg (r_go [(0, .d false [.sl none (a0.map (eF eI))]), (4, .box [.raw (.int .i64 0), .raw (.int .i64 0)]), (5, .box [.raw (.int .i64 0), .raw (.int .i64 0)]), (7, .ov false [.sl (some 3) (v5.1.map eI)]), (28, .p (.bool (!v5.2)))] [] [] (by kernel_rfl) trivial) ?_
      refine k_cond (b := (!v5.2)) (by kernel_rfl) (fun hc2_5 => ?_) (fun hc2_5 => ?_)
      · replace h := ite_t hc2_5 h
        refine k_sreg (r_go [(4, .box [.raw (.int .i64 0), .raw (.int .i64 0)]), (5, .box [.raw (.int .i64 0), .raw (.int .i64 0)]), (6, .p (.bool false))] [] [] (by kernel_rfl) trivial) ?_
        refine k_ret ?_
        refine q_r ?_
        obtain rfl := Option.some.inj h
        exact e_ret (ls := [(.p (.agg #[.int .i64 0, .int .i64 0]), 4), (.p (.agg #[.int .i64 0, .int .i64 0]), 5), (.p (.bool false), 6)]) (by kernel_rfl) rfl (by kernel_rfl) rfl
      · replace h := ite_f hc2_5 h
        refine k_skip ?_
        refine q_n ?_
        replace h := bind_some' h
        obtain ⟨v7, hv7, h⟩ := h
        refine k_sreg (r_go [(4, .box [.raw (.int .i64 0), .raw (.int .i64 0)]), (5, .box [.raw (.int .i64 0), .raw (.int .i64 0)]), (9, .box [.raw (.int .i64 v7.1.1), .raw (.int .i64 v7.1.2)]), (10, .box [.raw (.int .i64 v7.2.1), .raw (.int .i64 v7.2.2)])] [(2, {call := some ([.d false [.sl none (a0.map (eF eI))], .d false [.sl none (v5.1.map eI)]], [.p (.agg #[.int .i64 v7.1.1, .int .i64 v7.1.2]), .p (.agg #[.int .i64 v7.2.1, .int .i64 v7.2.2])], true)})] [([.d false [.sl none (a0.map (eF eI))], .d false [.sl none (eraL (v5.1.map eI))]] : List Arg) = [.d false [.sl none (a0.map (eF eI))], .d false [.sl none (v5.1.map eI)]], Meets Try.prog 84 ([.d false [.sl none (a0.map (eF eI))], .d false [.sl none (v5.1.map eI)]] ++ []) { vals := [.p (.agg #[.int .i64 v7.1.1, .int .i64 v7.1.2]), .p (.agg #[.int .i64 v7.2.1, .int .i64 v7.2.2])] }, (!true || List.all [.p (.agg #[.int .i64 v7.1.1, .int .i64 v7.1.2]), .p (.agg #[.int .i64 v7.2.1, .int .i64 v7.2.2])] simpleR) = true] (by kernel_rfl) ⟨(by simp only [eraL_enc (h := eI) er_I]), (wk_spec_gwBounds hv7), (bt rfl), trivial⟩) ?_
        refine k_sreg (r_draw Try_mixed 3 [(2, 4)] [(4, .box [.raw (.int .i64 v7.1.1), .raw (.int .i64 v7.1.2)]), (5, .box [.raw (.int .i64 v7.2.1), .raw (.int .i64 v7.2.2)]), (6, .p (.bool true))] [] [] (by kernel_rfl) trivial) ?_
        refine k_ret ?_
        obtain rfl := Option.some.inj h
        exact e_ret (ls := [(.p (.agg #[.int .i64 v7.1.1, .int .i64 v7.1.2]), 4), (.p (.agg #[.int .i64 v7.2.1, .int .i64 v7.2.2]), 5), (.p (.bool true), 6)]) (by kernel_rfl) rfl (by kernel_rfl) rfl
theorem wk_impl_within {a0 : Int} {a1 : Int} {a2 : Int}  {r : Bool} (h : impl_within a0 a1 a2 = some r) : Meets Try.prog 92 [.v (.int .i64 a0), .v (.int .i64 a1), .v (.int .i64 a2)] { vals := [.p (.bool r)] } := by
  refine Meets_ofL (by kernel_rfl) Try.func92 rfl (by kernel_rfl) (l0 := [(0, .p (.int .i64 a0)), (1, .p (.int .i64 a1)), (2, .p (.int .i64 a2))]) (by kernel_rfl) ?_
  unfold impl_within at h
  refine k_sreg (r_go [(0, .p (.int .i64 a0)), (1, .p (.int .i64 a1)), (2, .p (.int .i64 a2))] [] [] (by kernel_rfl) trivial) ?_
  refine k_sreg (l1 := [(6, .p (.bool ((decide (a1 ≤ a0)) && (decide (a0 ≤ a2)))))]) ?_ ?_
  · rcases Bool.eq_false_or_eq_true (decide (a1 ≤ a0)) with ha0 | ha0
    · exact RegOk.of_eq (l2 := [(6, .p (.bool ((decide (a1 ≤ a0)) && (decide (a0 ≤ a2)))))]) (r_go [(6, .p (.bool (decide (a0 ≤ a2))))] [(4, {g := some true}), (5, {g := some true}), (6, {g := some true}), (7, {b := some true})] [(decide (a1 ≤ a0)) = true, (decide (a1 ≤ a0)) = true, (decide (a1 ≤ a0)) = true, (decide (a1 ≤ a0)) = true] (by kernel_rfl) ⟨ha0, ha0, ha0, ha0, trivial⟩) (by simp [ha0])
    · exact RegOk.of_eq (l2 := [(6, .p (.bool ((decide (a1 ≤ a0)) && (decide (a0 ≤ a2)))))]) (r_go [(6, .p (.bool false))] [(4, {g := some false}), (5, {g := some false}), (6, {g := some false}), (7, {b := some false})] [(decide (a1 ≤ a0)) = false, (decide (a1 ≤ a0)) = false, (decide (a1 ≤ a0)) = false, (decide (a1 ≤ a0)) = false] (by kernel_rfl) ⟨ha0, ha0, ha0, ha0, trivial⟩) (by simp [ha0])
  · refine k_ret ?_
    obtain rfl := Option.some.inj h
    exact e_ret (ls := [(.p (.bool ((decide (a1 ≤ a0)) && (decide (a0 ≤ a2)))), 6)]) (by kernel_rfl) rfl (by kernel_rfl) rfl
theorem wk_slices_IndexFunc_LLint_Lint_d {a0 : (List (List Int))} {a1 : ((List Int) → Option Bool)} {F1 : FuncId} {K1 : List (Bool × List C)} (hp1 : ∀ x0 y, a1 x0 = some y → Meets Try.prog F1 ([.d false [.sl none (x0.map eI)]] ++ (K1.map fun (g, cs) => mkA g cs)) { vals := [.p (.bool y)] }) {r : Int} (h : slices_IndexFunc_LLint_Lint a0 a1 = some r) : Meets Try.prog 132 [.d false [.sl none (a0.map (eF eI))], .d false [.fn F1 K1]] { vals := [.p (.int .i64 r)] } := by
  refine Meets_ofL (by kernel_rfl) Try.func132 rfl (by kernel_rfl) (l0 := [(0, .d false [.sl none (a0.map (eF eI))]), (1, .d false [.fn F1 K1])]) (by kernel_rfl) ?_
  unfold slices_IndexFunc_LLint_Lint at h
  refine k_sreg (r_go [(0, .d false [.sl none (a0.map (eF eI))]), (1, .d false [.fn F1 K1])] [] [] (by kernel_rfl) trivial) ?_
  refine k_join (J := fun (x : Unit) => []) (K := fun x => slices_IndexFunc_LLint_Lint_k1 x = some r) (fun x1 h => ?_) ?_
  · unfold slices_IndexFunc_LLint_Lint_k1 at h
    refine k_sreg (r_go [(4, .p (.int .i64 (-1)))] [] [] (by kernel_rfl) trivial) ?_
    refine k_ret ?_
    obtain rfl := Option.some.inj h
    exact e_ret (ls := [(.p (.int .i64 (-1)), 4)]) (by kernel_rfl) rfl (by kernel_rfl) rfl
  · refine k_sreg (r_go [(0, .d false [.sl none (a0.map (eF eI))]), (1, .d false [.fn F1 K1]), (7, .p (.int .i64 (a0.length : Int))), (8, .p (.int .i64 0))] [(1, {n := some a0.length})] [(a0.map (eF eI)).length = a0.length] (by kernel_rfl) ⟨(List.length_map ..), trivial⟩) ?_
    refine k_block ?_
    obtain ⟨y3, hl_x2, hk_x2⟩ := bind_some' h
    clear h
    refine k_loop (J := fun (x : Int) => [(0, .d false [.sl none (a0.map (eF eI))]), (1, .d false [.fn F1 K1]), (7, .p (.int .i64 (a0.length : Int))), (8, .p (.int .i64 x))]) hl_x2 (wk_of (by kernel_rfl) (by kernel_rfl)) (fun x2 o_x2 h hy_x2 => ?_)
    unfold slices_IndexFunc_LLint_Lint_b1 at h
    refine k_sreg (r_go [(0, .d false [.sl none (a0.map (eF eI))]), (1, .d false [.fn F1 K1]), (7, .p (.int .i64 (a0.length : Int))), (8, .p (.int .i64 x2)), (9, .p (.bool (decide (x2 < (a0.length : Int)))))] [] [] (by kernel_rfl) trivial) ?_
    refine k_seq ?_
    refine k_cond (b := (decide (x2 < (a0.length : Int)))) (by kernel_rfl) (fun hc5_3 => ?_) (fun hc5_3 => ?_)
    · replace h := ite_t hc5_3 h
      refine k_skip ?_
      refine q_n ?_
      refine k_seq ?_
      refine k_block ?_
      refine k_sreg (r_go [(0, .d false [.sl none (a0.map (eF eI))]), (1, .d false [.fn F1 K1]), (5, .p (.int .i64 x2)), (7, .p (.int .i64 (a0.length : Int))), (8, .p (.int .i64 x2))] [] [] (by kernel_rfl) trivial) ?_
      replace h := bind_some' h
      obtain ⟨v5, hv5, h⟩ := h
      replace h := bind_some' h
      obtain ⟨v6, hv6, h⟩ := h
      refine k_sreg (r_go [(0, .d false [.sl none (a0.map (eF eI))]), (1, .d false [.fn F1 K1]), (5, .p (.int .i64 x2)), (7, .p (.int .i64 (a0.length : Int))), (8, .p (.int .i64 x2)), (16, .p (.bool v6))] [(3, {row := some [.sl none (v5.map eI)]}), (5, {call := some ([.d false [.sl none (v5.map eI)]], [.p (.bool v6)], true)})] [0 ≤ x2, (a0.map (eF eI))[(Int.toNat x2)]? = some [.sl none (v5.map eI)], ([.d false [.sl none (v5.map eI)]] : List Arg) = [.d false [.sl none (v5.map eI)]], Meets Try.prog F1 ([.d false [.sl none (v5.map eI)]] ++ (K1.map fun (g, cs) => mkA g cs)) { vals := [.p (.bool v6)] }, List.all [.p (.bool v6)] simpleR = true] (by kernel_rfl) ⟨(idxO_some hv5).1, (map_get (eF eI) (idxO_some hv5).2), rfl, (hp1 _ _ hv6), rfl, trivial⟩) ?_
      refine k_cond (b := v6) (by kernel_rfl) (fun hc6_6 => ?_) (fun hc6_6 => ?_)
      · replace h := ite_t hc6_6 h
        refine k_sreg (r_go [(4, .p (.int .i64 x2))] [] [] (by kernel_rfl) trivial) ?_
        refine k_ret ?_
        refine b_r ?_
        refine q_r ?_
        refine lq_r ?_
        refine b_r ?_
        refine q_r ?_
        have hyy := hy_x2 _ (Option.some.inj h).symm
        subst hyy
        have h := hk_x2
        dsimp only [Sum.elim] at h
        obtain rfl := Option.some.inj h
        exact e_ret (ls := [(.p (.int .i64 x2), 4)]) (by kernel_rfl) rfl (by kernel_rfl) rfl
      · replace h := ite_f hc6_6 h
        refine k_skip ?_
        refine b_n ?_
        refine q_n ?_
        refine k_reg (r_go [(0, .d false [.sl none (a0.map (eF eI))]), (1, .d false [.fn F1 K1]), (7, .p (.int .i64 (a0.length : Int))), (8, .p (.int .i64 (w64 (x2 + 1))))] [] [] (by kernel_rfl) trivial) ?_
        exact lq_n (w64 (x2 + 1)) (Option.some.inj h).symm (wk_of (by kernel_rfl) (by kernel_rfl))
    · replace h := ite_f hc5_3 h
      refine k_exit ?_
      refine q_x ?_
      refine lq_x ?_
      refine b_x ?_
      have hyy := hy_x2 _ (Option.some.inj h).symm
      subst hyy
      have h := hk_x2
      dsimp only [Sum.elim] at h
      refine q_n ?_
      exact ⟨(), h, (wk_of (by kernel_rfl) (by kernel_rfl))⟩
theorem wk_slices_ContainsFunc_LLint_Lint_d {a0 : (List (List Int))} {a1 : ((List Int) → Option Bool)} {F1 : FuncId} {K1 : List (Bool × List C)} (hp1 : ∀ x0 y, a1 x0 = some y → Meets Try.prog F1 ([.d false [.sl none (x0.map eI)]] ++ (K1.map fun (g, cs) => mkA g cs)) { vals := [.p (.bool y)] }) {r : Bool} (h : slices_ContainsFunc_LLint_Lint a0 a1 = some r) : Meets Try.prog 117 [.d false [.sl none (a0.map (eF eI))], .d false [.fn F1 K1]] { vals := [.p (.bool r)] } := by
  refine Meets_ofL (by kernel_rfl) Try.func117 rfl (by kernel_rfl) (l0 := [(0, .d false [.sl none (a0.map (eF eI))]), (1, .d false [.fn F1 K1])]) (by kernel_rfl) ?_
  unfold slices_ContainsFunc_LLint_Lint at h
  refine k_sreg (r_go [(0, .d false [.sl none (a0.map (eF eI))]), (1, .d false [.fn F1 K1])] [] [] (by kernel_rfl) trivial) ?_
  replace h := bind_some' h
  obtain ⟨v1, hv1, h⟩ := h
  refine k_sreg (r_go [(4, .p (.bool (decide (v1 ≥ 0))))] [(2, {call := some ([.d false [.sl none (a0.map (eF eI))], .d false [.fn F1 K1]], [.p (.int .i64 v1)], true)})] [([.d false [.sl none (a0.map (eF eI))], .d false [.fn F1 K1]] : List Arg) = [.d false [.sl none (a0.map (eF eI))], .d false [.fn F1 K1]], Meets Try.prog 132 ([.d false [.sl none (a0.map (eF eI))], .d false [.fn F1 K1]] ++ []) { vals := [.p (.int .i64 v1)] }, (!true || List.all [.p (.int .i64 v1)] simpleR) = true] (by kernel_rfl) ⟨rfl, (wk_slices_IndexFunc_LLint_Lint_d hp1 hv1), (bt rfl), trivial⟩) ?_
  refine k_ret ?_
  obtain rfl := Option.some.inj h
  exact e_ret (ls := [(.p (.bool (decide (v1 ≥ 0))), 4)]) (by kernel_rfl) rfl (by kernel_rfl) rfl
theorem wk_slices_IndexFunc_Lint_int_v {a0 : (List Int)} {a1 : (Int → Option Bool)} {F1 : FuncId} (hp1 : ∀ x0 y, a1 x0 = some y → Meets Try.prog F1 ([.v (.int .i64 x0)] ++ []) { vals := [.p (.bool y)] }) {r : Int} (h : slices_IndexFunc_Lint_int a0 a1 = some r) : Meets Try.prog 133 [.d false [.sl none (a0.map eI)], .v (.func (.func F1) #[] #[])] { vals := [.p (.int .i64 r)] } := by
  refine Meets_ofL (by kernel_rfl) Try.func133 rfl (by kernel_rfl) (l0 := [(0, .d false [.sl none (a0.map eI)]), (1, .p (.func (.func F1) #[] #[]))]) (by kernel_rfl) ?_
  unfold slices_IndexFunc_Lint_int at h
  refine k_sreg (r_go [(0, .d false [.sl none (a0.map eI)]), (1, .p (.func (.func F1) #[] #[]))] [] [] (by kernel_rfl) trivial) ?_
  refine k_join (J := fun (x : Unit) => []) (K := fun x => slices_IndexFunc_Lint_int_k1 x = some r) (fun x1 h => ?_) ?_
  · unfold slices_IndexFunc_Lint_int_k1 at h
    refine k_sreg (r_go [(4, .p (.int .i64 (-1)))] [] [] (by kernel_rfl) trivial) ?_
    refine k_ret ?_
    obtain rfl := Option.some.inj h
    exact e_ret (ls := [(.p (.int .i64 (-1)), 4)]) (by kernel_rfl) rfl (by kernel_rfl) rfl
  · refine k_sreg (r_go [(0, .d false [.sl none (a0.map eI)]), (1, .p (.func (.func F1) #[] #[])), (7, .p (.int .i64 (a0.length : Int))), (8, .p (.int .i64 0))] [(1, {n := some a0.length})] [(a0.map eI).length = a0.length] (by kernel_rfl) ⟨(List.length_map ..), trivial⟩) ?_
    refine k_block ?_
    obtain ⟨y3, hl_x2, hk_x2⟩ := bind_some' h
    clear h
    refine k_loop (J := fun (x : Int) => [(0, .d false [.sl none (a0.map eI)]), (1, .p (.func (.func F1) #[] #[])), (7, .p (.int .i64 (a0.length : Int))), (8, .p (.int .i64 x))]) hl_x2 (wk_of (by kernel_rfl) (by kernel_rfl)) (fun x2 o_x2 h hy_x2 => ?_)
    unfold slices_IndexFunc_Lint_int_b1 at h
    refine k_sreg (r_go [(0, .d false [.sl none (a0.map eI)]), (1, .p (.func (.func F1) #[] #[])), (7, .p (.int .i64 (a0.length : Int))), (8, .p (.int .i64 x2)), (9, .p (.bool (decide (x2 < (a0.length : Int)))))] [] [] (by kernel_rfl) trivial) ?_
    refine k_seq ?_
    refine k_cond (b := (decide (x2 < (a0.length : Int)))) (by kernel_rfl) (fun hc5_3 => ?_) (fun hc5_3 => ?_)
    · replace h := ite_t hc5_3 h
      refine k_skip ?_
      refine q_n ?_
      refine k_seq ?_
      refine k_block ?_
      refine k_sreg (r_go [(0, .d false [.sl none (a0.map eI)]), (1, .p (.func (.func F1) #[] #[])), (5, .p (.int .i64 x2)), (7, .p (.int .i64 (a0.length : Int))), (8, .p (.int .i64 x2))] [] [] (by kernel_rfl) trivial) ?_
      replace h := bind_some' h
      obtain ⟨v5, hv5, h⟩ := h
      replace h := bind_some' h
      obtain ⟨v6, hv6, h⟩ := h
      refine k_sreg (r_go [(0, .d false [.sl none (a0.map eI)]), (1, .p (.func (.func F1) #[] #[])), (5, .p (.int .i64 x2)), (7, .p (.int .i64 (a0.length : Int))), (8, .p (.int .i64 x2)), (16, .p (.bool v6))] [(3, {row := some [.raw (.int .i64 v5)]}), (5, {call := some ([.v (.int .i64 v5)], [.p (.bool v6)], true)})] [0 ≤ x2, (a0.map eI)[(Int.toNat x2)]? = some [.raw (.int .i64 v5)], ([.v (.int .i64 v5)] : List Arg) = [.v (.int .i64 v5)], Meets Try.prog F1 ([.v (.int .i64 v5)] ++ []) { vals := [.p (.bool v6)] }, List.all [.p (.bool v6)] simpleR = true] (by kernel_rfl) ⟨(idxO_some hv5).1, (map_get eI (idxO_some hv5).2), rfl, (hp1 _ _ hv6), rfl, trivial⟩) ?_
      refine k_cond (b := v6) (by kernel_rfl) (fun hc6_6 => ?_) (fun hc6_6 => ?_)
      · replace h := ite_t hc6_6 h
        refine k_sreg (r_go [(4, .p (.int .i64 x2))] [] [] (by kernel_rfl) trivial) ?_
        refine k_ret ?_
        refine b_r ?_
        refine q_r ?_
        refine lq_r ?_
        refine b_r ?_
        refine q_r ?_
        have hyy := hy_x2 _ (Option.some.inj h).symm
        subst hyy
        have h := hk_x2
        dsimp only [Sum.elim] at h
        obtain rfl := Option.some.inj h
        exact e_ret (ls := [(.p (.int .i64 x2), 4)]) (by kernel_rfl) rfl (by kernel_rfl) rfl
      · replace h := ite_f hc6_6 h
        refine k_skip ?_
        refine b_n ?_
        refine q_n ?_
        refine k_reg (r_go [(0, .d false [.sl none (a0.map eI)]), (1, .p (.func (.func F1) #[] #[])), (7, .p (.int .i64 (a0.length : Int))), (8, .p (.int .i64 (w64 (x2 + 1))))] [] [] (by kernel_rfl) trivial) ?_
        exact lq_n (w64 (x2 + 1)) (Option.some.inj h).symm (wk_of (by kernel_rfl) (by kernel_rfl))
    · replace h := ite_f hc5_3 h
      refine k_exit ?_
      refine q_x ?_
      refine lq_x ?_
      refine b_x ?_
      have hyy := hy_x2 _ (Option.some.inj h).symm
      subst hyy
      have h := hk_x2
      dsimp only [Sum.elim] at h
      refine q_n ?_
      exact ⟨(), h, (wk_of (by kernel_rfl) (by kernel_rfl))⟩
theorem wk_slices_ContainsFunc_Lint_int_v {a0 : (List Int)} {a1 : (Int → Option Bool)} {F1 : FuncId} (hp1 : ∀ x0 y, a1 x0 = some y → Meets Try.prog F1 ([.v (.int .i64 x0)] ++ []) { vals := [.p (.bool y)] }) {r : Bool} (h : slices_ContainsFunc_Lint_int a0 a1 = some r) : Meets Try.prog 119 [.d false [.sl none (a0.map eI)], .v (.func (.func F1) #[] #[])] { vals := [.p (.bool r)] } := by
  refine Meets_ofL (by kernel_rfl) Try.func119 rfl (by kernel_rfl) (l0 := [(0, .d false [.sl none (a0.map eI)]), (1, .p (.func (.func F1) #[] #[]))]) (by kernel_rfl) ?_
  unfold slices_ContainsFunc_Lint_int at h
  refine k_sreg (r_go [(0, .d false [.sl none (a0.map eI)]), (1, .p (.func (.func F1) #[] #[]))] [] [] (by kernel_rfl) trivial) ?_
  replace h := bind_some' h
  obtain ⟨v1, hv1, h⟩ := h
  refine k_sreg (r_go [(4, .p (.bool (decide (v1 ≥ 0))))] [(2, {call := some ([.d false [.sl none (a0.map eI)], .v (.func (.func F1) #[] #[])], [.p (.int .i64 v1)], true)})] [([.d false [.sl none (a0.map eI)], .v (.func (.func F1) #[] #[])] : List Arg) = [.d false [.sl none (a0.map eI)], .v (.func (.func F1) #[] #[])], Meets Try.prog 133 ([.d false [.sl none (a0.map eI)], .v (.func (.func F1) #[] #[])] ++ []) { vals := [.p (.int .i64 v1)] }, (!true || List.all [.p (.int .i64 v1)] simpleR) = true] (by kernel_rfl) ⟨rfl, (wk_slices_IndexFunc_Lint_int_v hp1 hv1), (bt rfl), trivial⟩) ?_
  refine k_ret ?_
  obtain rfl := Option.some.inj h
  exact e_ret (ls := [(.p (.bool (decide (v1 ≥ 0))), 4)]) (by kernel_rfl) rfl (by kernel_rfl) rfl
theorem wk_impl_isGraph_1_1 {a0 : Int}  {r : Bool} (h : impl_isGraph_1_1 a0 = some r) : Meets Try.prog 120 [.v (.int .i64 a0)] { vals := [.p (.bool r)] } := by
  refine Meets_ofL (by kernel_rfl) Try.func120 rfl (by kernel_rfl) (l0 := [(0, .p (.int .i64 a0))]) (by kernel_rfl) ?_
  unfold impl_isGraph_1_1 at h
  refine k_sreg (r_go [(0, .p (.int .i64 a0))] [] [] (by kernel_rfl) trivial) ?_
  replace h := bind_some' h
  obtain ⟨v1, hv1, h⟩ := h
  refine k_sreg (r_go [(2, .p (.bool (!v1)))] [(1, {call := some ([.v (.int .i64 a0), .v (.int .i64 0), .v (.int .i64 9)], [.p (.bool v1)], true)})] [([.v (.int .i64 a0), .v (.int .i64 0), .v (.int .i64 9)] : List Arg) = [.v (.int .i64 a0), .v (.int .i64 0), .v (.int .i64 9)], Meets Try.prog 92 ([.v (.int .i64 a0), .v (.int .i64 0), .v (.int .i64 9)] ++ []) { vals := [.p (.bool v1)] }, (!true || List.all [.p (.bool v1)] simpleR) = true] (by kernel_rfl) ⟨rfl, (wk_impl_within hv1), (bt rfl), trivial⟩) ?_
  refine k_ret ?_
  obtain rfl := Option.some.inj h
  exact e_ret (ls := [(.p (.bool (!v1)), 2)]) (by kernel_rfl) rfl (by kernel_rfl) rfl
theorem wk_impl_isGraph_1 {a0 : (List Int)} {c0 : (List (List Int))}  {r : Bool} (h : impl_isGraph_1 a0 c0 = some r) : Meets Try.prog 118 [.d false [.sl none (a0.map eI)], .d false [.pt [.sl none (c0.map (eF eI))]]] { vals := [.p (.bool r)] } := by
  refine Meets_ofL (by kernel_rfl) Try.func118 rfl (by kernel_rfl) (l0 := [(0, .d false [.sl none (a0.map eI)]), (1, .d false [.pt [.sl none (c0.map (eF eI))]])]) (by kernel_rfl) ?_
  unfold impl_isGraph_1 at h
  refine k_sreg (r_go [(0, .d false [.sl none (a0.map eI)]), (1, .d false [.pt [.sl none (c0.map (eF eI))]])] [] [] (by kernel_rfl) trivial) ?_
  replace h := bind_some' h
  obtain ⟨w2, hw2, h⟩ := h
  refine k_sreg (l1 := [(3, .p (.bool w2))]) ?_ ?_
  · clear h
    rcases Bool.eq_false_or_eq_true ((a0.length : Int) != (c0.length : Int)) with ha0 | ha0
    · replace hw2 := ite_t ha0 hw2
      have hw2 := Option.some.inj hw2
      subst hw2
      exact (r_go [(3, .p (.bool true))] [(1, {n := some a0.length}), (3, {n := some c0.length}), (6, {g := some true}), (7, {g := some true}), (8, {b := some true})] [(a0.map eI).length = a0.length, (c0.map (eF eI)).length = c0.length, ((a0.length : Int) != (c0.length : Int)) = true, ((a0.length : Int) != (c0.length : Int)) = true, ((a0.length : Int) != (c0.length : Int)) = true] (by kernel_rfl) ⟨(List.length_map ..), (List.length_map ..), ha0, ha0, ha0, trivial⟩)
    · replace hw2 := ite_f ha0 hw2
      replace hw2 := bind_some' hw2
      obtain ⟨v1, hv1, hw2⟩ := hw2
      have hw2 := Option.some.inj hw2
      subst hw2
      exact (r_go [(3, .p (.bool v1))] [(1, {n := some a0.length}), (3, {n := some c0.length}), (6, {g := some false}), (7, {g := some false, call := some ([.d false [.sl none (a0.map eI)], .v (.func (.func 120) #[] #[])], [.p (.bool v1)], true)}), (8, {b := some false})] [(a0.map eI).length = a0.length, (c0.map (eF eI)).length = c0.length, ((a0.length : Int) != (c0.length : Int)) = false, ((a0.length : Int) != (c0.length : Int)) = false, ([.d false [.sl none (a0.map eI)], .v (.func (.func 120) #[] #[])] : List Arg) = [.d false [.sl none (a0.map eI)], .v (.func (.func 120) #[] #[])], Meets Try.prog 119 ([.d false [.sl none (a0.map eI)], .v (.func (.func 120) #[] #[])] ++ []) { vals := [.p (.bool v1)] }, (!true || List.all [.p (.bool v1)] simpleR) = true, ((a0.length : Int) != (c0.length : Int)) = false] (by kernel_rfl) ⟨(List.length_map ..), (List.length_map ..), ha0, ha0, rfl, (wk_slices_ContainsFunc_Lint_int_v (fun x0 y hy => wk_impl_isGraph_1_1 hy) hv1), (bt rfl), ha0, trivial⟩)
  · refine k_ret ?_
    obtain rfl := Option.some.inj h
    exact e_ret (ls := [(.p (.bool w2), 3)]) (by kernel_rfl) rfl (by kernel_rfl) rfl
theorem wk_impl_isGraph {a0 : (List (List Int))}  {r : Bool} (h : impl_isGraph a0 = some r) : Meets Try.prog 79 [.d false [.sl none (a0.map (eF eI))]] { vals := [.p (.bool r)] } := by
  refine Meets_ofL (by kernel_rfl) Try.func79 rfl (by kernel_rfl) (l0 := [(0, .d false [.sl none (a0.map (eF eI))])]) (by kernel_rfl) ?_
  unfold impl_isGraph at h
  refine k_sreg (r_go [(1, .box [.sl none (a0.map (eF eI))])] [] [] (by kernel_rfl) trivial) ?_
  refine k_frz 1 [.sl none (a0.map (eF eI))] [.sl none (a0.map (eF eI))] [(1, .d false [.pt [.sl none (a0.map (eF eI))]])] (by kernel_rfl) (erc_sl (eraL_enc (era_F er_I)) rfl) (by kernel_rfl) (by kernel_rfl) ?_
  replace h := bind_some' h
  obtain ⟨v1, hv1, h⟩ := h
  replace h := bind_some' h
  obtain ⟨w3, hw3, h⟩ := h
  refine k_sreg (l1 := [(2, .p (.bool w3))]) ?_ ?_
  · clear h
    rcases Bool.eq_false_or_eq_true v1 with ha0 | ha0
    · replace hw3 := ite_t ha0 hw3
      replace hw3 := bind_some' hw3
      obtain ⟨v2, hv2, hw3⟩ := hw3
      have hw3 := Option.some.inj hw3
      subst hw3
      exact (r_go [(2, .p (.bool (!v2)))] [(1, {n := some a0.length}), (2, {call := some ([.v (.int .i64 (a0.length : Int)), .v (.int .i64 1), .v (.int .i64 8)], [.p (.bool v1)], true)}), (4, {g := some true}), (5, {g := some true}), (6, {g := some true, call := some ([.d false [.sl none (a0.map (eF eI))], .d false [.fn 118 [(false, [.pt [.sl none (a0.map (eF eI))]])]]], [.p (.bool v2)], true)}), (7, {g := some true}), (8, {b := some true})] [(a0.map (eF eI)).length = a0.length, ([.v (.int .i64 (a0.length : Int)), .v (.int .i64 1), .v (.int .i64 8)] : List Arg) = [.v (.int .i64 (a0.length : Int)), .v (.int .i64 1), .v (.int .i64 8)], Meets Try.prog 92 ([.v (.int .i64 (a0.length : Int)), .v (.int .i64 1), .v (.int .i64 8)] ++ []) { vals := [.p (.bool v1)] }, (!true || List.all [.p (.bool v1)] simpleR) = true, v1 = true, v1 = true, v1 = true, ([.d false [.sl none (a0.map (eF eI))], .d false [.fn 118 [(false, [.pt [.sl none (a0.map (eF eI))]])]]] : List Arg) = [.d false [.sl none (a0.map (eF eI))], .d false [.fn 118 [(false, [.pt [.sl none (a0.map (eF eI))]])]]], Meets Try.prog 117 ([.d false [.sl none (a0.map (eF eI))], .d false [.fn 118 [(false, [.pt [.sl none (a0.map (eF eI))]])]]] ++ []) { vals := [.p (.bool v2)] }, (!true || List.all [.p (.bool v2)] simpleR) = true, v1 = true, v1 = true] (by kernel_rfl) ⟨(List.length_map ..), rfl, (wk_impl_within hv1), (bt rfl), ha0, ha0, ha0, rfl, (wk_slices_ContainsFunc_LLint_Lint_d (fun x0 y hy => wk_impl_isGraph_1 hy) hv2), (bt rfl), ha0, ha0, trivial⟩)
    · replace hw3 := ite_f ha0 hw3
      have hw3 := Option.some.inj hw3
      subst hw3
      exact (r_go [(2, .p (.bool false))] [(1, {n := some a0.length}), (2, {call := some ([.v (.int .i64 (a0.length : Int)), .v (.int .i64 1), .v (.int .i64 8)], [.p (.bool v1)], true)}), (4, {g := some false}), (5, {g := some false}), (6, {g := some false}), (7, {g := some false}), (8, {b := some false})] [(a0.map (eF eI)).length = a0.length, ([.v (.int .i64 (a0.length : Int)), .v (.int .i64 1), .v (.int .i64 8)] : List Arg) = [.v (.int .i64 (a0.length : Int)), .v (.int .i64 1), .v (.int .i64 8)], Meets Try.prog 92 ([.v (.int .i64 (a0.length : Int)), .v (.int .i64 1), .v (.int .i64 8)] ++ []) { vals := [.p (.bool v1)] }, (!true || List.all [.p (.bool v1)] simpleR) = true, v1 = false, v1 = false, v1 = false, v1 = false, v1 = false] (by kernel_rfl) ⟨(List.length_map ..), rfl, (wk_impl_within hv1), (bt rfl), ha0, ha0, ha0, ha0, ha0, trivial⟩)
  · refine k_ret ?_
    obtain rfl := Option.some.inj h
    exact e_ret (ls := [(.p (.bool w3), 2)]) (by kernel_rfl) rfl (by kernel_rfl) rfl
theorem wk_math_bits_Mul64 {a0 : Int} {a1 : Int}  {r : (Int × Int)} (h : math_bits_Mul64 a0 a1 = some r) : Meets Try.prog 138 [.v (.int .u64 a0), .v (.int .u64 a1)] { vals := [.p (.int .u64 r.1), .p (.int .u64 r.2)] } := by
  refine Meets_ofL (by kernel_rfl) Try.func138 rfl (by kernel_rfl) (l0 := [(0, .p (.int .u64 a0)), (1, .p (.int .u64 a1))]) (by kernel_rfl) ?_
  unfold math_bits_Mul64 at h
  refine k_sreg (r_go [(0, .p (.int .u64 a0)), (1, .p (.int .u64 a1))] [] [] (by kernel_rfl) trivial) ?_
  refine k_sreg (r_go [(0, .p (.int .u64 a0)), (1, .p (.int .u64 a1)), (6, .p (.int .u64 (iand .u64 a0 4294967295)))] [(1, {pv := some (.int .u64 (iand .u64 a0 4294967295))})] [PureAt Try.prog (.binOp .and 136 (.tmp 14) (.const (.int .u64 4294967295)) 136) [.int .u64 a0, .int .u64 4294967295] (.int .u64 (iand .u64 a0 4294967295))] (by kernel_rfl) ⟨(pure_and), trivial⟩) ?_
  refine k_sreg (r_go [(0, .p (.int .u64 a0)), (1, .p (.int .u64 a1)), (6, .p (.int .u64 (iand .u64 a0 4294967295))), (7, .p (.int .u64 (ishr .u64 a0 32)))] [(1, {pv := some (.int .u64 (ishr .u64 a0 32))})] [PureAt Try.prog (.binOp .shr 136 (.tmp 16) (.const (.int .u64 32)) 130) [.int .u64 a0, .int .u64 32] (.int .u64 (ishr .u64 a0 32))] (by kernel_rfl) ⟨(pure_shr (by decide)), trivial⟩) ?_
  refine k_sreg (r_go [(0, .p (.int .u64 a0)), (1, .p (.int .u64 a1)), (6, .p (.int .u64 (iand .u64 a0 4294967295))), (7, .p (.int .u64 (ishr .u64 a0 32))), (8, .p (.int .u64 (iand .u64 a1 4294967295)))] [(1, {pv := some (.int .u64 (iand .u64 a1 4294967295))})] [PureAt Try.prog (.binOp .and 136 (.tmp 18) (.const (.int .u64 4294967295)) 136) [.int .u64 a1, .int .u64 4294967295] (.int .u64 (iand .u64 a1 4294967295))] (by kernel_rfl) ⟨(pure_and), trivial⟩) ?_
  refine k_sreg (r_go [(0, .p (.int .u64 a0)), (1, .p (.int .u64 a1)), (6, .p (.int .u64 (iand .u64 a0 4294967295))), (7, .p (.int .u64 (ishr .u64 a0 32))), (8, .p (.int .u64 (iand .u64 a1 4294967295))), (9, .p (.int .u64 (ishr .u64 a1 32)))] [(1, {pv := some (.int .u64 (ishr .u64 a1 32))})] [PureAt Try.prog (.binOp .shr 136 (.tmp 20) (.const (.int .u64 32)) 130) [.int .u64 a1, .int .u64 32] (.int .u64 (ishr .u64 a1 32))] (by kernel_rfl) ⟨(pure_shr (by decide)), trivial⟩) ?_
  refine k_sreg (r_go [(0, .p (.int .u64 a0)), (1, .p (.int .u64 a1)), (6, .p (.int .u64 (iand .u64 a0 4294967295))), (7, .p (.int .u64 (ishr .u64 a0 32))), (8, .p (.int .u64 (iand .u64 a1 4294967295))), (9, .p (.int .u64 (ishr .u64 a1 32))), (10, .p (.int .u64 (IntKind.wrap .u64 ((iand .u64 a0 4294967295) * (iand .u64 a1 4294967295)))))] [] [] (by kernel_rfl) trivial) ?_
  refine k_sreg (r_go [(0, .p (.int .u64 a0)), (1, .p (.int .u64 a1)), (6, .p (.int .u64 (iand .u64 a0 4294967295))), (7, .p (.int .u64 (ishr .u64 a0 32))), (9, .p (.int .u64 (ishr .u64 a1 32))), (11, .p (.int .u64 (IntKind.wrap .u64 ((IntKind.wrap .u64 ((ishr .u64 a0 32) * (iand .u64 a1 4294967295))) + (ishr .u64 (IntKind.wrap .u64 ((iand .u64 a0 4294967295) * (iand .u64 a1 4294967295))) 32)))))] [(4, {pv := some (.int .u64 (ishr .u64 (IntKind.wrap .u64 ((iand .u64 a0 4294967295) * (iand .u64 a1 4294967295))) 32))})] [PureAt Try.prog (.binOp .shr 136 (.tmp 28) (.const (.int .u64 32)) 130) [.int .u64 (IntKind.wrap .u64 ((iand .u64 a0 4294967295) * (iand .u64 a1 4294967295))), .int .u64 32] (.int .u64 (ishr .u64 (IntKind.wrap .u64 ((iand .u64 a0 4294967295) * (iand .u64 a1 4294967295))) 32))] (by kernel_rfl) ⟨(pure_shr (by decide)), trivial⟩) ?_
  refine k_sreg (r_go [(0, .p (.int .u64 a0)), (1, .p (.int .u64 a1)), (6, .p (.int .u64 (iand .u64 a0 4294967295))), (7, .p (.int .u64 (ishr .u64 a0 32))), (9, .p (.int .u64 (ishr .u64 a1 32))), (11, .p (.int .u64 (IntKind.wrap .u64 ((IntKind.wrap .u64 ((ishr .u64 a0 32) * (iand .u64 a1 4294967295))) + (ishr .u64 (IntKind.wrap .u64 ((iand .u64 a0 4294967295) * (iand .u64 a1 4294967295))) 32))))), (12, .p (.int .u64 (iand .u64 (IntKind.wrap .u64 ((IntKind.wrap .u64 ((ishr .u64 a0 32) * (iand .u64 a1 4294967295))) + (ishr .u64 (IntKind.wrap .u64 ((iand .u64 a0 4294967295) * (iand .u64 a1 4294967295))) 32))) 4294967295)))] [(1, {pv := some (.int .u64 (iand .u64 (IntKind.wrap .u64 ((IntKind.wrap .u64 ((ishr .u64 a0 32) * (iand .u64 a1 4294967295))) + (ishr .u64 (IntKind.wrap .u64 ((iand .u64 a0 4294967295) * (iand .u64 a1 4294967295))) 32))) 4294967295))})] [PureAt Try.prog (.binOp .and 136 (.tmp 31) (.const (.int .u64 4294967295)) 136) [.int .u64 (IntKind.wrap .u64 ((IntKind.wrap .u64 ((ishr .u64 a0 32) * (iand .u64 a1 4294967295))) + (ishr .u64 (IntKind.wrap .u64 ((iand .u64 a0 4294967295) * (iand .u64 a1 4294967295))) 32))), .int .u64 4294967295] (.int .u64 (iand .u64 (IntKind.wrap .u64 ((IntKind.wrap .u64 ((ishr .u64 a0 32) * (iand .u64 a1 4294967295))) + (ishr .u64 (IntKind.wrap .u64 ((iand .u64 a0 4294967295) * (iand .u64 a1 4294967295))) 32))) 4294967295))] (by kernel_rfl) ⟨(pure_and), trivial⟩) ?_
  refine k_sreg (r_go [(0, .p (.int .u64 a0)), (1, .p (.int .u64 a1)), (6, .p (.int .u64 (iand .u64 a0 4294967295))), (7, .p (.int .u64 (ishr .u64 a0 32))), (9, .p (.int .u64 (ishr .u64 a1 32))), (12, .p (.int .u64 (iand .u64 (IntKind.wrap .u64 ((IntKind.wrap .u64 ((ishr .u64 a0 32) * (iand .u64 a1 4294967295))) + (ishr .u64 (IntKind.wrap .u64 ((iand .u64 a0 4294967295) * (iand .u64 a1 4294967295))) 32))) 4294967295))), (13, .p (.int .u64 (ishr .u64 (IntKind.wrap .u64 ((IntKind.wrap .u64 ((ishr .u64 a0 32) * (iand .u64 a1 4294967295))) + (ishr .u64 (IntKind.wrap .u64 ((iand .u64 a0 4294967295) * (iand .u64 a1 4294967295))) 32))) 32)))] [(1, {pv := some (.int .u64 (ishr .u64 (IntKind.wrap .u64 ((IntKind.wrap .u64 ((ishr .u64 a0 32) * (iand .u64 a1 4294967295))) + (ishr .u64 (IntKind.wrap .u64 ((iand .u64 a0 4294967295) * (iand .u64 a1 4294967295))) 32))) 32))})] [PureAt Try.prog (.binOp .shr 136 (.tmp 33) (.const (.int .u64 32)) 130) [.int .u64 (IntKind.wrap .u64 ((IntKind.wrap .u64 ((ishr .u64 a0 32) * (iand .u64 a1 4294967295))) + (ishr .u64 (IntKind.wrap .u64 ((iand .u64 a0 4294967295) * (iand .u64 a1 4294967295))) 32))), .int .u64 32] (.int .u64 (ishr .u64 (IntKind.wrap .u64 ((IntKind.wrap .u64 ((ishr .u64 a0 32) * (iand .u64 a1 4294967295))) + (ishr .u64 (IntKind.wrap .u64 ((iand .u64 a0 4294967295) * (iand .u64 a1 4294967295))) 32))) 32))] (by kernel_rfl) ⟨(pure_shr (by decide)), trivial⟩) ?_
  refine k_sreg (r_go [(0, .p (.int .u64 a0)), (1, .p (.int .u64 a1)), (7, .p (.int .u64 (ishr .u64 a0 32))), (9, .p (.int .u64 (ishr .u64 a1 32))), (12, .p (.int .u64 (IntKind.wrap .u64 ((iand .u64 (IntKind.wrap .u64 ((IntKind.wrap .u64 ((ishr .u64 a0 32) * (iand .u64 a1 4294967295))) + (ishr .u64 (IntKind.wrap .u64 ((iand .u64 a0 4294967295) * (iand .u64 a1 4294967295))) 32))) 4294967295) + (IntKind.wrap .u64 ((iand .u64 a0 4294967295) * (ishr .u64 a1 32))))))), (13, .p (.int .u64 (ishr .u64 (IntKind.wrap .u64 ((IntKind.wrap .u64 ((ishr .u64 a0 32) * (iand .u64 a1 4294967295))) + (ishr .u64 (IntKind.wrap .u64 ((iand .u64 a0 4294967295) * (iand .u64 a1 4294967295))) 32))) 32)))] [] [] (by kernel_rfl) trivial) ?_
  refine k_sreg (r_go [(0, .p (.int .u64 a0)), (1, .p (.int .u64 a1)), (4, .p (.int .u64 (IntKind.wrap .u64 ((IntKind.wrap .u64 ((IntKind.wrap .u64 ((ishr .u64 a0 32) * (ishr .u64 a1 32))) + (ishr .u64 (IntKind.wrap .u64 ((IntKind.wrap .u64 ((ishr .u64 a0 32) * (iand .u64 a1 4294967295))) + (ishr .u64 (IntKind.wrap .u64 ((iand .u64 a0 4294967295) * (iand .u64 a1 4294967295))) 32))) 32))) + (ishr .u64 (IntKind.wrap .u64 ((iand .u64 (IntKind.wrap .u64 ((IntKind.wrap .u64 ((ishr .u64 a0 32) * (iand .u64 a1 4294967295))) + (ishr .u64 (IntKind.wrap .u64 ((iand .u64 a0 4294967295) * (iand .u64 a1 4294967295))) 32))) 4294967295) + (IntKind.wrap .u64 ((iand .u64 a0 4294967295) * (ishr .u64 a1 32))))) 32)))))] [(6, {pv := some (.int .u64 (ishr .u64 (IntKind.wrap .u64 ((iand .u64 (IntKind.wrap .u64 ((IntKind.wrap .u64 ((ishr .u64 a0 32) * (iand .u64 a1 4294967295))) + (ishr .u64 (IntKind.wrap .u64 ((iand .u64 a0 4294967295) * (iand .u64 a1 4294967295))) 32))) 4294967295) + (IntKind.wrap .u64 ((iand .u64 a0 4294967295) * (ishr .u64 a1 32))))) 32))})] [PureAt Try.prog (.binOp .shr 136 (.tmp 45) (.const (.int .u64 32)) 130) [.int .u64 (IntKind.wrap .u64 ((iand .u64 (IntKind.wrap .u64 ((IntKind.wrap .u64 ((ishr .u64 a0 32) * (iand .u64 a1 4294967295))) + (ishr .u64 (IntKind.wrap .u64 ((iand .u64 a0 4294967295) * (iand .u64 a1 4294967295))) 32))) 4294967295) + (IntKind.wrap .u64 ((iand .u64 a0 4294967295) * (ishr .u64 a1 32))))), .int .u64 32] (.int .u64 (ishr .u64 (IntKind.wrap .u64 ((iand .u64 (IntKind.wrap .u64 ((IntKind.wrap .u64 ((ishr .u64 a0 32) * (iand .u64 a1 4294967295))) + (ishr .u64 (IntKind.wrap .u64 ((iand .u64 a0 4294967295) * (iand .u64 a1 4294967295))) 32))) 4294967295) + (IntKind.wrap .u64 ((iand .u64 a0 4294967295) * (ishr .u64 a1 32))))) 32))] (by kernel_rfl) ⟨(pure_shr (by decide)), trivial⟩) ?_
  refine k_sreg (r_go [(4, .p (.int .u64 (IntKind.wrap .u64 ((IntKind.wrap .u64 ((IntKind.wrap .u64 ((ishr .u64 a0 32) * (ishr .u64 a1 32))) + (ishr .u64 (IntKind.wrap .u64 ((IntKind.wrap .u64 ((ishr .u64 a0 32) * (iand .u64 a1 4294967295))) + (ishr .u64 (IntKind.wrap .u64 ((iand .u64 a0 4294967295) * (iand .u64 a1 4294967295))) 32))) 32))) + (ishr .u64 (IntKind.wrap .u64 ((iand .u64 (IntKind.wrap .u64 ((IntKind.wrap .u64 ((ishr .u64 a0 32) * (iand .u64 a1 4294967295))) + (ishr .u64 (IntKind.wrap .u64 ((iand .u64 a0 4294967295) * (iand .u64 a1 4294967295))) 32))) 4294967295) + (IntKind.wrap .u64 ((iand .u64 a0 4294967295) * (ishr .u64 a1 32))))) 32))))), (5, .p (.int .u64 (IntKind.wrap .u64 (a0 * a1))))] [] [] (by kernel_rfl) trivial) ?_
  refine k_ret ?_
  obtain rfl := Option.some.inj h
  exact e_ret (ls := [(.p (.int .u64 (IntKind.wrap .u64 ((IntKind.wrap .u64 ((IntKind.wrap .u64 ((ishr .u64 a0 32) * (ishr .u64 a1 32))) + (ishr .u64 (IntKind.wrap .u64 ((IntKind.wrap .u64 ((ishr .u64 a0 32) * (iand .u64 a1 4294967295))) + (ishr .u64 (IntKind.wrap .u64 ((iand .u64 a0 4294967295) * (iand .u64 a1 4294967295))) 32))) 32))) + (ishr .u64 (IntKind.wrap .u64 ((iand .u64 (IntKind.wrap .u64 ((IntKind.wrap .u64 ((ishr .u64 a0 32) * (iand .u64 a1 4294967295))) + (ishr .u64 (IntKind.wrap .u64 ((iand .u64 a0 4294967295) * (iand .u64 a1 4294967295))) 32))) 4294967295) + (IntKind.wrap .u64 ((iand .u64 a0 4294967295) * (ishr .u64 a1 32))))) 32)))), 4), (.p (.int .u64 (IntKind.wrap .u64 (a0 * a1))), 5)]) (by kernel_rfl) rfl (by kernel_rfl) rfl
theorem wk_math_bits_Mul {a0 : Int} {a1 : Int}  {r : (Int × Int)} (h : math_bits_Mul a0 a1 = some r) : Meets Try.prog 134 [.v (.int .u64 a0), .v (.int .u64 a1)] { vals := [.p (.int .u64 r.1), .p (.int .u64 r.2)] } := by
  refine Meets_ofL (by kernel_rfl) Try.func134 rfl (by kernel_rfl) (l0 := [(0, .p (.int .u64 a0)), (1, .p (.int .u64 a1))]) (by kernel_rfl) ?_
  unfold math_bits_Mul at h
  refine k_sreg (r_go [(0, .p (.int .u64 a0)), (1, .p (.int .u64 a1))] [] [] (by kernel_rfl) trivial) ?_
  refine k_seq ?_
  refine k_cond (b := false) (by kernel_rfl) (fun hno => by rw [show false = false from rfl] at hno; cases hno) (fun _ => ?_)
  refine k_skip ?_
  refine q_n ?_
  replace h := bind_some' h
  obtain ⟨v2, hv2, h⟩ := h
  refine k_sreg (r_go [(8, .p (.int .u64 v2.1)), (9, .p (.int .u64 v2.2))] [(2, {call := some ([.v (.int .u64 a0), .v (.int .u64 a1)], [.p (.int .u64 v2.1), .p (.int .u64 v2.2)], true)})] [([.v (.int .u64 a0), .v (.int .u64 a1)] : List Arg) = [.v (.int .u64 a0), .v (.int .u64 a1)], Meets Try.prog 138 ([.v (.int .u64 a0), .v (.int .u64 a1)] ++ []) { vals := [.p (.int .u64 v2.1), .p (.int .u64 v2.2)] }, (!true || List.all [.p (.int .u64 v2.1), .p (.int .u64 v2.2)] simpleR) = true] (by kernel_rfl) ⟨rfl, (wk_math_bits_Mul64 hv2), (bt rfl), trivial⟩) ?_
  refine k_sreg (r_go [(4, .p (.int .u64 v2.1)), (5, .p (.int .u64 v2.2))] [] [] (by kernel_rfl) trivial) ?_
  refine k_ret ?_
  obtain rfl := Option.some.inj h
  exact e_ret (ls := [(.p (.int .u64 v2.1), 4), (.p (.int .u64 v2.2), 5)]) (by kernel_rfl) rfl (by kernel_rfl) rfl
theorem wk_slices_Repeat_Lint_int {a0 : (List Int)} {a1 : Int}  {r : (List Int)} (h : slices_Repeat_Lint_int a0 a1 = some r) : Meets Try.prog 121 [.d false [.sl none (a0.map eI)], .v (.int .i64 a1)] { vals := [.ov false [.sl (some 3) (r.map eI)]] } := by
  refine Meets_ofL (by kernel_rfl) Try.func121 rfl (by kernel_rfl) (l0 := [(0, .d false [.sl none (a0.map eI)]), (1, .p (.int .i64 a1))]) (by kernel_rfl) ?_
  unfold slices_Repeat_Lint_int at h
  refine k_sreg (r_go [(0, .d false [.sl none (a0.map eI)]), (1, .p (.int .i64 a1))] [] [] (by kernel_rfl) trivial) ?_
  refine k_join (J := fun (x : Unit) => [(0, .d false [.sl none (a0.map eI)]), (1, .p (.int .i64 a1))]) (K := fun x => slices_Repeat_Lint_int_k1 a0 a1 x = some r) (fun x1 h => ?_) ?_
  · unfold slices_Repeat_Lint_int_k1 at h
    replace h := bind_some' h
    obtain ⟨v2, hv2, h⟩ := h
    refine k_sreg (r_go [(0, .d false [.sl none (a0.map eI)]), (5, .p (.int .u64 v2.1)), (6, .p (.int .u64 v2.2))] [(1, {n := some a0.length}), (2, {pv := some (.int .u64 (IntKind.wrap .u64 (a0.length : Int)))}), (4, {pv := some (.int .u64 (IntKind.wrap .u64 a1))}), (5, {call := some ([.v (.int .u64 (IntKind.wrap .u64 (a0.length : Int))), .v (.int .u64 (IntKind.wrap .u64 a1))], [.p (.int .u64 v2.1), .p (.int .u64 v2.2)], true)})] [(a0.map eI).length = a0.length, PureAt Try.prog (.convert 3 130 (.tmp 14)) [.int .i64 (a0.length : Int)] (.int .u64 (IntKind.wrap .u64 (a0.length : Int))), PureAt Try.prog (.convert 3 130 (.tmp 16)) [.int .i64 a1] (.int .u64 (IntKind.wrap .u64 a1)), ([.v (.int .u64 (IntKind.wrap .u64 (a0.length : Int))), .v (.int .u64 (IntKind.wrap .u64 a1))] : List Arg) = [.v (.int .u64 (IntKind.wrap .u64 (a0.length : Int))), .v (.int .u64 (IntKind.wrap .u64 a1))], Meets Try.prog 134 ([.v (.int .u64 (IntKind.wrap .u64 (a0.length : Int))), .v (.int .u64 (IntKind.wrap .u64 a1))] ++ []) { vals := [.p (.int .u64 v2.1), .p (.int .u64 v2.2)] }, (!true || List.all [.p (.int .u64 v2.1), .p (.int .u64 v2.2)] simpleR) = true] (by kernel_rfl) ⟨(List.length_map ..), (pure_conv Try_und3 Try_und130), (pure_conv Try_und3 Try_und130), rfl, (wk_math_bits_Mul hv2), (bt rfl), trivial⟩) ?_
    refine k_join (J := fun (x : Unit) => [(0, .d false [.sl none (a0.map eI)]), (6, .p (.int .u64 v2.2))]) (K := fun x => slices_Repeat_Lint_int_k2 a0 v2 x = some r) (fun x3 h => ?_) ?_
    · unfold slices_Repeat_Lint_int_k2 at h
      replace h := bind_some' h
      obtain ⟨u4, hu4, h⟩ := h
      refine k_sreg (r_go [(0, .d false [.sl none (a0.map eI)]), (7, .ov false [.sl (some 3) ((List.replicate (Int.toNat (IntKind.wrap .i64 v2.2)) (0 : Int)).map eI)])] [(1, {pv := some (.int .i64 (IntKind.wrap .i64 v2.2))}), (2, {fix := some (30, .ov false [.sl (some 3) ((List.replicate (Int.toNat (IntKind.wrap .i64 v2.2)) (0 : Int)).map eI)])})] [PureAt Try.prog (.convert 130 3 (.tmp 28)) [.int .u64 v2.2] (.int .i64 (IntKind.wrap .i64 v2.2)), (IntKind.wrap .i64 v2.2) = (IntKind.wrap .i64 v2.2), 0 ≤ (IntKind.wrap .i64 v2.2), (IntKind.wrap .i64 v2.2) ≤ 1099511627776, (SV.ov false [.sl (some 3) (List.replicate (Int.toNat (IntKind.wrap .i64 v2.2)) [.raw (.int .i64 0)])] : SV) = .ov false [.sl (some 3) ((List.replicate (Int.toNat (IntKind.wrap .i64 v2.2)) (0 : Int)).map eI)]] (by kernel_rfl) ⟨(pure_conv Try_und130 Try_und3), rfl, (guardO_some hu4).1, (guardO_some hu4).2, (congrArg (fun z => SV.ov false [.sl (some 3) z]) (rep_fix eI (0 : Int))), trivial⟩) ?_
      refine k_sreg (r_copy0 (t := 53) (e := 3) (rows := ((List.replicate (Int.toNat (IntKind.wrap .i64 v2.2)) (0 : Int)).map eI)) (rows2 := (a0.map eI)) (rows' := ((copyAt (List.replicate (Int.toNat (IntKind.wrap .i64 v2.2)) (0 : Int)) 0 a0).map eI)) (n := ((min a0.length (List.replicate (Int.toNat (IntKind.wrap .i64 v2.2)) (0 : Int)).length : Nat) : Int)) [(7, .ov false [.sl (some 3) ((copyAt (List.replicate (Int.toNat (IntKind.wrap .i64 v2.2)) (0 : Int)) 0 a0).map eI)]), (8, .p (.int .i64 ((min a0.length (List.replicate (Int.toNat (IntKind.wrap .i64 v2.2)) (0 : Int)).length : Nat) : Int)))] ⟨rfl, rfl, rfl⟩ ⟨rfl, rfl, rfl⟩ ⟨rfl, rfl, rfl⟩ ⟨rfl, rfl, rfl⟩ (by kernel_rfl) (by kernel_rfl) (by kernel_rfl) (by kernel_rfl) (by kernel_rfl) (by kernel_rfl) (raw_map fun _ => rfl) (raw_map1 fun _ => ⟨rfl, rfl⟩) (by simp) (copyAt_map eI (List.replicate (Int.toNat (IntKind.wrap .i64 v2.2)) (0 : Int)) a0 0)) ?_
      refine k_join (J := fun (x : (List Int)) => [(7, .ov false [.sl (some 3) (x.map eI)])]) (K := fun x => slices_Repeat_Lint_int_k3 x = some r) (fun x5 h => ?_) ?_
      · unfold slices_Repeat_Lint_int_k3 at h
        refine k_sreg (r_go [(4, .ov false [.sl (some 3) (x5.map eI)])] [] [] (by kernel_rfl) trivial) ?_
        refine k_ret ?_
        obtain rfl := Option.some.inj h
        exact e_ret (ls := [(.ov false [.sl (some 3) (x5.map eI)], 4)]) (by kernel_rfl) rfl (by kernel_rfl) rfl
      · refine k_block ?_
        obtain ⟨y7, hl_x6, hk_x6⟩ := bind_some' h
        clear h
        refine k_loop (J := fun (x : ((List Int) × Int)) => [(7, .ov false [.sl (some 3) (x.1.map eI)]), (8, .p (.int .i64 x.2))]) hl_x6 (wk_of (by kernel_rfl) (by kernel_rfl)) (fun x6 o_x6 h hy_x6 => ?_)
        unfold slices_Repeat_Lint_int_b1 at h
        refine k_seq ?_
        refine k_sreg (r_go [(7, .ov false [.sl (some 3) (x6.1.map eI)]), (8, .p (.int .i64 x6.2)), (37, .p (.bool (decide (x6.2 < (x6.1.length : Int)))))] [(2, {n := some x6.1.length})] [(x6.1.map eI).length = x6.1.length] (by kernel_rfl) ⟨(List.length_map ..), trivial⟩) ?_
        refine k_cond (b := (decide (x6.2 < (x6.1.length : Int)))) (by kernel_rfl) (fun hc5_7 => ?_) (fun hc5_7 => ?_)
        · replace h := ite_t hc5_7 h
          refine k_skip ?_
          refine q_n ?_
          refine k_block ?_
          replace h := bind_some' h
          obtain ⟨u9, hu9, h⟩ := h
          refine k_reg (r_copy1 (t := 53) (e := 3) (rows := (x6.1.map eI)) (rows' := ((copyAt x6.1 (Int.toNat x6.2) (x6.1.take (Int.toNat x6.2))).map eI)) (n := x6.2) (n' := (w64 (x6.2 + (min (Int.toNat x6.2) (x6.1.length - (Int.toNat x6.2)) : Nat)))) [(7, .ov false [.sl (some 3) ((copyAt x6.1 (Int.toNat x6.2) (x6.1.take (Int.toNat x6.2))).map eI)]), (8, .p (.int .i64 (w64 (x6.2 + (min (Int.toNat x6.2) (x6.1.length - (Int.toNat x6.2)) : Nat)))))] Try_mixed ⟨rfl, rfl⟩ ⟨rfl, rfl⟩ ⟨rfl, rfl⟩ ⟨rfl, rfl⟩ ⟨rfl, rfl⟩ ⟨rfl, rfl⟩ ⟨rfl, rfl⟩ ⟨rfl, rfl⟩ ⟨rfl, rfl⟩ ⟨rfl, rfl⟩ (by kernel_rfl) (by kernel_rfl) (by kernel_rfl) (by kernel_rfl) (by kernel_rfl) (by kernel_rfl) (raw_map fun _ => rfl) (guardO_some hu9).1 (by have hg := (guardO_some hu9).2; simpa using hg) (by simp) (by rw [← List.map_take]; exact copyAt_map eI x6.1 _ _)) ?_
          refine b_n ?_
          exact lq_n ((copyAt x6.1 (Int.toNat x6.2) (x6.1.take (Int.toNat x6.2))), (w64 (x6.2 + (min (Int.toNat x6.2) (x6.1.length - (Int.toNat x6.2)) : Nat)))) (Option.some.inj h).symm (wk_of (by kernel_rfl) (by kernel_rfl))
        · replace h := ite_f hc5_7 h
          refine k_exit ?_
          refine q_x ?_
          refine lq_x ?_
          refine b_x ?_
          have hyy := hy_x6 _ (Option.some.inj h).symm
          subst hyy
          have h := hk_x6
          refine q_n ?_
          exact ⟨x6.1, h, (wk_of (by kernel_rfl) (by kernel_rfl))⟩
    · refine k_sreg (l1 := [(0, .d false [.sl none (a0.map eI)]), (6, .p (.int .u64 v2.2)), (26, .p (.bool ((decide (v2.1 > 0)) || (decide (v2.2 > 9223372036854775807)))))]) ?_ ?_
      · rcases Bool.eq_false_or_eq_true (decide (v2.1 > 0)) with ha0 | ha0
        · exact RegOk.of_eq (l2 := [(0, .d false [.sl none (a0.map eI)]), (6, .p (.int .u64 v2.2)), (26, .p (.bool ((decide (v2.1 > 0)) || (decide (v2.2 > 9223372036854775807)))))]) (r_go [(0, .d false [.sl none (a0.map eI)]), (6, .p (.int .u64 v2.2)), (26, .p (.bool true))] [(3, {g := some true}), (4, {g := some true}), (5, {b := some true})] [(decide (v2.1 > 0)) = true, (decide (v2.1 > 0)) = true, (decide (v2.1 > 0)) = true] (by kernel_rfl) ⟨ha0, ha0, ha0, trivial⟩) (by simp [ha0])
        · exact RegOk.of_eq (l2 := [(0, .d false [.sl none (a0.map eI)]), (6, .p (.int .u64 v2.2)), (26, .p (.bool ((decide (v2.1 > 0)) || (decide (v2.2 > 9223372036854775807)))))]) (r_go [(0, .d false [.sl none (a0.map eI)]), (6, .p (.int .u64 v2.2)), (26, .p (.bool (decide (v2.2 > 9223372036854775807))))] [(3, {g := some false}), (4, {g := some false}), (5, {b := some false})] [(decide (v2.1 > 0)) = false, (decide (v2.1 > 0)) = false, (decide (v2.1 > 0)) = false] (by kernel_rfl) ⟨ha0, ha0, ha0, trivial⟩) (by simp [ha0])
      · refine k_cond (b := ((decide (v2.1 > 0)) || (decide (v2.2 > 9223372036854775807)))) (by kernel_rfl) (fun hc2_9 => ?_) (fun hc2_9 => ?_)
        · replace h := ite_t hc2_9 h
          cases h
        · replace h := ite_f hc2_9 h
          refine k_skip ?_
          refine q_n ?_
          exact ⟨(), h, (wk_of (by kernel_rfl) (by kernel_rfl))⟩
  · refine k_sreg (r_go [(0, .d false [.sl none (a0.map eI)]), (1, .p (.int .i64 a1)), (10, .p (.bool (decide (a1 < 0))))] [] [] (by kernel_rfl) trivial) ?_
    refine k_cond (b := (decide (a1 < 0))) (by kernel_rfl) (fun hc2_10 => ?_) (fun hc2_10 => ?_)
    · replace h := ite_t hc2_10 h
      cases h
    · replace h := ite_f hc2_10 h
      refine k_skip ?_
      refine q_n ?_
      exact ⟨(), h, (wk_of (by kernel_rfl) (by kernel_rfl))⟩
theorem wk_impl_times {a0 : (List (List Int))} {a1 : (List Int)}  {r : (List Int)} (h : impl_times a0 a1 = some r) : Meets Try.prog 114 [.d false [.sl none (a0.map (eF eI))], .d false [.sl none (a1.map eI)]] { vals := [.ov false [.sl (some 3) (r.map eI)]] } := by
  refine Meets_ofL (by kernel_rfl) Try.func114 rfl (by kernel_rfl) (l0 := [(0, .d false [.sl none (a0.map (eF eI))]), (1, .d false [.sl none (a1.map eI)])]) (by kernel_rfl) ?_
  unfold impl_times at h
  refine k_sreg (r_go [(0, .d false [.sl none (a0.map (eF eI))]), (1, .d false [.sl none (a1.map eI)])] [] [] (by kernel_rfl) trivial) ?_
  replace h := bind_some' h
  obtain ⟨u1, hu1, h⟩ := h
  refine k_sreg (r_go [(0, .d false [.sl none (a0.map (eF eI))]), (1, .d false [.sl none (a1.map eI)]), (5, .ov false [.sl (some 3) ((List.replicate (Int.toNat (a0.length : Int)) (0 : Int)).map eI)])] [(1, {n := some a0.length}), (2, {fix := some (12, .ov false [.sl (some 3) ((List.replicate (Int.toNat (a0.length : Int)) (0 : Int)).map eI)])})] [(a0.map (eF eI)).length = a0.length, (a0.length : Int) = (a0.length : Int), 0 ≤ (a0.length : Int), (a0.length : Int) ≤ 1099511627776, (SV.ov false [.sl (some 3) (List.replicate (Int.toNat (a0.length : Int)) [.raw (.int .i64 0)])] : SV) = .ov false [.sl (some 3) ((List.replicate (Int.toNat (a0.length : Int)) (0 : Int)).map eI)]] (by kernel_rfl) ⟨(List.length_map ..), rfl, (guardO_some hu1).1, (guardO_some hu1).2, (congrArg (fun z => SV.ov false [.sl (some 3) z]) (rep_fix eI (0 : Int))), trivial⟩) ?_
  refine k_join (J := fun (x : (List Int)) => [(5, .ov false [.sl (some 3) (x.map eI)])]) (K := fun x => impl_times_k1 x = some r) (fun x2 h => ?_) ?_
  · unfold impl_times_k1 at h
    refine k_sreg (r_go [(4, .ov false [.sl (some 3) (x2.map eI)])] [] [] (by kernel_rfl) trivial) ?_
    refine k_ret ?_
    obtain rfl := Option.some.inj h
    exact e_ret (ls := [(.ov false [.sl (some 3) (x2.map eI)], 4)]) (by kernel_rfl) rfl (by kernel_rfl) rfl
  · refine k_sreg (r_go [(1, .d false [.sl none (a1.map eI)]), (5, .ov false [.sl (some 3) ((List.replicate (Int.toNat (a0.length : Int)) (0 : Int)).map eI)]), (13, .d false [.sl none (a0.map (eF eI))]), (14, .p (.int .i64 (a0.length : Int))), (15, .p (.int .i64 0))] [(1, {n := some a0.length})] [(a0.map (eF eI)).length = a0.length] (by kernel_rfl) ⟨(List.length_map ..), trivial⟩) ?_
    refine k_block ?_
    obtain ⟨y4, hl_x3, hk_x3⟩ := bind_some' h
    clear h
    refine k_loop (J := fun (x : ((List Int) × Int)) => [(1, .d false [.sl none (a1.map eI)]), (5, .ov false [.sl (some 3) (x.1.map eI)]), (13, .d false [.sl none (a0.map (eF eI))]), (14, .p (.int .i64 (a0.length : Int))), (15, .p (.int .i64 x.2))]) hl_x3 (wk_of (by kernel_rfl) (by kernel_rfl)) (fun x3 o_x3 h hy_x3 => ?_)
    unfold impl_times_b1 at h
    refine k_sreg (r_go [(1, .d false [.sl none (a1.map eI)]), (5, .ov false [.sl (some 3) (x3.1.map eI)]), (13, .d false [.sl none (a0.map (eF eI))]), (14, .p (.int .i64 (a0.length : Int))), (15, .p (.int .i64 x3.2)), (16, .p (.bool (decide (x3.2 < (a0.length : Int)))))] [] [] (by kernel_rfl) trivial) ?_
    refine k_seq ?_
    refine k_cond (b := (decide (x3.2 < (a0.length : Int)))) (by kernel_rfl) (fun hc5_4 => ?_) (fun hc5_4 => ?_)
    · replace h := ite_t hc5_4 h
      refine k_skip ?_
      refine q_n ?_
      refine k_join (J := fun (x : (List Int)) => [(1, .d false [.sl none (a1.map eI)]), (5, .ov false [.sl (some 3) (x.map eI)]), (13, .d false [.sl none (a0.map (eF eI))]), (14, .p (.int .i64 (a0.length : Int))), (15, .p (.int .i64 x3.2))]) (K := fun x => impl_times_k2 x3 x = some o_x3) (fun x6 h => ?_) ?_
      · unfold impl_times_k2 at h
        refine k_reg (r_go [(1, .d false [.sl none (a1.map eI)]), (5, .ov false [.sl (some 3) (x6.map eI)]), (13, .d false [.sl none (a0.map (eF eI))]), (14, .p (.int .i64 (a0.length : Int))), (15, .p (.int .i64 (w64 (x3.2 + 1))))] [] [] (by kernel_rfl) trivial) ?_
        exact lq_n (x6, (w64 (x3.2 + 1))) (Option.some.inj h).symm (wk_of (by kernel_rfl) (by kernel_rfl))
      · refine k_block ?_
        replace h := bind_some' h
        obtain ⟨v7, hv7, h⟩ := h
        refine k_sreg (r_go [(1, .d false [.sl none (a1.map eI)]), (5, .ov false [.sl (some 3) (x3.1.map eI)]), (6, .p (.int .i64 x3.2)), (7, .d false [.sl none (v7.map eI)]), (13, .d false [.sl none (a0.map (eF eI))]), (14, .p (.int .i64 (a0.length : Int))), (15, .p (.int .i64 x3.2))] [(1, {row := some [.sl none (v7.map eI)]})] [0 ≤ x3.2, (a0.map (eF eI))[(Int.toNat x3.2)]? = some [.sl none (v7.map eI)]] (by kernel_rfl) ⟨(idxO_some hv7).1, (map_get (eF eI) (idxO_some hv7).2), trivial⟩) ?_
        refine k_sreg (r_go [(1, .d false [.sl none (a1.map eI)]), (5, .ov false [.sl (some 3) (x3.1.map eI)]), (6, .p (.int .i64 x3.2)), (13, .d false [.sl none (a0.map (eF eI))]), (14, .p (.int .i64 (a0.length : Int))), (15, .p (.int .i64 x3.2)), (20, .d false [.sl none (v7.map eI)]), (21, .p (.int .i64 (v7.length : Int))), (22, .p (.int .i64 0))] [(1, {n := some v7.length})] [(v7.map eI).length = v7.length] (by kernel_rfl) ⟨(List.length_map ..), trivial⟩) ?_
        refine k_block ?_
        obtain ⟨y9, hl_x8, hk_x8⟩ := bind_some' h
        clear h
        refine k_loop (J := fun (x : ((List Int) × Int)) => [(1, .d false [.sl none (a1.map eI)]), (5, .ov false [.sl (some 3) (x.1.map eI)]), (6, .p (.int .i64 x3.2)), (13, .d false [.sl none (a0.map (eF eI))]), (14, .p (.int .i64 (a0.length : Int))), (15, .p (.int .i64 x3.2)), (20, .d false [.sl none (v7.map eI)]), (21, .p (.int .i64 (v7.length : Int))), (22, .p (.int .i64 x.2))]) hl_x8 (wk_of (by kernel_rfl) (by kernel_rfl)) (fun x8 o_x8 h hy_x8 => ?_)
        unfold impl_times_b2 at h
        refine k_sreg (r_go [(1, .d false [.sl none (a1.map eI)]), (5, .ov false [.sl (some 3) (x8.1.map eI)]), (6, .p (.int .i64 x3.2)), (13, .d false [.sl none (a0.map (eF eI))]), (14, .p (.int .i64 (a0.length : Int))), (15, .p (.int .i64 x3.2)), (20, .d false [.sl none (v7.map eI)]), (21, .p (.int .i64 (v7.length : Int))), (22, .p (.int .i64 x8.2)), (23, .p (.bool (decide (x8.2 < (v7.length : Int)))))] [] [] (by kernel_rfl) trivial) ?_
        refine k_seq ?_
        refine k_cond (b := (decide (x8.2 < (v7.length : Int)))) (by kernel_rfl) (fun hc9_9 => ?_) (fun hc9_9 => ?_)
        · replace h := ite_t hc9_9 h
          refine k_skip ?_
          refine q_n ?_
          refine k_seq ?_
          refine k_block ?_
          replace h := bind_some' h
          obtain ⟨v11, hv11, h⟩ := h
          refine k_sreg (r_go [(1, .d false [.sl none (a1.map eI)]), (5, .ov false [.sl (some 3) (x8.1.map eI)]), (6, .p (.int .i64 x3.2)), (8, .p (.int .i64 x8.2)), (9, .p (.int .i64 v11)), (13, .d false [.sl none (a0.map (eF eI))]), (14, .p (.int .i64 (a0.length : Int))), (15, .p (.int .i64 x3.2)), (20, .d false [.sl none (v7.map eI)]), (21, .p (.int .i64 (v7.length : Int))), (22, .p (.int .i64 x8.2))] [(1, {row := some [.raw (.int .i64 v11)]})] [0 ≤ x8.2, (v7.map eI)[(Int.toNat x8.2)]? = some [.raw (.int .i64 v11)]] (by kernel_rfl) ⟨(idxO_some hv11).1, (map_get eI (idxO_some hv11).2), trivial⟩) ?_
          replace h := bind_some' h
          obtain ⟨v12, hv12, h⟩ := h
          replace h := bind_some' h
          obtain ⟨v13, hv13, h⟩ := h
          refine k_reg (r_draw Try_mixed 10 [] [(1, .d false [.sl none (a1.map eI)]), (5, .ov false [.sl (some 3) ((x8.1.set (Int.toNat x3.2) (w64 (v12 + (w64 (v11 * v13))))).map eI)]), (6, .p (.int .i64 x3.2)), (13, .d false [.sl none (a0.map (eF eI))]), (14, .p (.int .i64 (a0.length : Int))), (15, .p (.int .i64 x3.2)), (20, .d false [.sl none (v7.map eI)]), (21, .p (.int .i64 (v7.length : Int))), (22, .p (.int .i64 x8.2))] [(2, {row := some [.raw (.int .i64 v12)]}), (3, {row := some [.raw (.int .i64 v12)]}), (7, {row := some [.raw (.int .i64 v13)]}), (11, {row := some [.raw (.int .i64 v12)]}), (12, {row := some [.raw (.int .i64 v12)], fix := some (5, .ov false [.sl (some 3) ((x8.1.set (Int.toNat x3.2) (w64 (v12 + (w64 (v11 * v13))))).map eI)])})] [0 ≤ x3.2, (x8.1.map eI)[(Int.toNat x3.2)]? = some [.raw (.int .i64 v12)], getRow [[.sl (some 3) (x8.1.map eI)]] [(0, 0), ((Int.toNat x3.2), 0)] = some [.raw (.int .i64 v12)], 0 ≤ x8.2, (a1.map eI)[(Int.toNat x8.2)]? = some [.raw (.int .i64 v13)], 0 ≤ x3.2, (x8.1.map eI)[(Int.toNat x3.2)]? = some [.raw (.int .i64 v12)], getRow [[.sl (some 3) (x8.1.map eI)]] [(0, 0), ((Int.toNat x3.2), 0)] = some [.raw (.int .i64 v12)], (SV.ov false [.sl (some 3) (setL (x8.1.map eI) [((Int.toNat x3.2), 0)] [.raw (.int .i64 (w64 (v12 + (w64 (v11 * v13)))))])] : SV) = .ov false [.sl (some 3) ((x8.1.set (Int.toNat x3.2) (w64 (v12 + (w64 (v11 * v13))))).map eI)]] (by kernel_rfl) ⟨(idxO_some hv12).1, (map_get eI (idxO_some hv12).2), ((gr0 rfl).trans (gre (map_get eI (idxO_some hv12).2))), (idxO_some hv13).1, (map_get eI (idxO_some hv13).2), (idxO_some hv12).1, (map_get eI (idxO_some hv12).2), ((gr0 rfl).trans (gre (map_get eI (idxO_some hv12).2))), (congrArg (fun z => SV.ov false [.sl (some 3) z]) (set1 (f := eI) (y := (w64 (v12 + (w64 (v11 * v13))))) (idxO_some hv12).2 rfl)), trivial⟩) ?_
          refine b_n ?_
          refine q_n ?_
          refine k_reg (r_go [(1, .d false [.sl none (a1.map eI)]), (5, .ov false [.sl (some 3) ((x8.1.set (Int.toNat x3.2) (w64 (v12 + (w64 (v11 * v13))))).map eI)]), (6, .p (.int .i64 x3.2)), (13, .d false [.sl none (a0.map (eF eI))]), (14, .p (.int .i64 (a0.length : Int))), (15, .p (.int .i64 x3.2)), (20, .d false [.sl none (v7.map eI)]), (21, .p (.int .i64 (v7.length : Int))), (22, .p (.int .i64 (w64 (x8.2 + 1))))] [] [] (by kernel_rfl) trivial) ?_
          exact lq_n ((x8.1.set (Int.toNat x3.2) (w64 (v12 + (w64 (v11 * v13))))), (w64 (x8.2 + 1))) (Option.some.inj h).symm (wk_of (by kernel_rfl) (by kernel_rfl))
        · replace h := ite_f hc9_9 h
          refine k_exit ?_
          refine q_x ?_
          refine lq_x ?_
          refine b_x ?_
          refine b_n ?_
          have hyy := hy_x8 _ (Option.some.inj h).symm
          subst hyy
          have h := hk_x8
          refine q_n ?_
          exact ⟨x8.1, h, (wk_of (by kernel_rfl) (by kernel_rfl))⟩
    · replace h := ite_f hc5_4 h
      refine k_exit ?_
      refine q_x ?_
      refine lq_x ?_
      refine b_x ?_
      have hyy := hy_x3 _ (Option.some.inj h).symm
      subst hyy
      have h := hk_x3
      refine q_n ?_
      exact ⟨x3.1, h, (wk_of (by kernel_rfl) (by kernel_rfl))⟩
theorem wk_impl_isVector_1 {a0 : Int}  {r : Bool} (h : impl_isVector_1 a0 = some r) : Meets Try.prog 131 [.v (.int .i64 a0)] { vals := [.p (.bool r)] } := by
  refine Meets_ofL (by kernel_rfl) Try.func131 rfl (by kernel_rfl) (l0 := [(0, .p (.int .i64 a0))]) (by kernel_rfl) ?_
  unfold impl_isVector_1 at h
  refine k_sreg (r_go [(0, .p (.int .i64 a0))] [] [] (by kernel_rfl) trivial) ?_
  replace h := bind_some' h
  obtain ⟨v1, hv1, h⟩ := h
  refine k_sreg (r_go [(2, .p (.bool (!v1)))] [(1, {call := some ([.v (.int .i64 a0), .v (.int .i64 1), .v (.int .i64 1000000)], [.p (.bool v1)], true)})] [([.v (.int .i64 a0), .v (.int .i64 1), .v (.int .i64 1000000)] : List Arg) = [.v (.int .i64 a0), .v (.int .i64 1), .v (.int .i64 1000000)], Meets Try.prog 92 ([.v (.int .i64 a0), .v (.int .i64 1), .v (.int .i64 1000000)] ++ []) { vals := [.p (.bool v1)] }, (!true || List.all [.p (.bool v1)] simpleR) = true] (by kernel_rfl) ⟨rfl, (wk_impl_within hv1), (bt rfl), trivial⟩) ?_
  refine k_ret ?_
  obtain rfl := Option.some.inj h
  exact e_ret (ls := [(.p (.bool (!v1)), 2)]) (by kernel_rfl) rfl (by kernel_rfl) rfl
theorem wk_impl_isVector {a0 : (List Int)}  {r : Bool} (h : impl_isVector a0 = some r) : Meets Try.prog 113 [.d false [.sl none (a0.map eI)]] { vals := [.p (.bool r)] } := by
  refine Meets_ofL (by kernel_rfl) Try.func113 rfl (by kernel_rfl) (l0 := [(0, .d false [.sl none (a0.map eI)])]) (by kernel_rfl) ?_
  unfold impl_isVector at h
  refine k_sreg (r_go [(0, .d false [.sl none (a0.map eI)])] [] [] (by kernel_rfl) trivial) ?_
  replace h := bind_some' h
  obtain ⟨v1, hv1, h⟩ := h
  replace h := bind_some' h
  obtain ⟨w3, hw3, h⟩ := h
  refine k_sreg (l1 := [(2, .p (.bool w3))]) ?_ ?_
  · clear h
    rcases Bool.eq_false_or_eq_true v1 with ha0 | ha0
    · replace hw3 := ite_t ha0 hw3
      replace hw3 := bind_some' hw3
      obtain ⟨v2, hv2, hw3⟩ := hw3
      have hw3 := Option.some.inj hw3
      subst hw3
      exact (r_go [(2, .p (.bool (!v2)))] [(1, {n := some a0.length}), (2, {call := some ([.v (.int .i64 (a0.length : Int)), .v (.int .i64 1), .v (.int .i64 8)], [.p (.bool v1)], true)}), (4, {g := some true}), (5, {g := some true, call := some ([.d false [.sl none (a0.map eI)], .v (.func (.func 131) #[] #[])], [.p (.bool v2)], true)}), (6, {g := some true}), (7, {b := some true})] [(a0.map eI).length = a0.length, ([.v (.int .i64 (a0.length : Int)), .v (.int .i64 1), .v (.int .i64 8)] : List Arg) = [.v (.int .i64 (a0.length : Int)), .v (.int .i64 1), .v (.int .i64 8)], Meets Try.prog 92 ([.v (.int .i64 (a0.length : Int)), .v (.int .i64 1), .v (.int .i64 8)] ++ []) { vals := [.p (.bool v1)] }, (!true || List.all [.p (.bool v1)] simpleR) = true, v1 = true, v1 = true, ([.d false [.sl none (a0.map eI)], .v (.func (.func 131) #[] #[])] : List Arg) = [.d false [.sl none (a0.map eI)], .v (.func (.func 131) #[] #[])], Meets Try.prog 119 ([.d false [.sl none (a0.map eI)], .v (.func (.func 131) #[] #[])] ++ []) { vals := [.p (.bool v2)] }, (!true || List.all [.p (.bool v2)] simpleR) = true, v1 = true, v1 = true] (by kernel_rfl) ⟨(List.length_map ..), rfl, (wk_impl_within hv1), (bt rfl), ha0, ha0, rfl, (wk_slices_ContainsFunc_Lint_int_v (fun x0 y hy => wk_impl_isVector_1 hy) hv2), (bt rfl), ha0, ha0, trivial⟩)
    · replace hw3 := ite_f ha0 hw3
      have hw3 := Option.some.inj hw3
      subst hw3
      exact (r_go [(2, .p (.bool false))] [(1, {n := some a0.length}), (2, {call := some ([.v (.int .i64 (a0.length : Int)), .v (.int .i64 1), .v (.int .i64 8)], [.p (.bool v1)], true)}), (4, {g := some false}), (5, {g := some false}), (6, {g := some false}), (7, {b := some false})] [(a0.map eI).length = a0.length, ([.v (.int .i64 (a0.length : Int)), .v (.int .i64 1), .v (.int .i64 8)] : List Arg) = [.v (.int .i64 (a0.length : Int)), .v (.int .i64 1), .v (.int .i64 8)], Meets Try.prog 92 ([.v (.int .i64 (a0.length : Int)), .v (.int .i64 1), .v (.int .i64 8)] ++ []) { vals := [.p (.bool v1)] }, (!true || List.all [.p (.bool v1)] simpleR) = true, v1 = false, v1 = false, v1 = false, v1 = false] (by kernel_rfl) ⟨(List.length_map ..), rfl, (wk_impl_within hv1), (bt rfl), ha0, ha0, ha0, ha0, trivial⟩)
  · refine k_ret ?_
    obtain rfl := Option.some.inj h
    exact e_ret (ls := [(.p (.bool w3), 2)]) (by kernel_rfl) rfl (by kernel_rfl) rfl
theorem wk_impl_walkVectors {a0 : (List (List Int))} {a1 : Int}  {r : (List (List Int))} (h : impl_walkVectors a0 a1 = some r) : Meets Try.prog 80 [.d false [.sl none (a0.map (eF eI))], .v (.int .i64 a1)] { vals := [.ov false [.sl (some 53) (r.map (eF eI))]] } := by
  refine Meets_ofL (by kernel_rfl) Try.func80 rfl (by kernel_rfl) (l0 := [(0, .d false [.sl none (a0.map (eF eI))]), (1, .p (.int .i64 a1))]) (by kernel_rfl) ?_
  unfold impl_walkVectors at h
  refine k_sreg (r_go [(0, .d false [.sl none (a0.map (eF eI))]), (1, .p (.int .i64 a1))] [] [] (by kernel_rfl) trivial) ?_
  replace h := bind_some' h
  obtain ⟨v1, hv1, h⟩ := h
  refine k_sreg (r_go [(0, .d false [.sl none (a0.map (eF eI))]), (1, .p (.int .i64 a1)), (5, .ov false [.sl (some 3) (v1.map eI)])] [(2, {n := some a0.length}), (3, {call := some ([.d false [.sl none (([1]).map eI)], .v (.int .i64 (a0.length : Int))], [.ov false [.sl (some 3) (v1.map eI)]], true)})] [(a0.map (eF eI)).length = a0.length, ([.d false [.sl none (eraL (([1]).map eI))], .v (.int .i64 (a0.length : Int))] : List Arg) = [.d false [.sl none (([1]).map eI)], .v (.int .i64 (a0.length : Int))], Meets Try.prog 121 ([.d false [.sl none (([1]).map eI)], .v (.int .i64 (a0.length : Int))] ++ []) { vals := [.ov false [.sl (some 3) (v1.map eI)]] }, (!true || List.all [.ov false [.sl (some 3) (v1.map eI)]] simpleR) = true] (by kernel_rfl) ⟨(List.length_map ..), (by simp only [eraL_enc (h := eI) er_I]), (wk_slices_Repeat_Lint_int hv1), (bt (sa_o (wnR1 (wnL_enc wn_I) rfl) rfl)), trivial⟩) ?_
  refine k_sreg (r_go [(0, .d false [.sl none (a0.map (eF eI))]), (1, .p (.int .i64 a1)), (5, .d false [.sl none (v1.map eI)]), (6, .ov false [.sl (some 53) (([v1]).map (eF eI))])] [(0, {pre := some (5, .d false [.sl none (v1.map eI)])})] [(SV.d false (eraR [.sl (some 3) (v1.map eI)]) : SV) = .d false [.sl none (v1.map eI)]] (by kernel_rfl) ⟨(congrArg (fun z => SV.d false z) (erc_sl (eraL_enc er_I) rfl)), trivial⟩) ?_
  refine k_join (J := fun (x : (List (List Int))) => [(6, .ov false [.sl (some 53) (x.map (eF eI))])]) (K := fun x => impl_walkVectors_k1 x = some r) (fun x2 h => ?_) ?_
  · unfold impl_walkVectors_k1 at h
    refine k_sreg (r_go [(4, .ov false [.sl (some 53) (x2.map (eF eI))])] [] [] (by kernel_rfl) trivial) ?_
    refine k_ret ?_
    obtain rfl := Option.some.inj h
    exact e_ret (ls := [(.ov false [.sl (some 53) (x2.map (eF eI))], 4)]) (by kernel_rfl) rfl (by kernel_rfl) rfl
  · refine k_sreg (r_go [(0, .d false [.sl none (a0.map (eF eI))]), (5, .d false [.sl none (v1.map eI)]), (6, .ov false [.sl (some 53) (([v1]).map (eF eI))]), (15, .p (.int .i64 a1)), (16, .p (.int .i64 0))] [] [] (by kernel_rfl) trivial) ?_
    refine k_block ?_
    obtain ⟨y4, hl_x3, hk_x3⟩ := bind_some' h
    clear h
    refine k_loop (J := fun (x : ((List Int) × (List (List Int)) × Int)) => [(0, .d false [.sl none (a0.map (eF eI))]), (5, .d false [.sl none (x.1.map eI)]), (6, .ov false [.sl (some 53) (x.2.1.map (eF eI))]), (15, .p (.int .i64 a1)), (16, .p (.int .i64 x.2.2))]) hl_x3 (wk_of (by kernel_rfl) (by kernel_rfl)) (fun x3 o_x3 h hy_x3 => ?_)
    unfold impl_walkVectors_b1 at h
    refine k_sreg (r_go [(0, .d false [.sl none (a0.map (eF eI))]), (5, .d false [.sl none (x3.1.map eI)]), (6, .ov false [.sl (some 53) (x3.2.1.map (eF eI))]), (15, .p (.int .i64 a1)), (16, .p (.int .i64 x3.2.2)), (17, .p (.bool (decide (x3.2.2 < a1))))] [] [] (by kernel_rfl) trivial) ?_
    refine k_seq ?_
    refine k_cond (b := (decide (x3.2.2 < a1))) (by kernel_rfl) (fun hc5_4 => ?_) (fun hc5_4 => ?_)
    · replace h := ite_t hc5_4 h
      refine k_skip ?_
      refine q_n ?_
      refine k_join (J := fun (x : ((List Int) × (List (List Int)))) => [(0, .d false [.sl none (a0.map (eF eI))]), (5, .d false [.sl none (x.1.map eI)]), (6, .ov false [.sl (some 53) (x.2.map (eF eI))]), (15, .p (.int .i64 a1)), (16, .p (.int .i64 x3.2.2))]) (K := fun x => impl_walkVectors_k2 x3 x = some o_x3) (fun x6 h => ?_) ?_
      · unfold impl_walkVectors_k2 at h
        refine k_reg (r_go [(0, .d false [.sl none (a0.map (eF eI))]), (5, .d false [.sl none (x6.1.map eI)]), (6, .ov false [.sl (some 53) (x6.2.map (eF eI))]), (15, .p (.int .i64 a1)), (16, .p (.int .i64 (w64 (x3.2.2 + 1))))] [] [] (by kernel_rfl) trivial) ?_
        exact lq_n (x6.1, x6.2, (w64 (x3.2.2 + 1))) (Option.some.inj h).symm (wk_of (by kernel_rfl) (by kernel_rfl))
      · refine k_block ?_
        replace h := bind_some' h
        obtain ⟨v7, hv7, h⟩ := h
        refine k_sreg (r_go [(0, .d false [.sl none (a0.map (eF eI))]), (5, .d false [.sl none (x3.1.map eI)]), (6, .ov false [.sl (some 53) (x3.2.1.map (eF eI))]), (7, .ov false [.sl (some 3) (v7.map eI)]), (15, .p (.int .i64 a1)), (16, .p (.int .i64 x3.2.2))] [(2, {call := some ([.d false [.sl none (a0.map (eF eI))], .d false [.sl none (x3.1.map eI)]], [.ov false [.sl (some 3) (v7.map eI)]], true)})] [([.d false [.sl none (a0.map (eF eI))], .d false [.sl none (x3.1.map eI)]] : List Arg) = [.d false [.sl none (a0.map (eF eI))], .d false [.sl none (x3.1.map eI)]], Meets Try.prog 114 ([.d false [.sl none (a0.map (eF eI))], .d false [.sl none (x3.1.map eI)]] ++ []) { vals := [.ov false [.sl (some 3) (v7.map eI)]] }, (!true || List.all [.ov false [.sl (some 3) (v7.map eI)]] simpleR) = true] (by kernel_rfl) ⟨rfl, (wk_impl_times hv7), (bt (sa_o (wnR1 (wnL_enc wn_I) rfl) rfl)), trivial⟩) ?_
        refine k_join (J := fun (x : (List Int)) => [(0, .d false [.sl none (a0.map (eF eI))]), (6, .ov false [.sl (some 53) (x3.2.1.map (eF eI))]), (7, .ov false [.sl (some 3) (x.map eI)]), (15, .p (.int .i64 a1)), (16, .p (.int .i64 x3.2.2))]) (K := fun x => impl_walkVectors_k3 x3 x = some o_x3) (fun x8 h => ?_) ?_
        · unfold impl_walkVectors_k3 at h
          refine k_seq ?_
          replace h := bind_some' h
          obtain ⟨v9, hv9, h⟩ := h
          refine k_sreg (r_go [(0, .d false [.sl none (a0.map (eF eI))]), (6, .ov false [.sl (some 53) (x3.2.1.map (eF eI))]), (7, .ov false [.sl (some 3) (x8.map eI)]), (15, .p (.int .i64 a1)), (16, .p (.int .i64 x3.2.2)), (39, .p (.bool (!v9)))] [(1, {call := some ([.d false [.sl none (x8.map eI)]], [.p (.bool v9)], true)})] [([.d false [.sl none (eraL (x8.map eI))]] : List Arg) = [.d false [.sl none (x8.map eI)]], Meets Try.prog 113 ([.d false [.sl none (x8.map eI)]] ++ []) { vals := [.p (.bool v9)] }, (!true || List.all [.p (.bool v9)] simpleR) = true] (by kernel_rfl) ⟨(by simp only [eraL_enc (h := eI) er_I]), (wk_impl_isVector hv9), (bt rfl), trivial⟩) ?_
          refine k_cond (b := (!v9)) (by kernel_rfl) (fun hc7_9 => ?_) (fun hc7_9 => ?_)
          · replace h := ite_t hc7_9 h
            refine k_exit ?_
            refine q_x ?_
            refine b_y rfl ?_
            refine q_x ?_
            refine lq_x ?_
            refine b_x ?_
            have hyy := hy_x3 _ (Option.some.inj h).symm
            subst hyy
            have h := hk_x3
            refine q_n ?_
            exact ⟨x3.2.1, h, (wk_of (by kernel_rfl) (by kernel_rfl))⟩
          · replace h := ite_f hc7_9 h
            refine k_skip ?_
            refine q_n ?_
            replace h := bind_some' h
            obtain ⟨u11, hu11, h⟩ := h
            refine k_sreg (r_go [(0, .d false [.sl none (a0.map (eF eI))]), (6, .ov false [.sl (some 53) ((x3.2.1 ++ [x8]).map (eF eI))]), (7, .d false [.sl none (x8.map eI)]), (15, .p (.int .i64 a1)), (16, .p (.int .i64 x3.2.2))] [(1, {pre := some (7, .d false [.sl none (x8.map eI)])}), (3, {fix := some (43, .ov false [.sl (some 53) ((x3.2.1 ++ [x8]).map (eF eI))])})] [(SV.d false (eraR [.sl (some 3) (x8.map eI)]) : SV) = .d false [.sl none (x8.map eI)], List.length ((x3.2.1.map (eF eI)) : List (List C)) + List.length ((([x8]).map (eF eI)) : List (List C)) ≤ 1099511627776, ∀ row ∈ ((([x8]).map (eF eI)) : List (List C)), row.length = 1, (SV.ov false [.sl (some 53) ((x3.2.1.map (eF eI)) ++ (([x8]).map (eF eI)))] : SV) = .ov false [.sl (some 53) ((x3.2.1 ++ [x8]).map (eF eI))]] (by kernel_rfl) ⟨(congrArg (fun z => SV.d false z) (erc_sl (eraL_enc er_I) rfl)), (by have hg := (guardO_some hu11); simpa using hg), (rows_len fun _ => rfl), (congrArg (fun z => SV.ov false [.sl (some 53) z]) (List.map_append ..).symm), trivial⟩) ?_
            refine k_reg (r_go [(0, .d false [.sl none (a0.map (eF eI))]), (5, .d false [.sl none (x8.map eI)]), (6, .ov false [.sl (some 53) ((x3.2.1 ++ [x8]).map (eF eI))]), (15, .p (.int .i64 a1)), (16, .p (.int .i64 x3.2.2))] [] [] (by kernel_rfl) trivial) ?_
            refine b_n ?_
            refine q_n ?_
            exact ⟨(x8, (x3.2.1 ++ [x8])), h, (wk_of (by kernel_rfl) (by kernel_rfl))⟩
        · refine k_sreg (r_go [(0, .d false [.sl none (a0.map (eF eI))]), (5, .d false [.sl none (x3.1.map eI)]), (6, .ov false [.sl (some 53) (x3.2.1.map (eF eI))]), (7, .ov false [.sl (some 3) (v7.map eI)]), (15, .p (.int .i64 a1)), (16, .p (.int .i64 x3.2.2)), (22, .p (.int .i64 (v7.length : Int))), (23, .p (.int .i64 0))] [(1, {n := some v7.length})] [(v7.map eI).length = v7.length] (by kernel_rfl) ⟨(List.length_map ..), trivial⟩) ?_
          refine k_block ?_
          obtain ⟨y13, hl_x12, hk_x12⟩ := bind_some' h
          clear h
          refine k_loop (J := fun (x : ((List Int) × Int)) => [(0, .d false [.sl none (a0.map (eF eI))]), (5, .d false [.sl none (x3.1.map eI)]), (6, .ov false [.sl (some 53) (x3.2.1.map (eF eI))]), (7, .ov false [.sl (some 3) (x.1.map eI)]), (15, .p (.int .i64 a1)), (16, .p (.int .i64 x3.2.2)), (22, .p (.int .i64 (v7.length : Int))), (23, .p (.int .i64 x.2))]) hl_x12 (wk_of (by kernel_rfl) (by kernel_rfl)) (fun x12 o_x12 h hy_x12 => ?_)
          unfold impl_walkVectors_b2 at h
          refine k_sreg (r_go [(0, .d false [.sl none (a0.map (eF eI))]), (5, .d false [.sl none (x3.1.map eI)]), (6, .ov false [.sl (some 53) (x3.2.1.map (eF eI))]), (7, .ov false [.sl (some 3) (x12.1.map eI)]), (15, .p (.int .i64 a1)), (16, .p (.int .i64 x3.2.2)), (22, .p (.int .i64 (v7.length : Int))), (23, .p (.int .i64 x12.2)), (24, .p (.bool (decide (x12.2 < (v7.length : Int)))))] [] [] (by kernel_rfl) trivial) ?_
          refine k_seq ?_
          refine k_cond (b := (decide (x12.2 < (v7.length : Int)))) (by kernel_rfl) (fun hc10_13 => ?_) (fun hc10_13 => ?_)
          · replace h := ite_t hc10_13 h
            refine k_skip ?_
            refine q_n ?_
            refine k_seq ?_
            refine k_block ?_
            refine k_sreg (r_go [(0, .d false [.sl none (a0.map (eF eI))]), (5, .d false [.sl none (x3.1.map eI)]), (6, .ov false [.sl (some 53) (x3.2.1.map (eF eI))]), (7, .ov false [.sl (some 3) (x12.1.map eI)]), (8, .p (.int .i64 x12.2)), (15, .p (.int .i64 a1)), (16, .p (.int .i64 x3.2.2)), (22, .p (.int .i64 (v7.length : Int))), (23, .p (.int .i64 x12.2))] [] [] (by kernel_rfl) trivial) ?_
            replace h := bind_some' h
            obtain ⟨v15, hv15, h⟩ := h
            replace h := bind_some' h
            obtain ⟨v16, hv16, h⟩ := h
            refine k_reg (r_draw Try_mixed 8 [] [(0, .d false [.sl none (a0.map (eF eI))]), (5, .d false [.sl none (x3.1.map eI)]), (6, .ov false [.sl (some 53) (x3.2.1.map (eF eI))]), (7, .ov false [.sl (some 3) ((x12.1.set (Int.toNat x12.2) (w64 (v15 + v16))).map eI)]), (15, .p (.int .i64 a1)), (16, .p (.int .i64 x3.2.2)), (22, .p (.int .i64 (v7.length : Int))), (23, .p (.int .i64 x12.2))] [(2, {row := some [.raw (.int .i64 v15)]}), (3, {row := some [.raw (.int .i64 v15)]}), (6, {row := some [.raw (.int .i64 v16)]}), (9, {row := some [.raw (.int .i64 v15)]}), (10, {row := some [.raw (.int .i64 v15)], fix := some (7, .ov false [.sl (some 3) ((x12.1.set (Int.toNat x12.2) (w64 (v15 + v16))).map eI)])})] [0 ≤ x12.2, (x12.1.map eI)[(Int.toNat x12.2)]? = some [.raw (.int .i64 v15)], getRow [[.sl (some 3) (x12.1.map eI)]] [(0, 0), ((Int.toNat x12.2), 0)] = some [.raw (.int .i64 v15)], 0 ≤ x12.2, (x3.1.map eI)[(Int.toNat x12.2)]? = some [.raw (.int .i64 v16)], 0 ≤ x12.2, (x12.1.map eI)[(Int.toNat x12.2)]? = some [.raw (.int .i64 v15)], getRow [[.sl (some 3) (x12.1.map eI)]] [(0, 0), ((Int.toNat x12.2), 0)] = some [.raw (.int .i64 v15)], (SV.ov false [.sl (some 3) (setL (x12.1.map eI) [((Int.toNat x12.2), 0)] [.raw (.int .i64 (w64 (v15 + v16)))])] : SV) = .ov false [.sl (some 3) ((x12.1.set (Int.toNat x12.2) (w64 (v15 + v16))).map eI)]] (by kernel_rfl) ⟨(idxO_some hv15).1, (map_get eI (idxO_some hv15).2), ((gr0 rfl).trans (gre (map_get eI (idxO_some hv15).2))), (idxO_some hv16).1, (map_get eI (idxO_some hv16).2), (idxO_some hv15).1, (map_get eI (idxO_some hv15).2), ((gr0 rfl).trans (gre (map_get eI (idxO_some hv15).2))), (congrArg (fun z => SV.ov false [.sl (some 3) z]) (set1 (f := eI) (y := (w64 (v15 + v16))) (idxO_some hv15).2 rfl)), trivial⟩) ?_
            refine b_n ?_
            refine q_n ?_
            refine k_reg (r_go [(0, .d false [.sl none (a0.map (eF eI))]), (5, .d false [.sl none (x3.1.map eI)]), (6, .ov false [.sl (some 53) (x3.2.1.map (eF eI))]), (7, .ov false [.sl (some 3) ((x12.1.set (Int.toNat x12.2) (w64 (v15 + v16))).map eI)]), (15, .p (.int .i64 a1)), (16, .p (.int .i64 x3.2.2)), (22, .p (.int .i64 (v7.length : Int))), (23, .p (.int .i64 (w64 (x12.2 + 1))))] [] [] (by kernel_rfl) trivial) ?_
            exact lq_n ((x12.1.set (Int.toNat x12.2) (w64 (v15 + v16))), (w64 (x12.2 + 1))) (Option.some.inj h).symm (wk_of (by kernel_rfl) (by kernel_rfl))
          · replace h := ite_f hc10_13 h
            refine k_exit ?_
            refine q_x ?_
            refine lq_x ?_
            refine b_x ?_
            have hyy := hy_x12 _ (Option.some.inj h).symm
            subst hyy
            have h := hk_x12
            refine q_n ?_
            exact ⟨x12.1, h, (wk_of (by kernel_rfl) (by kernel_rfl))⟩
    · replace h := ite_f hc5_4 h
      refine k_exit ?_
      refine q_x ?_
      refine lq_x ?_
      refine b_x ?_
      have hyy := hy_x3 _ (Option.some.inj h).symm
      subst hyy
      have h := hk_x3
      refine q_n ?_
      exact ⟨x3.2.1, h, (wk_of (by kernel_rfl) (by kernel_rfl))⟩
theorem wk_impl_WalkVector {a0 : (List (List Int))} {a1 : Int}  {r : ((List Int) × Bool)} (h : impl_WalkVector a0 a1 = some r) : Meets Try.prog 85 [.d false [.sl none (a0.map (eF eI))], .v (.int .i64 a1)] { vals := [.d false [.sl none (r.1.map eI)], .p (.bool r.2)] } := by
  refine Meets_ofL (by kernel_rfl) Try.func85 rfl (by kernel_rfl) (l0 := [(0, .d false [.sl none (a0.map (eF eI))]), (1, .p (.int .i64 a1))]) (by kernel_rfl) ?_
  unfold impl_WalkVector at h
  refine k_sreg (r_go [(0, .d false [.sl none (a0.map (eF eI))]), (1, .p (.int .i64 a1))] [(1, {pre := some (4, .d false [.sl none []])})] [(SV.d false (eraR [.sl (some 3) []]) : SV) = .d false [.sl none []]] (by kernel_rfl) ⟨(congrArg (fun z => SV.d false z) (erc_sl rfl rfl)), trivial⟩) ?_
  refine k_seq ?_
  replace h := bind_some' h
  obtain ⟨v1, hv1, h⟩ := h
  replace h := bind_some' h
  obtain ⟨w3, hw3, h⟩ := h
  refine k_sreg (l1 := [(0, .d false [.sl none (a0.map (eF eI))]), (1, .p (.int .i64 a1)), (14, .p (.bool w3))]) ?_ ?_
  · clear h
    rcases Bool.eq_false_or_eq_true (!v1) with ha0 | ha0
    · replace hw3 := ite_t ha0 hw3
      have hw3 := Option.some.inj hw3
      subst hw3
      exact (r_go [(0, .d false [.sl none (a0.map (eF eI))]), (1, .p (.int .i64 a1)), (14, .p (.bool true))] [(1, {call := some ([.d false [.sl none (a0.map (eF eI))]], [.p (.bool v1)], true)}), (4, {g := some true}), (5, {g := some true}), (6, {g := some true}), (7, {b := some true})] [([.d false [.sl none (a0.map (eF eI))]] : List Arg) = [.d false [.sl none (a0.map (eF eI))]], Meets Try.prog 79 ([.d false [.sl none (a0.map (eF eI))]] ++ []) { vals := [.p (.bool v1)] }, (!true || List.all [.p (.bool v1)] simpleR) = true, (!v1) = true, (!v1) = true, (!v1) = true, (!v1) = true] (by kernel_rfl) ⟨rfl, (wk_impl_isGraph hv1), (bt rfl), ha0, ha0, ha0, ha0, trivial⟩)
    · replace hw3 := ite_f ha0 hw3
      replace hw3 := bind_some' hw3
      obtain ⟨v2, hv2, hw3⟩ := hw3
      have hw3 := Option.some.inj hw3
      subst hw3
      exact (r_go [(0, .d false [.sl none (a0.map (eF eI))]), (1, .p (.int .i64 a1)), (14, .p (.bool (!v2)))] [(1, {call := some ([.d false [.sl none (a0.map (eF eI))]], [.p (.bool v1)], true)}), (4, {g := some false}), (5, {g := some false, call := some ([.v (.int .i64 a1), .v (.int .i64 0), .v (.int .i64 20)], [.p (.bool v2)], true)}), (6, {g := some false}), (7, {b := some false})] [([.d false [.sl none (a0.map (eF eI))]] : List Arg) = [.d false [.sl none (a0.map (eF eI))]], Meets Try.prog 79 ([.d false [.sl none (a0.map (eF eI))]] ++ []) { vals := [.p (.bool v1)] }, (!true || List.all [.p (.bool v1)] simpleR) = true, (!v1) = false, (!v1) = false, ([.v (.int .i64 a1), .v (.int .i64 0), .v (.int .i64 20)] : List Arg) = [.v (.int .i64 a1), .v (.int .i64 0), .v (.int .i64 20)], Meets Try.prog 92 ([.v (.int .i64 a1), .v (.int .i64 0), .v (.int .i64 20)] ++ []) { vals := [.p (.bool v2)] }, (!true || List.all [.p (.bool v2)] simpleR) = true, (!v1) = false, (!v1) = false] (by kernel_rfl) ⟨rfl, (wk_impl_isGraph hv1), (bt rfl), ha0, ha0, rfl, (wk_impl_within hv2), (bt rfl), ha0, ha0, trivial⟩)
  · refine k_cond (b := w3) (by kernel_rfl) (fun hc2_3 => ?_) (fun hc2_3 => ?_)
    · replace h := ite_t hc2_3 h
      refine k_sreg (r_go [(4, .d false [.sl none []]), (5, .p (.bool false))] [(1, {pre := some (4, .d false [.sl none []])})] [(SV.d false (eraR [.sl (some 3) []]) : SV) = .d false [.sl none []]] (by kernel_rfl) ⟨(congrArg (fun z => SV.d false z) (erc_sl rfl rfl)), trivial⟩) ?_
      refine k_ret ?_
      refine q_r ?_
      obtain rfl := Option.some.inj h
      exact e_ret (ls := [(.d false [.sl none []], 4), (.p (.bool false), 5)]) (by kernel_rfl) rfl (by kernel_rfl) rfl
    · replace h := ite_f hc2_3 h
      refine k_skip ?_
      refine q_n ?_
      replace h := bind_some' h
      obtain ⟨v5, hv5, h⟩ := h
      refine k_sreg (r_go [(1, .p (.int .i64 a1)), (6, .ov false [.sl (some 53) (v5.map (eF eI))])] [(2, {call := some ([.d false [.sl none (a0.map (eF eI))], .v (.int .i64 a1)], [.ov false [.sl (some 53) (v5.map (eF eI))]], false)})] [([.d false [.sl none (a0.map (eF eI))], .v (.int .i64 a1)] : List Arg) = [.d false [.sl none (a0.map (eF eI))], .v (.int .i64 a1)], Meets Try.prog 80 ([.d false [.sl none (a0.map (eF eI))], .v (.int .i64 a1)] ++ []) { vals := [.ov false [.sl (some 53) (v5.map (eF eI))]] }, (!false || List.all [.ov false [.sl (some 53) (v5.map (eF eI))]] simpleR) = true] (by kernel_rfl) ⟨rfl, (wk_impl_walkVectors hv5), rfl, trivial⟩) ?_
      refine k_seq ?_
      refine k_sreg (r_go [(1, .p (.int .i64 a1)), (6, .ov false [.sl (some 53) (v5.map (eF eI))]), (21, .p (.bool (decide ((v5.length : Int) ≤ a1))))] [(1, {n := some v5.length})] [(v5.map (eF eI)).length = v5.length] (by kernel_rfl) ⟨(List.length_map ..), trivial⟩) ?_
      refine k_cond (b := (decide ((v5.length : Int) ≤ a1))) (by kernel_rfl) (fun hc2_5 => ?_) (fun hc2_5 => ?_)
      · replace h := ite_t hc2_5 h
        refine k_sreg (r_go [(4, .d false [.sl none []]), (5, .p (.bool false))] [(1, {pre := some (4, .d false [.sl none []])})] [(SV.d false (eraR [.sl (some 3) []]) : SV) = .d false [.sl none []]] (by kernel_rfl) ⟨(congrArg (fun z => SV.d false z) (erc_sl rfl rfl)), trivial⟩) ?_
        refine k_ret ?_
        refine q_r ?_
        obtain rfl := Option.some.inj h
        exact e_ret (ls := [(.d false [.sl none []], 4), (.p (.bool false), 5)]) (by kernel_rfl) rfl (by kernel_rfl) rfl
      · replace h := ite_f hc2_5 h
        refine k_skip ?_
        refine q_n ?_
        replace h := bind_some' h
        obtain ⟨v7, hv7, h⟩ := h
        refine k_sreg (r_go [(4, .d false [.sl none (v7.map eI)]), (5, .p (.bool true))] [(2, {row := some [.sl none (v7.map eI)]}), (3, {row := some [.sl none (v7.map eI)], b := some true})] [0 ≤ a1, (v5.map (eF eI))[(Int.toNat a1)]? = some [.sl none (v7.map eI)], frR [.sl none (v7.map eI)] = true, getRow [[.sl (some 53) (v5.map (eF eI))]] [(0, 0), ((Int.toNat a1), 0)] = some [.sl none (v7.map eI)]] (by kernel_rfl) ⟨(idxO_some hv7).1, (map_get (eF eI) (idxO_some hv7).2), (frR1 (frL_enc fr_I) rfl), ((gr0 rfl).trans (gre (map_get (eF eI) (idxO_some hv7).2))), trivial⟩) ?_
        refine k_ret ?_
        obtain rfl := Option.some.inj h
        exact e_ret (ls := [(.d false [.sl none (v7.map eI)], 4), (.p (.bool true), 5)]) (by kernel_rfl) rfl (by kernel_rfl) rfl
theorem wk_impl_isVectorOf {a0 : (List (List Int))} {a1 : (List Int)}  {r : Bool} (h : impl_isVectorOf a0 a1 = some r) : Meets Try.prog 73 [.d false [.sl none (a0.map (eF eI))], .d false [.sl none (a1.map eI)]] { vals := [.p (.bool r)] } := by
  refine Meets_ofL (by kernel_rfl) Try.func73 rfl (by kernel_rfl) (l0 := [(0, .d false [.sl none (a0.map (eF eI))]), (1, .d false [.sl none (a1.map eI)])]) (by kernel_rfl) ?_
  unfold impl_isVectorOf at h
  refine k_sreg (r_go [(0, .d false [.sl none (a0.map (eF eI))]), (1, .d false [.sl none (a1.map eI)])] [] [] (by kernel_rfl) trivial) ?_
  replace h := bind_some' h
  obtain ⟨v1, hv1, h⟩ := h
  replace h := bind_some' h
  obtain ⟨w3, hw3, h⟩ := h
  refine k_sreg (l1 := [(4, .p (.bool w3))]) ?_ ?_
  · clear h
    rcases Bool.eq_false_or_eq_true v1 with ha0 | ha0
    · replace hw3 := ite_t ha0 hw3
      replace hw3 := bind_some' hw3
      obtain ⟨v2, hv2, hw3⟩ := hw3
      rcases Bool.eq_false_or_eq_true v2 with ha1 | ha1
      · replace hw3 := ite_t ha1 hw3
        have hw3 := Option.some.inj hw3
        subst hw3
        exact (r_go [(4, .p (.bool ((a0.length : Int) == (a1.length : Int))))] [(1, {call := some ([.d false [.sl none (a0.map (eF eI))]], [.p (.bool v1)], true)}), (3, {g := some true}), (4, {g := some true, call := some ([.d false [.sl none (a1.map eI)]], [.p (.bool v2)], true)}), (5, {b := some true}), (7, {g := some true}), (8, {g := some true, n := some a0.length}), (9, {g := some true}), (10, {g := some true, n := some a1.length}), (11, {g := some true}), (12, {b := some true})] [([.d false [.sl none (a0.map (eF eI))]] : List Arg) = [.d false [.sl none (a0.map (eF eI))]], Meets Try.prog 79 ([.d false [.sl none (a0.map (eF eI))]] ++ []) { vals := [.p (.bool v1)] }, (!true || List.all [.p (.bool v1)] simpleR) = true, v1 = true, v1 = true, ([.d false [.sl none (a1.map eI)]] : List Arg) = [.d false [.sl none (a1.map eI)]], Meets Try.prog 113 ([.d false [.sl none (a1.map eI)]] ++ []) { vals := [.p (.bool v2)] }, (!true || List.all [.p (.bool v2)] simpleR) = true, v1 = true, v2 = true, v2 = true, (a0.map (eF eI)).length = a0.length, v2 = true, v2 = true, (a1.map eI).length = a1.length, v2 = true, v2 = true] (by kernel_rfl) ⟨rfl, (wk_impl_isGraph hv1), (bt rfl), ha0, ha0, rfl, (wk_impl_isVector hv2), (bt rfl), ha0, ha1, ha1, (List.length_map ..), ha1, ha1, (List.length_map ..), ha1, ha1, trivial⟩)
      · replace hw3 := ite_f ha1 hw3
        have hw3 := Option.some.inj hw3
        subst hw3
        exact (r_go [(4, .p (.bool false))] [(1, {call := some ([.d false [.sl none (a0.map (eF eI))]], [.p (.bool v1)], true)}), (3, {g := some true}), (4, {g := some true, call := some ([.d false [.sl none (a1.map eI)]], [.p (.bool v2)], true)}), (5, {b := some true}), (7, {g := some false}), (8, {g := some false}), (9, {g := some false}), (10, {g := some false}), (11, {g := some false}), (12, {b := some false})] [([.d false [.sl none (a0.map (eF eI))]] : List Arg) = [.d false [.sl none (a0.map (eF eI))]], Meets Try.prog 79 ([.d false [.sl none (a0.map (eF eI))]] ++ []) { vals := [.p (.bool v1)] }, (!true || List.all [.p (.bool v1)] simpleR) = true, v1 = true, v1 = true, ([.d false [.sl none (a1.map eI)]] : List Arg) = [.d false [.sl none (a1.map eI)]], Meets Try.prog 113 ([.d false [.sl none (a1.map eI)]] ++ []) { vals := [.p (.bool v2)] }, (!true || List.all [.p (.bool v2)] simpleR) = true, v1 = true, v2 = false, v2 = false, v2 = false, v2 = false, v2 = false, v2 = false] (by kernel_rfl) ⟨rfl, (wk_impl_isGraph hv1), (bt rfl), ha0, ha0, rfl, (wk_impl_isVector hv2), (bt rfl), ha0, ha1, ha1, ha1, ha1, ha1, ha1, trivial⟩)
    · replace hw3 := ite_f ha0 hw3
      have hw3 := Option.some.inj hw3
      subst hw3
      exact (r_go [(4, .p (.bool false))] [(1, {call := some ([.d false [.sl none (a0.map (eF eI))]], [.p (.bool v1)], true)}), (3, {g := some false}), (4, {g := some false}), (5, {b := some false}), (7, {g := some false}), (8, {g := some false}), (9, {g := some false}), (10, {g := some false}), (11, {g := some false}), (12, {b := some false})] [([.d false [.sl none (a0.map (eF eI))]] : List Arg) = [.d false [.sl none (a0.map (eF eI))]], Meets Try.prog 79 ([.d false [.sl none (a0.map (eF eI))]] ++ []) { vals := [.p (.bool v1)] }, (!true || List.all [.p (.bool v1)] simpleR) = true, v1 = false, v1 = false, v1 = false, false = false, false = false, false = false, false = false, false = false, false = false] (by kernel_rfl) ⟨rfl, (wk_impl_isGraph hv1), (bt rfl), ha0, ha0, ha0, rfl, rfl, rfl, rfl, rfl, rfl, trivial⟩)
  · refine k_ret ?_
    obtain rfl := Option.some.inj h
    exact e_ret (ls := [(.p (.bool w3), 4)]) (by kernel_rfl) rfl (by kernel_rfl) rfl
theorem wk_impl_abs {a0 : Int}  {r : Int} (h : impl_abs a0 = some r) : Meets Try.prog 135 [.v (.int .i64 a0)] { vals := [.p (.int .i64 r)] } := by
  refine Meets_ofL (by kernel_rfl) Try.func135 rfl (by kernel_rfl) (l0 := [(0, .p (.int .i64 a0))]) (by kernel_rfl) ?_
  unfold impl_abs at h
  refine k_sreg (r_go [(0, .p (.int .i64 a0))] [] [] (by kernel_rfl) trivial) ?_
  refine k_seq ?_
  refine k_sreg (r_go [(0, .p (.int .i64 a0)), (4, .p (.bool (decide (a0 < 0))))] [] [] (by kernel_rfl) trivial) ?_
  refine k_cond (b := (decide (a0 < 0))) (by kernel_rfl) (fun hc2_0 => ?_) (fun hc2_0 => ?_)
  · replace h := ite_t hc2_0 h
    refine k_sreg (r_go [(2, .p (.int .i64 (w64 (0 - a0))))] [] [] (by kernel_rfl) trivial) ?_
    refine k_ret ?_
    refine q_r ?_
    obtain rfl := Option.some.inj h
    exact e_ret (ls := [(.p (.int .i64 (w64 (0 - a0))), 2)]) (by kernel_rfl) rfl (by kernel_rfl) rfl
  · replace h := ite_f hc2_0 h
    refine k_skip ?_
    refine q_n ?_
    refine k_sreg (r_go [(2, .p (.int .i64 a0))] [] [] (by kernel_rfl) trivial) ?_
    refine k_ret ?_
    obtain rfl := Option.some.inj h
    exact e_ret (ls := [(.p (.int .i64 a0), 2)]) (by kernel_rfl) rfl (by kernel_rfl) rfl
theorem wk_impl_greatestDivisor {a0 : Int} {a1 : Int}  {r : Int} (h : impl_greatestDivisor a0 a1 = some r) : Meets Try.prog 128 [.v (.int .i64 a0), .v (.int .i64 a1)] { vals := [.p (.int .i64 r)] } := by
  refine Meets_ofL (by kernel_rfl) Try.func128 rfl (by kernel_rfl) (l0 := [(0, .p (.int .i64 a0)), (1, .p (.int .i64 a1))]) (by kernel_rfl) ?_
  unfold impl_greatestDivisor at h
  refine k_sreg (r_go [(0, .p (.int .i64 a0)), (1, .p (.int .i64 a1))] [] [] (by kernel_rfl) trivial) ?_
  replace h := bind_some' h
  obtain ⟨v1, hv1, h⟩ := h
  replace h := bind_some' h
  obtain ⟨v2, hv2, h⟩ := h
  refine k_sreg (r_go [(0, .p (.int .i64 v1)), (1, .p (.int .i64 v2))] [(1, {call := some ([.v (.int .i64 a0)], [.p (.int .i64 v1)], true)}), (3, {call := some ([.v (.int .i64 a1)], [.p (.int .i64 v2)], true)})] [([.v (.int .i64 a0)] : List Arg) = [.v (.int .i64 a0)], Meets Try.prog 135 ([.v (.int .i64 a0)] ++ []) { vals := [.p (.int .i64 v1)] }, (!true || List.all [.p (.int .i64 v1)] simpleR) = true, ([.v (.int .i64 a1)] : List Arg) = [.v (.int .i64 a1)], Meets Try.prog 135 ([.v (.int .i64 a1)] ++ []) { vals := [.p (.int .i64 v2)] }, (!true || List.all [.p (.int .i64 v2)] simpleR) = true] (by kernel_rfl) ⟨rfl, (wk_impl_abs hv1), (bt rfl), rfl, (wk_impl_abs hv2), (bt rfl), trivial⟩) ?_
  refine k_join (J := fun (x : Int) => [(0, .p (.int .i64 x))]) (K := fun x => impl_greatestDivisor_k1 x = some r) (fun x3 h => ?_) ?_
  · unfold impl_greatestDivisor_k1 at h
    refine k_sreg (r_go [(4, .p (.int .i64 x3))] [] [] (by kernel_rfl) trivial) ?_
    refine k_ret ?_
    obtain rfl := Option.some.inj h
    exact e_ret (ls := [(.p (.int .i64 x3), 4)]) (by kernel_rfl) rfl (by kernel_rfl) rfl
  · refine k_block ?_
    obtain ⟨y5, hl_x4, hk_x4⟩ := bind_some' h
    clear h
    refine k_loop (J := fun (x : (Int × Int)) => [(0, .p (.int .i64 x.1)), (1, .p (.int .i64 x.2))]) hl_x4 (wk_of (by kernel_rfl) (by kernel_rfl)) (fun x4 o_x4 h hy_x4 => ?_)
    unfold impl_greatestDivisor_b1 at h
    refine k_seq ?_
    refine k_sreg (r_go [(0, .p (.int .i64 x4.1)), (1, .p (.int .i64 x4.2)), (10, .p (.bool (x4.2 != 0)))] [] [] (by kernel_rfl) trivial) ?_
    refine k_cond (b := (x4.2 != 0)) (by kernel_rfl) (fun hc5_5 => ?_) (fun hc5_5 => ?_)
    · replace h := ite_t hc5_5 h
      refine k_skip ?_
      refine q_n ?_
      refine k_block ?_
      replace h := bind_some' h
      obtain ⟨u7, hu7, h⟩ := h
      refine k_reg (r_draw Try_mixed 5 [] [(0, .p (.int .i64 x4.2)), (1, .p (.int .i64 (Int.tmod x4.1 x4.2)))] [] [x4.2 ≠ (0 : Int)] (by kernel_rfl) ⟨(guardO_some hu7), trivial⟩) ?_
      refine b_n ?_
      exact lq_n (x4.2, (Int.tmod x4.1 x4.2)) (Option.some.inj h).symm (wk_of (by kernel_rfl) (by kernel_rfl))
    · replace h := ite_f hc5_5 h
      refine k_exit ?_
      refine q_x ?_
      refine lq_x ?_
      refine b_x ?_
      have hyy := hy_x4 _ (Option.some.inj h).symm
      subst hyy
      have h := hk_x4
      refine q_n ?_
      exact ⟨x4.1, h, (wk_of (by kernel_rfl) (by kernel_rfl))⟩
theorem wk_impl_isRat {a0 : (Int × Int)}  {r : Bool} (h : impl_isRat a0 = some r) : Meets Try.prog 96 [.v (.agg #[.int .i64 a0.1, .int .i64 a0.2])] { vals := [.p (.bool r)] } := by
  refine Meets_ofL (by kernel_rfl) Try.func96 rfl (by kernel_rfl) (l0 := [(0, .p (.agg #[.int .i64 a0.1, .int .i64 a0.2]))]) (by kernel_rfl) ?_
  unfold impl_isRat at h
  refine k_sreg (r_go [(1, .box [.raw (.int .i64 a0.1), .raw (.int .i64 a0.2)])] [] [] (by kernel_rfl) trivial) ?_
  replace h := bind_some' h
  obtain ⟨v1, hv1, h⟩ := h
  replace h := bind_some' h
  obtain ⟨w4, hw4, h⟩ := h
  refine k_sreg (l1 := [(2, .p (.bool w4))]) ?_ ?_
  · clear h
    rcases Bool.eq_false_or_eq_true v1 with ha0 | ha0
    · replace hw4 := ite_t ha0 hw4
      replace hw4 := bind_some' hw4
      obtain ⟨v2, hv2, hw4⟩ := hw4
      rcases Bool.eq_false_or_eq_true v2 with ha1 | ha1
      · replace hw4 := ite_t ha1 hw4
        replace hw4 := bind_some' hw4
        obtain ⟨v3, hv3, hw4⟩ := hw4
        have hw4 := Option.some.inj hw4
        subst hw4
        exact (r_go [(2, .p (.bool (v3 == 1)))] [(2, {call := some ([.v (.int .i64 a0.2), .v (.int .i64 1), .v (.int .i64 1000000000)], [.p (.bool v1)], true)}), (4, {g := some true}), (5, {g := some true}), (6, {g := some true, call := some ([.v (.int .i64 a0.1), .v (.int .i64 (-1000000000)), .v (.int .i64 1000000000)], [.p (.bool v2)], true)}), (7, {b := some true}), (9, {g := some true}), (10, {g := some true}), (11, {g := some true}), (12, {g := some true}), (13, {g := some true, call := some ([.v (.int .i64 a0.1), .v (.int .i64 a0.2)], [.p (.int .i64 v3)], true)}), (14, {g := some true}), (15, {b := some true})] [([.v (.int .i64 a0.2), .v (.int .i64 1), .v (.int .i64 1000000000)] : List Arg) = [.v (.int .i64 a0.2), .v (.int .i64 1), .v (.int .i64 1000000000)], Meets Try.prog 92 ([.v (.int .i64 a0.2), .v (.int .i64 1), .v (.int .i64 1000000000)] ++ []) { vals := [.p (.bool v1)] }, (!true || List.all [.p (.bool v1)] simpleR) = true, v1 = true, v1 = true, v1 = true, ([.v (.int .i64 a0.1), .v (.int .i64 (-1000000000)), .v (.int .i64 1000000000)] : List Arg) = [.v (.int .i64 a0.1), .v (.int .i64 (-1000000000)), .v (.int .i64 1000000000)], Meets Try.prog 92 ([.v (.int .i64 a0.1), .v (.int .i64 (-1000000000)), .v (.int .i64 1000000000)] ++ []) { vals := [.p (.bool v2)] }, (!true || List.all [.p (.bool v2)] simpleR) = true, v1 = true, v2 = true, v2 = true, v2 = true, v2 = true, v2 = true, ([.v (.int .i64 a0.1), .v (.int .i64 a0.2)] : List Arg) = [.v (.int .i64 a0.1), .v (.int .i64 a0.2)], Meets Try.prog 128 ([.v (.int .i64 a0.1), .v (.int .i64 a0.2)] ++ []) { vals := [.p (.int .i64 v3)] }, (!true || List.all [.p (.int .i64 v3)] simpleR) = true, v2 = true, v2 = true] (by kernel_rfl) ⟨rfl, (wk_impl_within hv1), (bt rfl), ha0, ha0, ha0, rfl, (wk_impl_within hv2), (bt rfl), ha0, ha1, ha1, ha1, ha1, ha1, rfl, (wk_impl_greatestDivisor hv3), (bt rfl), ha1, ha1, trivial⟩)
      · replace hw4 := ite_f ha1 hw4
        have hw4 := Option.some.inj hw4
        subst hw4
        exact (r_go [(2, .p (.bool false))] [(2, {call := some ([.v (.int .i64 a0.2), .v (.int .i64 1), .v (.int .i64 1000000000)], [.p (.bool v1)], true)}), (4, {g := some true}), (5, {g := some true}), (6, {g := some true, call := some ([.v (.int .i64 a0.1), .v (.int .i64 (-1000000000)), .v (.int .i64 1000000000)], [.p (.bool v2)], true)}), (7, {b := some true}), (9, {g := some false}), (10, {g := some false}), (11, {g := some false}), (12, {g := some false}), (13, {g := some false}), (14, {g := some false}), (15, {b := some false})] [([.v (.int .i64 a0.2), .v (.int .i64 1), .v (.int .i64 1000000000)] : List Arg) = [.v (.int .i64 a0.2), .v (.int .i64 1), .v (.int .i64 1000000000)], Meets Try.prog 92 ([.v (.int .i64 a0.2), .v (.int .i64 1), .v (.int .i64 1000000000)] ++ []) { vals := [.p (.bool v1)] }, (!true || List.all [.p (.bool v1)] simpleR) = true, v1 = true, v1 = true, v1 = true, ([.v (.int .i64 a0.1), .v (.int .i64 (-1000000000)), .v (.int .i64 1000000000)] : List Arg) = [.v (.int .i64 a0.1), .v (.int .i64 (-1000000000)), .v (.int .i64 1000000000)], Meets Try.prog 92 ([.v (.int .i64 a0.1), .v (.int .i64 (-1000000000)), .v (.int .i64 1000000000)] ++ []) { vals := [.p (.bool v2)] }, (!true || List.all [.p (.bool v2)] simpleR) = true, v1 = true, v2 = false, v2 = false, v2 = false, v2 = false, v2 = false, v2 = false, v2 = false] (by kernel_rfl) ⟨rfl, (wk_impl_within hv1), (bt rfl), ha0, ha0, ha0, rfl, (wk_impl_within hv2), (bt rfl), ha0, ha1, ha1, ha1, ha1, ha1, ha1, ha1, trivial⟩)
    · replace hw4 := ite_f ha0 hw4
      have hw4 := Option.some.inj hw4
      subst hw4
      exact (r_go [(2, .p (.bool false))] [(2, {call := some ([.v (.int .i64 a0.2), .v (.int .i64 1), .v (.int .i64 1000000000)], [.p (.bool v1)], true)}), (4, {g := some false}), (5, {g := some false}), (6, {g := some false}), (7, {b := some false}), (9, {g := some false}), (10, {g := some false}), (11, {g := some false}), (12, {g := some false}), (13, {g := some false}), (14, {g := some false}), (15, {b := some false})] [([.v (.int .i64 a0.2), .v (.int .i64 1), .v (.int .i64 1000000000)] : List Arg) = [.v (.int .i64 a0.2), .v (.int .i64 1), .v (.int .i64 1000000000)], Meets Try.prog 92 ([.v (.int .i64 a0.2), .v (.int .i64 1), .v (.int .i64 1000000000)] ++ []) { vals := [.p (.bool v1)] }, (!true || List.all [.p (.bool v1)] simpleR) = true, v1 = false, v1 = false, v1 = false, v1 = false, false = false, false = false, false = false, false = false, false = false, false = false, false = false] (by kernel_rfl) ⟨rfl, (wk_impl_within hv1), (bt rfl), ha0, ha0, ha0, ha0, rfl, rfl, rfl, rfl, rfl, rfl, rfl, trivial⟩)
  · refine k_ret ?_
    obtain rfl := Option.some.inj h
    exact e_ret (ls := [(.p (.bool w4), 2)]) (by kernel_rfl) rfl (by kernel_rfl) rfl
theorem wk_impl_lowest {a0 : Int} {a1 : Int}  {r : ((Int × Int) × Bool)} (h : impl_lowest a0 a1 = some r) : Meets Try.prog 115 [.v (.int .i64 a0), .v (.int .i64 a1)] { vals := [.p (.agg #[.int .i64 r.1.1, .int .i64 r.1.2]), .p (.bool r.2)] } := by
  refine Meets_ofL (by kernel_rfl) Try.func115 rfl (by kernel_rfl) (l0 := [(0, .p (.int .i64 a0)), (1, .p (.int .i64 a1))]) (by kernel_rfl) ?_
  unfold impl_lowest at h
  refine k_sreg (r_go [(0, .p (.int .i64 a0)), (1, .p (.int .i64 a1)), (4, .box [.raw (.int .i64 0), .raw (.int .i64 0)])] [] [] (by kernel_rfl) trivial) ?_
  replace h := bind_some' h
  obtain ⟨v1, hv1, h⟩ := h
  refine k_sreg (r_go [(0, .p (.int .i64 a0)), (1, .p (.int .i64 a1)), (4, .box [.raw (.int .i64 0), .raw (.int .i64 0)]), (6, .p (.int .i64 v1))] [(2, {call := some ([.v (.int .i64 a0), .v (.int .i64 a1)], [.p (.int .i64 v1)], true)})] [([.v (.int .i64 a0), .v (.int .i64 a1)] : List Arg) = [.v (.int .i64 a0), .v (.int .i64 a1)], Meets Try.prog 128 ([.v (.int .i64 a0), .v (.int .i64 a1)] ++ []) { vals := [.p (.int .i64 v1)] }, (!true || List.all [.p (.int .i64 v1)] simpleR) = true] (by kernel_rfl) ⟨rfl, (wk_impl_greatestDivisor hv1), (bt rfl), trivial⟩) ?_
  refine k_join (J := fun (x : Int) => [(0, .p (.int .i64 a0)), (1, .p (.int .i64 a1)), (4, .box [.raw (.int .i64 0), .raw (.int .i64 0)]), (6, .p (.int .i64 x))]) (K := fun x => impl_lowest_k1 a0 a1 x = some r) (fun x2 h => ?_) ?_
  · unfold impl_lowest_k1 at h
    replace h := bind_some' h
    obtain ⟨u3, hu3, h⟩ := h
    refine k_sreg (r_draw Try_mixed 8 [] [(4, .box [.raw (.int .i64 0), .raw (.int .i64 0)]), (7, .box [.raw (.int .i64 (w64 (Int.tdiv a0 x2))), .raw (.int .i64 (w64 (Int.tdiv a1 x2)))])] [] [x2 ≠ (0 : Int), x2 ≠ (0 : Int)] (by kernel_rfl) ⟨(guardO_some hu3), (guardO_some hu3), trivial⟩) ?_
    refine k_seq ?_
    replace h := bind_some' h
    obtain ⟨v4, hv4, h⟩ := h
    refine k_sreg (r_go [(4, .box [.raw (.int .i64 0), .raw (.int .i64 0)]), (7, .box [.raw (.int .i64 (w64 (Int.tdiv a0 x2))), .raw (.int .i64 (w64 (Int.tdiv a1 x2)))]), (24, .p (.bool (!v4)))] [(1, {call := some ([.v (.agg #[.int .i64 (w64 (Int.tdiv a0 x2)), .int .i64 (w64 (Int.tdiv a1 x2))])], [.p (.bool v4)], true)})] [([.v (.agg #[.int .i64 (w64 (Int.tdiv a0 x2)), .int .i64 (w64 (Int.tdiv a1 x2))])] : List Arg) = [.v (.agg #[.int .i64 (w64 (Int.tdiv a0 x2)), .int .i64 (w64 (Int.tdiv a1 x2))])], Meets Try.prog 96 ([.v (.agg #[.int .i64 (w64 (Int.tdiv a0 x2)), .int .i64 (w64 (Int.tdiv a1 x2))])] ++ []) { vals := [.p (.bool v4)] }, (!true || List.all [.p (.bool v4)] simpleR) = true] (by kernel_rfl) ⟨rfl, (wk_impl_isRat hv4), (bt rfl), trivial⟩) ?_
    refine k_cond (b := (!v4)) (by kernel_rfl) (fun hc2_4 => ?_) (fun hc2_4 => ?_)
    · replace h := ite_t hc2_4 h
      refine k_sreg (r_go [(4, .box [.raw (.int .i64 0), .raw (.int .i64 0)]), (5, .p (.bool false))] [] [] (by kernel_rfl) trivial) ?_
      refine k_ret ?_
      refine q_r ?_
      obtain rfl := Option.some.inj h
      exact e_ret (ls := [(.p (.agg #[.int .i64 0, .int .i64 0]), 4), (.p (.bool false), 5)]) (by kernel_rfl) rfl (by kernel_rfl) rfl
    · replace h := ite_f hc2_4 h
      refine k_skip ?_
      refine q_n ?_
      refine k_sreg (r_go [(4, .box [.raw (.int .i64 (w64 (Int.tdiv a0 x2))), .raw (.int .i64 (w64 (Int.tdiv a1 x2)))]), (5, .p (.bool true))] [] [] (by kernel_rfl) trivial) ?_
      refine k_ret ?_
      obtain rfl := Option.some.inj h
      exact e_ret (ls := [(.p (.agg #[.int .i64 (w64 (Int.tdiv a0 x2)), .int .i64 (w64 (Int.tdiv a1 x2))]), 4), (.p (.bool true), 5)]) (by kernel_rfl) rfl (by kernel_rfl) rfl
  · refine k_sreg (r_go [(0, .p (.int .i64 a0)), (1, .p (.int .i64 a1)), (4, .box [.raw (.int .i64 0), .raw (.int .i64 0)]), (6, .p (.int .i64 v1)), (12, .p (.bool (decide (a1 < 0))))] [] [] (by kernel_rfl) trivial) ?_
    refine k_cond (b := (decide (a1 < 0))) (by kernel_rfl) (fun hc2_5 => ?_) (fun hc2_5 => ?_)
    · replace h := ite_t hc2_5 h
      refine k_reg (r_go [(0, .p (.int .i64 a0)), (1, .p (.int .i64 a1)), (4, .box [.raw (.int .i64 0), .raw (.int .i64 0)]), (6, .p (.int .i64 (w64 (0 - v1))))] [] [] (by kernel_rfl) trivial) ?_
      refine q_n ?_
      exact ⟨(w64 (0 - v1)), h, (wk_of (by kernel_rfl) (by kernel_rfl))⟩
    · replace h := ite_f hc2_5 h
      refine k_skip ?_
      refine q_n ?_
      exact ⟨v1, h, (wk_of (by kernel_rfl) (by kernel_rfl))⟩
theorem wk_slices_MinFunc_Limpl_Rat_impl_Rat_v {a0 : (List (Int × Int))} {a1 : ((Int × Int) → (Int × Int) → Option Int)} {F1 : FuncId} (hp1 : ∀ x0 x1 y, a1 x0 x1 = some y → Meets Try.prog F1 ([.v (.agg #[.int .i64 x0.1, .int .i64 x0.2]), .v (.agg #[.int .i64 x1.1, .int .i64 x1.2])] ++ []) { vals := [.p (.int .i64 y)] }) {r : (Int × Int)} (h : slices_MinFunc_Limpl_Rat_impl_Rat a0 a1 = some r) : Meets Try.prog 104 [.d false [.sl none (a0.map (eP eI eI))], .v (.func (.func F1) #[] #[])] { vals := [.p (.agg #[.int .i64 r.1, .int .i64 r.2])] } := by
  refine Meets_ofL (by kernel_rfl) Try.func104 rfl (by kernel_rfl) (l0 := [(0, .d false [.sl none (a0.map (eP eI eI))]), (1, .p (.func (.func F1) #[] #[]))]) (by kernel_rfl) ?_
  unfold slices_MinFunc_Limpl_Rat_impl_Rat at h
  refine k_sreg (r_go [(0, .d false [.sl none (a0.map (eP eI eI))]), (1, .p (.func (.func F1) #[] #[])), (4, .box [.raw (.int .i64 0), .raw (.int .i64 0)])] [] [] (by kernel_rfl) trivial) ?_
  refine k_join (J := fun (x : Unit) => [(0, .d false [.sl none (a0.map (eP eI eI))]), (1, .p (.func (.func F1) #[] #[])), (4, .box [.raw (.int .i64 0), .raw (.int .i64 0)])]) (K := fun x => slices_MinFunc_Limpl_Rat_impl_Rat_k1 a0 a1 x = some r) (fun x1 h => ?_) ?_
  · unfold slices_MinFunc_Limpl_Rat_impl_Rat_k1 at h
    replace h := bind_some' h
    obtain ⟨v2, hv2, h⟩ := h
    refine k_sreg (r_go [(0, .d false [.sl none (a0.map (eP eI eI))]), (1, .p (.func (.func F1) #[] #[])), (4, .box [.raw (.int .i64 0), .raw (.int .i64 0)]), (5, .box [.raw (.int .i64 v2.1), .raw (.int .i64 v2.2)])] [(1, {row := some [.raw (.int .i64 v2.1), .raw (.int .i64 v2.2)]})] [0 ≤ 0, (a0.map (eP eI eI))[(Int.toNat 0)]? = some [.raw (.int .i64 v2.1), .raw (.int .i64 v2.2)]] (by kernel_rfl) ⟨(idxO_some hv2).1, (map_get (eP eI eI) (idxO_some hv2).2), trivial⟩) ?_
    refine k_join (J := fun (x : (Int × Int)) => [(4, .box [.raw (.int .i64 0), .raw (.int .i64 0)]), (5, .box [.raw (.int .i64 x.1), .raw (.int .i64 x.2)])]) (K := fun x => slices_MinFunc_Limpl_Rat_impl_Rat_k2 x = some r) (fun x3 h => ?_) ?_
    · unfold slices_MinFunc_Limpl_Rat_impl_Rat_k2 at h
      refine k_sreg (r_go [(4, .box [.raw (.int .i64 x3.1), .raw (.int .i64 x3.2)])] [] [] (by kernel_rfl) trivial) ?_
      refine k_ret ?_
      obtain rfl := Option.some.inj h
      exact e_ret (ls := [(.p (.agg #[.int .i64 x3.1, .int .i64 x3.2]), 4)]) (by kernel_rfl) rfl (by kernel_rfl) rfl
    · refine k_sreg (r_go [(0, .d false [.sl none (a0.map (eP eI eI))]), (1, .p (.func (.func F1) #[] #[])), (4, .box [.raw (.int .i64 0), .raw (.int .i64 0)]), (5, .box [.raw (.int .i64 v2.1), .raw (.int .i64 v2.2)]), (6, .p (.int .i64 1))] [] [] (by kernel_rfl) trivial) ?_
      refine k_block ?_
      obtain ⟨y5, hl_x4, hk_x4⟩ := bind_some' h
      clear h
      refine k_loop (J := fun (x : (Int × Int × Int)) => [(0, .d false [.sl none (a0.map (eP eI eI))]), (1, .p (.func (.func F1) #[] #[])), (4, .box [.raw (.int .i64 0), .raw (.int .i64 0)]), (5, .box [.raw (.int .i64 x.1), .raw (.int .i64 x.2.1)]), (6, .p (.int .i64 x.2.2))]) hl_x4 (wk_of (by kernel_rfl) (by kernel_rfl)) (fun x4 o_x4 h hy_x4 => ?_)
      unfold slices_MinFunc_Limpl_Rat_impl_Rat_b1 at h
      refine k_seq ?_
      refine k_sreg (r_go [(0, .d false [.sl none (a0.map (eP eI eI))]), (1, .p (.func (.func F1) #[] #[])), (4, .box [.raw (.int .i64 0), .raw (.int .i64 0)]), (5, .box [.raw (.int .i64 x4.1), .raw (.int .i64 x4.2.1)]), (6, .p (.int .i64 x4.2.2)), (17, .p (.bool (decide (x4.2.2 < (a0.length : Int)))))] [(2, {n := some a0.length})] [(a0.map (eP eI eI)).length = a0.length] (by kernel_rfl) ⟨(List.length_map ..), trivial⟩) ?_
      refine k_cond (b := (decide (x4.2.2 < (a0.length : Int)))) (by kernel_rfl) (fun hc5_5 => ?_) (fun hc5_5 => ?_)
      · replace h := ite_t hc5_5 h
        refine k_skip ?_
        refine q_n ?_
        refine k_seq ?_
        refine k_block ?_
        replace h := bind_some' h
        obtain ⟨v7, hv7, h⟩ := h
        replace h := bind_some' h
        obtain ⟨v8, hv8, h⟩ := h
        refine k_sreg (r_draw Try_mixed 6 [] [(0, .d false [.sl none (a0.map (eP eI eI))]), (1, .p (.func (.func F1) #[] #[])), (4, .box [.raw (.int .i64 0), .raw (.int .i64 0)]), (5, .box [.raw (.int .i64 x4.1), .raw (.int .i64 x4.2.1)]), (6, .p (.int .i64 x4.2.2)), (27, .p (.bool (decide (v8 < 0))))] [(3, {row := some [.raw (.int .i64 v7.1), .raw (.int .i64 v7.2)]}), (6, {call := some ([.v (.agg #[.int .i64 v7.1, .int .i64 v7.2]), .v (.agg #[.int .i64 x4.1, .int .i64 x4.2.1])], [.p (.int .i64 v8)], true)})] [0 ≤ x4.2.2, (a0.map (eP eI eI))[(Int.toNat x4.2.2)]? = some [.raw (.int .i64 v7.1), .raw (.int .i64 v7.2)], ([.v (.agg #[.int .i64 v7.1, .int .i64 v7.2]), .v (.agg #[.int .i64 x4.1, .int .i64 x4.2.1])] : List Arg) = [.v (.agg #[.int .i64 v7.1, .int .i64 v7.2]), .v (.agg #[.int .i64 x4.1, .int .i64 x4.2.1])], Meets Try.prog F1 ([.v (.agg #[.int .i64 v7.1, .int .i64 v7.2]), .v (.agg #[.int .i64 x4.1, .int .i64 x4.2.1])] ++ []) { vals := [.p (.int .i64 v8)] }, List.all [.p (.int .i64 v8)] simpleR = true] (by kernel_rfl) ⟨(idxO_some hv7).1, (map_get (eP eI eI) (idxO_some hv7).2), rfl, (hp1 _ _ _ hv8), rfl, trivial⟩) ?_
        refine k_cond (b := (decide (v8 < 0))) (by kernel_rfl) (fun hc6_8 => ?_) (fun hc6_8 => ?_)
        · replace h := ite_t hc6_8 h
          refine k_reg (r_go [(0, .d false [.sl none (a0.map (eP eI eI))]), (1, .p (.func (.func F1) #[] #[])), (4, .box [.raw (.int .i64 0), .raw (.int .i64 0)]), (5, .box [.raw (.int .i64 v7.1), .raw (.int .i64 v7.2)]), (6, .p (.int .i64 x4.2.2))] [(2, {row := some [.raw (.int .i64 v7.1), .raw (.int .i64 v7.2)]})] [0 ≤ x4.2.2, (a0.map (eP eI eI))[(Int.toNat x4.2.2)]? = some [.raw (.int .i64 v7.1), .raw (.int .i64 v7.2)]] (by kernel_rfl) ⟨(idxO_some hv7).1, (map_get (eP eI eI) (idxO_some hv7).2), trivial⟩) ?_
          refine b_n ?_
          refine q_n ?_
          refine k_reg (r_go [(0, .d false [.sl none (a0.map (eP eI eI))]), (1, .p (.func (.func F1) #[] #[])), (4, .box [.raw (.int .i64 0), .raw (.int .i64 0)]), (5, .box [.raw (.int .i64 v7.1), .raw (.int .i64 v7.2)]), (6, .p (.int .i64 (w64 (x4.2.2 + 1))))] [] [] (by kernel_rfl) trivial) ?_
          exact lq_n (v7.1, v7.2, (w64 (x4.2.2 + 1))) (Option.some.inj h).symm (wk_of (by kernel_rfl) (by kernel_rfl))
        · replace h := ite_f hc6_8 h
          refine k_skip ?_
          refine b_n ?_
          refine q_n ?_
          refine k_reg (r_go [(0, .d false [.sl none (a0.map (eP eI eI))]), (1, .p (.func (.func F1) #[] #[])), (4, .box [.raw (.int .i64 0), .raw (.int .i64 0)]), (5, .box [.raw (.int .i64 x4.1), .raw (.int .i64 x4.2.1)]), (6, .p (.int .i64 (w64 (x4.2.2 + 1))))] [] [] (by kernel_rfl) trivial) ?_
          exact lq_n (x4.1, x4.2.1, (w64 (x4.2.2 + 1))) (Option.some.inj h).symm (wk_of (by kernel_rfl) (by kernel_rfl))
      · replace h := ite_f hc5_5 h
        refine k_exit ?_
        refine q_x ?_
        refine lq_x ?_
        refine b_x ?_
        have hyy := hy_x4 _ (Option.some.inj h).symm
        subst hyy
        have h := hk_x4
        refine q_n ?_
        exact ⟨(x4.1, x4.2.1), h, (wk_of (by kernel_rfl) (by kernel_rfl))⟩
  · refine k_sreg (r_go [(0, .d false [.sl none (a0.map (eP eI eI))]), (1, .p (.func (.func F1) #[] #[])), (4, .box [.raw (.int .i64 0), .raw (.int .i64 0)]), (9, .p (.bool (decide ((a0.length : Int) < 1))))] [(1, {n := some a0.length})] [(a0.map (eP eI eI)).length = a0.length] (by kernel_rfl) ⟨(List.length_map ..), trivial⟩) ?_
    refine k_cond (b := (decide ((a0.length : Int) < 1))) (by kernel_rfl) (fun hc2_9 => ?_) (fun hc2_9 => ?_)
    · replace h := ite_t hc2_9 h
      cases h
    · replace h := ite_f hc2_9 h
      refine k_skip ?_
      refine q_n ?_
      exact ⟨(), h, (wk_of (by kernel_rfl) (by kernel_rfl))⟩
theorem wk_impl_compare {a0 : (Int × Int)} {a1 : (Int × Int)}  {r : Int} (h : impl_compare a0 a1 = some r) : Meets Try.prog 105 [.v (.agg #[.int .i64 a0.1, .int .i64 a0.2]), .v (.agg #[.int .i64 a1.1, .int .i64 a1.2])] { vals := [.p (.int .i64 r)] } := by
  refine Meets_ofL (by kernel_rfl) Try.func105 rfl (by kernel_rfl) (l0 := [(0, .p (.agg #[.int .i64 a0.1, .int .i64 a0.2])), (1, .p (.agg #[.int .i64 a1.1, .int .i64 a1.2]))]) (by kernel_rfl) ?_
  unfold impl_compare at h
  refine k_sreg (r_go [(2, .box [.raw (.int .i64 a0.1), .raw (.int .i64 a0.2)]), (3, .box [.raw (.int .i64 a1.1), .raw (.int .i64 a1.2)])] [] [] (by kernel_rfl) trivial) ?_
  refine k_seq ?_
  refine k_sreg (r_draw Try_mixed 11 [] [(5, .p (.int .i64 (w64 (a0.1 * a1.2)))), (6, .p (.int .i64 (w64 (a1.1 * a0.2))))] [] [] (by kernel_rfl) trivial) ?_
  refine k_block ?_
  refine k_sreg (r_go [(5, .p (.int .i64 (w64 (a0.1 * a1.2)))), (6, .p (.int .i64 (w64 (a1.1 * a0.2)))), (17, .p (.bool (decide ((w64 (a0.1 * a1.2)) < (w64 (a1.1 * a0.2))))))] [] [] (by kernel_rfl) trivial) ?_
  refine k_cond (b := (decide ((w64 (a0.1 * a1.2)) < (w64 (a1.1 * a0.2))))) (by kernel_rfl) (fun hc3_0 => ?_) (fun hc3_0 => ?_)
  · replace h := ite_t hc3_0 h
    refine k_sreg (r_go [(4, .p (.int .i64 (-1)))] [] [] (by kernel_rfl) trivial) ?_
    refine k_ret ?_
    refine b_r ?_
    refine q_r ?_
    obtain rfl := Option.some.inj h
    exact e_ret (ls := [(.p (.int .i64 (-1)), 4)]) (by kernel_rfl) rfl (by kernel_rfl) rfl
  · replace h := ite_f hc3_0 h
    refine k_sreg (r_go [(21, .p (.bool (decide ((w64 (a0.1 * a1.2)) > (w64 (a1.1 * a0.2))))))] [] [] (by kernel_rfl) trivial) ?_
    refine k_cond (b := (decide ((w64 (a0.1 * a1.2)) > (w64 (a1.1 * a0.2))))) (by kernel_rfl) (fun hc3_1 => ?_) (fun hc3_1 => ?_)
    · replace h := ite_t hc3_1 h
      refine k_sreg (r_go [(4, .p (.int .i64 1))] [] [] (by kernel_rfl) trivial) ?_
      refine k_ret ?_
      refine b_r ?_
      refine q_r ?_
      obtain rfl := Option.some.inj h
      exact e_ret (ls := [(.p (.int .i64 1), 4)]) (by kernel_rfl) rfl (by kernel_rfl) rfl
    · replace h := ite_f hc3_1 h
      refine k_skip ?_
      refine b_n ?_
      refine q_n ?_
      refine k_sreg (r_go [(4, .p (.int .i64 0))] [] [] (by kernel_rfl) trivial) ?_
      refine k_ret ?_
      obtain rfl := Option.some.inj h
      exact e_ret (ls := [(.p (.int .i64 0), 4)]) (by kernel_rfl) rfl (by kernel_rfl) rfl
theorem wk_slices_MaxFunc_Limpl_Rat_impl_Rat_v {a0 : (List (Int × Int))} {a1 : ((Int × Int) → (Int × Int) → Option Int)} {F1 : FuncId} (hp1 : ∀ x0 x1 y, a1 x0 x1 = some y → Meets Try.prog F1 ([.v (.agg #[.int .i64 x0.1, .int .i64 x0.2]), .v (.agg #[.int .i64 x1.1, .int .i64 x1.2])] ++ []) { vals := [.p (.int .i64 y)] }) {r : (Int × Int)} (h : slices_MaxFunc_Limpl_Rat_impl_Rat a0 a1 = some r) : Meets Try.prog 106 [.d false [.sl none (a0.map (eP eI eI))], .v (.func (.func F1) #[] #[])] { vals := [.p (.agg #[.int .i64 r.1, .int .i64 r.2])] } := by
  refine Meets_ofL (by kernel_rfl) Try.func106 rfl (by kernel_rfl) (l0 := [(0, .d false [.sl none (a0.map (eP eI eI))]), (1, .p (.func (.func F1) #[] #[]))]) (by kernel_rfl) ?_
  unfold slices_MaxFunc_Limpl_Rat_impl_Rat at h
  refine k_sreg (r_go [(0, .d false [.sl none (a0.map (eP eI eI))]), (1, .p (.func (.func F1) #[] #[])), (4, .box [.raw (.int .i64 0), .raw (.int .i64 0)])] [] [] (by kernel_rfl) trivial) ?_
  refine k_join (J := fun (x : Unit) => [(0, .d false [.sl none (a0.map (eP eI eI))]), (1, .p (.func (.func F1) #[] #[])), (4, .box [.raw (.int .i64 0), .raw (.int .i64 0)])]) (K := fun x => slices_MaxFunc_Limpl_Rat_impl_Rat_k1 a0 a1 x = some r) (fun x1 h => ?_) ?_
  · unfold slices_MaxFunc_Limpl_Rat_impl_Rat_k1 at h
    replace h := bind_some' h
    obtain ⟨v2, hv2, h⟩ := h
    refine k_sreg (r_go [(0, .d false [.sl none (a0.map (eP eI eI))]), (1, .p (.func (.func F1) #[] #[])), (4, .box [.raw (.int .i64 0), .raw (.int .i64 0)]), (5, .box [.raw (.int .i64 v2.1), .raw (.int .i64 v2.2)])] [(1, {row := some [.raw (.int .i64 v2.1), .raw (.int .i64 v2.2)]})] [0 ≤ 0, (a0.map (eP eI eI))[(Int.toNat 0)]? = some [.raw (.int .i64 v2.1), .raw (.int .i64 v2.2)]] (by kernel_rfl) ⟨(idxO_some hv2).1, (map_get (eP eI eI) (idxO_some hv2).2), trivial⟩) ?_
    refine k_join (J := fun (x : (Int × Int)) => [(4, .box [.raw (.int .i64 0), .raw (.int .i64 0)]), (5, .box [.raw (.int .i64 x.1), .raw (.int .i64 x.2)])]) (K := fun x => slices_MaxFunc_Limpl_Rat_impl_Rat_k2 x = some r) (fun x3 h => ?_) ?_
    · unfold slices_MaxFunc_Limpl_Rat_impl_Rat_k2 at h
      refine k_sreg (r_go [(4, .box [.raw (.int .i64 x3.1), .raw (.int .i64 x3.2)])] [] [] (by kernel_rfl) trivial) ?_
      refine k_ret ?_
      obtain rfl := Option.some.inj h
      exact e_ret (ls := [(.p (.agg #[.int .i64 x3.1, .int .i64 x3.2]), 4)]) (by kernel_rfl) rfl (by kernel_rfl) rfl
    · refine k_sreg (r_go [(0, .d false [.sl none (a0.map (eP eI eI))]), (1, .p (.func (.func F1) #[] #[])), (4, .box [.raw (.int .i64 0), .raw (.int .i64 0)]), (5, .box [.raw (.int .i64 v2.1), .raw (.int .i64 v2.2)]), (6, .p (.int .i64 1))] [] [] (by kernel_rfl) trivial) ?_
      refine k_block ?_
      obtain ⟨y5, hl_x4, hk_x4⟩ := bind_some' h
      clear h
      refine k_loop (J := fun (x : (Int × Int × Int)) => [(0, .d false [.sl none (a0.map (eP eI eI))]), (1, .p (.func (.func F1) #[] #[])), (4, .box [.raw (.int .i64 0), .raw (.int .i64 0)]), (5, .box [.raw (.int .i64 x.1), .raw (.int .i64 x.2.1)]), (6, .p (.int .i64 x.2.2))]) hl_x4 (wk_of (by kernel_rfl) (by kernel_rfl)) (fun x4 o_x4 h hy_x4 => ?_)
      unfold slices_MaxFunc_Limpl_Rat_impl_Rat_b1 at h
      refine k_seq ?_
      refine k_sreg (r_go [(0, .d false [.sl none (a0.map (eP eI eI))]), (1, .p (.func (.func F1) #[] #[])), (4, .box [.raw (.int .i64 0), .raw (.int .i64 0)]), (5, .box [.raw (.int .i64 x4.1), .raw (.int .i64 x4.2.1)]), (6, .p (.int .i64 x4.2.2)), (17, .p (.bool (decide (x4.2.2 < (a0.length : Int)))))] [(2, {n := some a0.length})] [(a0.map (eP eI eI)).length = a0.length] (by kernel_rfl) ⟨(List.length_map ..), trivial⟩) ?_
      refine k_cond (b := (decide (x4.2.2 < (a0.length : Int)))) (by kernel_rfl) (fun hc5_5 => ?_) (fun hc5_5 => ?_)
      · replace h := ite_t hc5_5 h
        refine k_skip ?_
        refine q_n ?_
        refine k_seq ?_
        refine k_block ?_
        replace h := bind_some' h
        obtain ⟨v7, hv7, h⟩ := h
        replace h := bind_some' h
        obtain ⟨v8, hv8, h⟩ := h
        refine k_sreg (r_draw Try_mixed 6 [] [(0, .d false [.sl none (a0.map (eP eI eI))]), (1, .p (.func (.func F1) #[] #[])), (4, .box [.raw (.int .i64 0), .raw (.int .i64 0)]), (5, .box [.raw (.int .i64 x4.1), .raw (.int .i64 x4.2.1)]), (6, .p (.int .i64 x4.2.2)), (27, .p (.bool (decide (v8 > 0))))] [(3, {row := some [.raw (.int .i64 v7.1), .raw (.int .i64 v7.2)]}), (6, {call := some ([.v (.agg #[.int .i64 v7.1, .int .i64 v7.2]), .v (.agg #[.int .i64 x4.1, .int .i64 x4.2.1])], [.p (.int .i64 v8)], true)})] [0 ≤ x4.2.2, (a0.map (eP eI eI))[(Int.toNat x4.2.2)]? = some [.raw (.int .i64 v7.1), .raw (.int .i64 v7.2)], ([.v (.agg #[.int .i64 v7.1, .int .i64 v7.2]), .v (.agg #[.int .i64 x4.1, .int .i64 x4.2.1])] : List Arg) = [.v (.agg #[.int .i64 v7.1, .int .i64 v7.2]), .v (.agg #[.int .i64 x4.1, .int .i64 x4.2.1])], Meets Try.prog F1 ([.v (.agg #[.int .i64 v7.1, .int .i64 v7.2]), .v (.agg #[.int .i64 x4.1, .int .i64 x4.2.1])] ++ []) { vals := [.p (.int .i64 v8)] }, List.all [.p (.int .i64 v8)] simpleR = true] (by kernel_rfl) ⟨(idxO_some hv7).1, (map_get (eP eI eI) (idxO_some hv7).2), rfl, (hp1 _ _ _ hv8), rfl, trivial⟩) ?_
        refine k_cond (b := (decide (v8 > 0))) (by kernel_rfl) (fun hc6_8 => ?_) (fun hc6_8 => ?_)
        · replace h := ite_t hc6_8 h
          refine k_reg (r_go [(0, .d false [.sl none (a0.map (eP eI eI))]), (1, .p (.func (.func F1) #[] #[])), (4, .box [.raw (.int .i64 0), .raw (.int .i64 0)]), (5, .box [.raw (.int .i64 v7.1), .raw (.int .i64 v7.2)]), (6, .p (.int .i64 x4.2.2))] [(2, {row := some [.raw (.int .i64 v7.1), .raw (.int .i64 v7.2)]})] [0 ≤ x4.2.2, (a0.map (eP eI eI))[(Int.toNat x4.2.2)]? = some [.raw (.int .i64 v7.1), .raw (.int .i64 v7.2)]] (by kernel_rfl) ⟨(idxO_some hv7).1, (map_get (eP eI eI) (idxO_some hv7).2), trivial⟩) ?_
          refine b_n ?_
          refine q_n ?_
          refine k_reg (r_go [(0, .d false [.sl none (a0.map (eP eI eI))]), (1, .p (.func (.func F1) #[] #[])), (4, .box [.raw (.int .i64 0), .raw (.int .i64 0)]), (5, .box [.raw (.int .i64 v7.1), .raw (.int .i64 v7.2)]), (6, .p (.int .i64 (w64 (x4.2.2 + 1))))] [] [] (by kernel_rfl) trivial) ?_
          exact lq_n (v7.1, v7.2, (w64 (x4.2.2 + 1))) (Option.some.inj h).symm (wk_of (by kernel_rfl) (by kernel_rfl))
        · replace h := ite_f hc6_8 h
          refine k_skip ?_
          refine b_n ?_
          refine q_n ?_
          refine k_reg (r_go [(0, .d false [.sl none (a0.map (eP eI eI))]), (1, .p (.func (.func F1) #[] #[])), (4, .box [.raw (.int .i64 0), .raw (.int .i64 0)]), (5, .box [.raw (.int .i64 x4.1), .raw (.int .i64 x4.2.1)]), (6, .p (.int .i64 (w64 (x4.2.2 + 1))))] [] [] (by kernel_rfl) trivial) ?_
          exact lq_n (x4.1, x4.2.1, (w64 (x4.2.2 + 1))) (Option.some.inj h).symm (wk_of (by kernel_rfl) (by kernel_rfl))
      · replace h := ite_f hc5_5 h
        refine k_exit ?_
        refine q_x ?_
        refine lq_x ?_
        refine b_x ?_
        have hyy := hy_x4 _ (Option.some.inj h).symm
        subst hyy
        have h := hk_x4
        refine q_n ?_
        exact ⟨(x4.1, x4.2.1), h, (wk_of (by kernel_rfl) (by kernel_rfl))⟩
  · refine k_sreg (r_go [(0, .d false [.sl none (a0.map (eP eI eI))]), (1, .p (.func (.func F1) #[] #[])), (4, .box [.raw (.int .i64 0), .raw (.int .i64 0)]), (9, .p (.bool (decide ((a0.length : Int) < 1))))] [(1, {n := some a0.length})] [(a0.map (eP eI eI)).length = a0.length] (by kernel_rfl) ⟨(List.length_map ..), trivial⟩) ?_
    refine k_cond (b := (decide ((a0.length : Int) < 1))) (by kernel_rfl) (fun hc2_9 => ?_) (fun hc2_9 => ?_)
    · replace h := ite_t hc2_9 h
      cases h
    · replace h := ite_f hc2_9 h
      refine k_skip ?_
      refine q_n ?_
      exact ⟨(), h, (wk_of (by kernel_rfl) (by kernel_rfl))⟩
theorem wk_impl_ratioBounds {a0 : (List (List Int))} {a1 : (List Int)}  {r : ((Int × Int) × (Int × Int))} (h : impl_ratioBounds a0 a1 = some r) : Meets Try.prog 75 [.d false [.sl none (a0.map (eF eI))], .d false [.sl none (a1.map eI)]] { vals := [.p (.agg #[.int .i64 r.1.1, .int .i64 r.1.2]), .p (.agg #[.int .i64 r.2.1, .int .i64 r.2.2])] } := by
  refine Meets_ofL (by kernel_rfl) Try.func75 rfl (by kernel_rfl) (l0 := [(0, .d false [.sl none (a0.map (eF eI))]), (1, .d false [.sl none (a1.map eI)])]) (by kernel_rfl) ?_
  unfold impl_ratioBounds at h
  refine k_sreg (r_go [(0, .d false [.sl none (a0.map (eF eI))]), (1, .d false [.sl none (a1.map eI)]), (4, .box [.raw (.int .i64 0), .raw (.int .i64 0)]), (5, .box [.raw (.int .i64 0), .raw (.int .i64 0)])] [] [] (by kernel_rfl) trivial) ?_
  refine k_sreg (r_go [(0, .d false [.sl none (a0.map (eF eI))]), (1, .d false [.sl none (a1.map eI)]), (4, .box [.raw (.int .i64 0), .raw (.int .i64 0)]), (5, .box [.raw (.int .i64 0), .raw (.int .i64 0)]), (6, .ov false [.sl (some 44) []])] [] [] (by kernel_rfl) trivial) ?_
  refine k_join (J := fun (x : (List (Int × Int))) => [(4, .box [.raw (.int .i64 0), .raw (.int .i64 0)]), (5, .box [.raw (.int .i64 0), .raw (.int .i64 0)]), (6, .ov false [.sl (some 44) (x.map (eP eI eI))])]) (K := fun x => impl_ratioBounds_k1 x = some r) (fun x1 h => ?_) ?_
  · unfold impl_ratioBounds_k1 at h
    replace h := bind_some' h
    obtain ⟨v2, hv2, h⟩ := h
    replace h := bind_some' h
    obtain ⟨v3, hv3, h⟩ := h
    refine k_sreg (r_go [(4, .box [.raw (.int .i64 v2.1), .raw (.int .i64 v2.2)]), (5, .box [.raw (.int .i64 v3.1), .raw (.int .i64 v3.2)])] [(1, {call := some ([.d false [.sl none (x1.map (eP eI eI))], .v (.func (.func 105) #[] #[])], [.p (.agg #[.int .i64 v2.1, .int .i64 v2.2])], true)}), (3, {call := some ([.d false [.sl none (x1.map (eP eI eI))], .v (.func (.func 105) #[] #[])], [.p (.agg #[.int .i64 v3.1, .int .i64 v3.2])], true)})] [([.d false [.sl none (eraL (x1.map (eP eI eI)))], .v (.func (.func 105) #[] #[])] : List Arg) = [.d false [.sl none (x1.map (eP eI eI))], .v (.func (.func 105) #[] #[])], Meets Try.prog 104 ([.d false [.sl none (x1.map (eP eI eI))], .v (.func (.func 105) #[] #[])] ++ []) { vals := [.p (.agg #[.int .i64 v2.1, .int .i64 v2.2])] }, (!true || List.all [.p (.agg #[.int .i64 v2.1, .int .i64 v2.2])] simpleR) = true, ([.d false [.sl none (eraL (x1.map (eP eI eI)))], .v (.func (.func 105) #[] #[])] : List Arg) = [.d false [.sl none (x1.map (eP eI eI))], .v (.func (.func 105) #[] #[])], Meets Try.prog 106 ([.d false [.sl none (x1.map (eP eI eI))], .v (.func (.func 105) #[] #[])] ++ []) { vals := [.p (.agg #[.int .i64 v3.1, .int .i64 v3.2])] }, (!true || List.all [.p (.agg #[.int .i64 v3.1, .int .i64 v3.2])] simpleR) = true] (by kernel_rfl) ⟨(by simp only [eraL_enc (h := (eP eI eI)) (era_P er_I er_I)]), (wk_slices_MinFunc_Limpl_Rat_impl_Rat_v (fun x0 x1 y hy => wk_impl_compare hy) hv2), (bt rfl), (by simp only [eraL_enc (h := (eP eI eI)) (era_P er_I er_I)]), (wk_slices_MaxFunc_Limpl_Rat_impl_Rat_v (fun x0 x1 y hy => wk_impl_compare hy) hv3), (bt rfl), trivial⟩) ?_
    refine k_ret ?_
    obtain rfl := Option.some.inj h
    exact e_ret (ls := [(.p (.agg #[.int .i64 v2.1, .int .i64 v2.2]), 4), (.p (.agg #[.int .i64 v3.1, .int .i64 v3.2]), 5)]) (by kernel_rfl) rfl (by kernel_rfl) rfl
  · replace h := bind_some' h
    obtain ⟨v4, hv4, h⟩ := h
    refine k_sreg (r_go [(1, .d false [.sl none (a1.map eI)]), (4, .box [.raw (.int .i64 0), .raw (.int .i64 0)]), (5, .box [.raw (.int .i64 0), .raw (.int .i64 0)]), (6, .ov false [.sl (some 44) []]), (13, .ov false [.sl (some 3) (v4.map eI)]), (14, .p (.int .i64 (v4.length : Int))), (15, .p (.int .i64 0))] [(2, {call := some ([.d false [.sl none (a0.map (eF eI))], .d false [.sl none (a1.map eI)]], [.ov false [.sl (some 3) (v4.map eI)]], true)}), (3, {n := some v4.length})] [([.d false [.sl none (a0.map (eF eI))], .d false [.sl none (a1.map eI)]] : List Arg) = [.d false [.sl none (a0.map (eF eI))], .d false [.sl none (a1.map eI)]], Meets Try.prog 114 ([.d false [.sl none (a0.map (eF eI))], .d false [.sl none (a1.map eI)]] ++ []) { vals := [.ov false [.sl (some 3) (v4.map eI)]] }, (!true || List.all [.ov false [.sl (some 3) (v4.map eI)]] simpleR) = true, (v4.map eI).length = v4.length] (by kernel_rfl) ⟨rfl, (wk_impl_times hv4), (bt (sa_o (wnR1 (wnL_enc wn_I) rfl) rfl)), (List.length_map ..), trivial⟩) ?_
    refine k_block ?_
    obtain ⟨y6, hl_x5, hk_x5⟩ := bind_some' h
    clear h
    refine k_loop (J := fun (x : ((List (Int × Int)) × Int)) => [(1, .d false [.sl none (a1.map eI)]), (4, .box [.raw (.int .i64 0), .raw (.int .i64 0)]), (5, .box [.raw (.int .i64 0), .raw (.int .i64 0)]), (6, .ov false [.sl (some 44) (x.1.map (eP eI eI))]), (13, .ov false [.sl (some 3) (v4.map eI)]), (14, .p (.int .i64 (v4.length : Int))), (15, .p (.int .i64 x.2))]) hl_x5 (wk_of (by kernel_rfl) (by kernel_rfl)) (fun x5 o_x5 h hy_x5 => ?_)
    unfold impl_ratioBounds_b1 at h
    refine k_sreg (r_go [(1, .d false [.sl none (a1.map eI)]), (4, .box [.raw (.int .i64 0), .raw (.int .i64 0)]), (5, .box [.raw (.int .i64 0), .raw (.int .i64 0)]), (6, .ov false [.sl (some 44) (x5.1.map (eP eI eI))]), (13, .ov false [.sl (some 3) (v4.map eI)]), (14, .p (.int .i64 (v4.length : Int))), (15, .p (.int .i64 x5.2)), (16, .p (.bool (decide (x5.2 < (v4.length : Int)))))] [] [] (by kernel_rfl) trivial) ?_
    refine k_seq ?_
    refine k_cond (b := (decide (x5.2 < (v4.length : Int)))) (by kernel_rfl) (fun hc5_6 => ?_) (fun hc5_6 => ?_)
    · replace h := ite_t hc5_6 h
      refine k_skip ?_
      refine q_n ?_
      refine k_seq ?_
      refine k_block ?_
      replace h := bind_some' h
      obtain ⟨v8, hv8, h⟩ := h
      refine k_sreg (r_go [(1, .d false [.sl none (a1.map eI)]), (4, .box [.raw (.int .i64 0), .raw (.int .i64 0)]), (5, .box [.raw (.int .i64 0), .raw (.int .i64 0)]), (6, .ov false [.sl (some 44) (x5.1.map (eP eI eI))]), (7, .p (.int .i64 x5.2)), (8, .p (.int .i64 v8)), (13, .ov false [.sl (some 3) (v4.map eI)]), (14, .p (.int .i64 (v4.length : Int))), (15, .p (.int .i64 x5.2))] [(1, {row := some [.raw (.int .i64 v8)]}), (2, {row := some [.raw (.int .i64 v8)]})] [0 ≤ x5.2, (v4.map eI)[(Int.toNat x5.2)]? = some [.raw (.int .i64 v8)], getRow [[.sl (some 3) (v4.map eI)]] [(0, 0), ((Int.toNat x5.2), 0)] = some [.raw (.int .i64 v8)]] (by kernel_rfl) ⟨(idxO_some hv8).1, (map_get eI (idxO_some hv8).2), ((gr0 rfl).trans (gre (map_get eI (idxO_some hv8).2))), trivial⟩) ?_
      replace h := bind_some' h
      obtain ⟨v9, hv9, h⟩ := h
      replace h := bind_some' h
      obtain ⟨v10, hv10, h⟩ := h
      refine k_sreg (r_go [(1, .d false [.sl none (a1.map eI)]), (4, .box [.raw (.int .i64 0), .raw (.int .i64 0)]), (5, .box [.raw (.int .i64 0), .raw (.int .i64 0)]), (6, .ov false [.sl (some 44) (x5.1.map (eP eI eI))]), (9, .box [.raw (.int .i64 v10.1.1), .raw (.int .i64 v10.1.2)]), (13, .ov false [.sl (some 3) (v4.map eI)]), (14, .p (.int .i64 (v4.length : Int))), (15, .p (.int .i64 x5.2))] [(3, {row := some [.raw (.int .i64 v9)]}), (5, {call := some ([.v (.int .i64 v8), .v (.int .i64 v9)], [.p (.agg #[.int .i64 v10.1.1, .int .i64 v10.1.2]), .p (.bool v10.2)], true)})] [0 ≤ x5.2, (a1.map eI)[(Int.toNat x5.2)]? = some [.raw (.int .i64 v9)], ([.v (.int .i64 v8), .v (.int .i64 v9)] : List Arg) = [.v (.int .i64 v8), .v (.int .i64 v9)], Meets Try.prog 115 ([.v (.int .i64 v8), .v (.int .i64 v9)] ++ []) { vals := [.p (.agg #[.int .i64 v10.1.1, .int .i64 v10.1.2]), .p (.bool v10.2)] }, (!true || List.all [.p (.agg #[.int .i64 v10.1.1, .int .i64 v10.1.2]), .p (.bool v10.2)] simpleR) = true] (by kernel_rfl) ⟨(idxO_some hv9).1, (map_get eI (idxO_some hv9).2), rfl, (wk_impl_lowest hv10), (bt rfl), trivial⟩) ?_
      replace h := bind_some' h
      obtain ⟨u11, hu11, h⟩ := h
      refine k_reg (r_go [(1, .d false [.sl none (a1.map eI)]), (4, .box [.raw (.int .i64 0), .raw (.int .i64 0)]), (5, .box [.raw (.int .i64 0), .raw (.int .i64 0)]), (6, .ov false [.sl (some 44) ((x5.1 ++ [v10.1]).map (eP eI eI))]), (13, .ov false [.sl (some 3) (v4.map eI)]), (14, .p (.int .i64 (v4.length : Int))), (15, .p (.int .i64 x5.2))] [(3, {fix := some (32, .ov false [.sl (some 44) ((x5.1 ++ [v10.1]).map (eP eI eI))])})] [List.length ((x5.1.map (eP eI eI)) : List (List C)) + List.length ((([v10.1]).map (eP eI eI)) : List (List C)) ≤ 1099511627776, ∀ row ∈ ((([v10.1]).map (eP eI eI)) : List (List C)), row.length = 2, (SV.ov false [.sl (some 44) ((x5.1.map (eP eI eI)) ++ (([v10.1]).map (eP eI eI)))] : SV) = .ov false [.sl (some 44) ((x5.1 ++ [v10.1]).map (eP eI eI))]] (by kernel_rfl) ⟨(by have hg := (guardO_some hu11); simpa using hg), (rows_len fun _ => rfl), (congrArg (fun z => SV.ov false [.sl (some 44) z]) (List.map_append ..).symm), trivial⟩) ?_
      refine b_n ?_
      refine q_n ?_
      refine k_reg (r_go [(1, .d false [.sl none (a1.map eI)]), (4, .box [.raw (.int .i64 0), .raw (.int .i64 0)]), (5, .box [.raw (.int .i64 0), .raw (.int .i64 0)]), (6, .ov false [.sl (some 44) ((x5.1 ++ [v10.1]).map (eP eI eI))]), (13, .ov false [.sl (some 3) (v4.map eI)]), (14, .p (.int .i64 (v4.length : Int))), (15, .p (.int .i64 (w64 (x5.2 + 1))))] [] [] (by kernel_rfl) trivial) ?_
      exact lq_n ((x5.1 ++ [v10.1]), (w64 (x5.2 + 1))) (Option.some.inj h).symm (wk_of (by kernel_rfl) (by kernel_rfl))
    · replace h := ite_f hc5_6 h
      refine k_exit ?_
      refine q_x ?_
      refine lq_x ?_
      refine b_x ?_
      have hyy := hy_x5 _ (Option.some.inj h).symm
      subst hyy
      have h := hk_x5
      refine q_n ?_
      exact ⟨x5.1, h, (wk_of (by kernel_rfl) (by kernel_rfl))⟩
theorem wk_impl_RatioBounds {a0 : (List (List Int))} {a1 : (List Int)}  {r : ((Int × Int) × (Int × Int) × Bool)} (h : impl_RatioBounds a0 a1 = some r) : Meets Try.prog 86 [.d false [.sl none (a0.map (eF eI))], .d false [.sl none (a1.map eI)]] { vals := [.p (.agg #[.int .i64 r.1.1, .int .i64 r.1.2]), .p (.agg #[.int .i64 r.2.1.1, .int .i64 r.2.1.2]), .p (.bool r.2.2)] } := by
  refine Meets_ofL (by kernel_rfl) Try.func86 rfl (by kernel_rfl) (l0 := [(0, .d false [.sl none (a0.map (eF eI))]), (1, .d false [.sl none (a1.map eI)])]) (by kernel_rfl) ?_
  unfold impl_RatioBounds at h
  refine k_sreg (r_go [(0, .d false [.sl none (a0.map (eF eI))]), (1, .d false [.sl none (a1.map eI)]), (4, .box [.raw (.int .i64 0), .raw (.int .i64 0)]), (5, .box [.raw (.int .i64 0), .raw (.int .i64 0)])] [] [] (by kernel_rfl) trivial) ?_
  refine k_seq ?_
  replace h := bind_some' h
  obtain ⟨v1, hv1, h⟩ := h
  refine k_sreg (r_go [(0, .d false [.sl none (a0.map (eF eI))]), (1, .d false [.sl none (a1.map eI)]), (4, .box [.raw (.int .i64 0), .raw (.int .i64 0)]), (5, .box [.raw (.int .i64 0), .raw (.int .i64 0)]), (12, .p (.bool (!v1)))] [(2, {call := some ([.d false [.sl none (a0.map (eF eI))], .d false [.sl none (a1.map eI)]], [.p (.bool v1)], true)})] [([.d false [.sl none (a0.map (eF eI))], .d false [.sl none (a1.map eI)]] : List Arg) = [.d false [.sl none (a0.map (eF eI))], .d false [.sl none (a1.map eI)]], Meets Try.prog 73 ([.d false [.sl none (a0.map (eF eI))], .d false [.sl none (a1.map eI)]] ++ []) { vals := [.p (.bool v1)] }, (!true || List.all [.p (.bool v1)] simpleR) = true] (by kernel_rfl) ⟨rfl, (wk_impl_isVectorOf hv1), (bt rfl), trivial⟩) ?_
  refine k_cond (b := (!v1)) (by kernel_rfl) (fun hc2_1 => ?_) (fun hc2_1 => ?_)
  · replace h := ite_t hc2_1 h
    refine k_sreg (r_go [(4, .box [.raw (.int .i64 0), .raw (.int .i64 0)]), (5, .box [.raw (.int .i64 0), .raw (.int .i64 0)]), (6, .p (.bool false))] [] [] (by kernel_rfl) trivial) ?_
    refine k_ret ?_
    refine q_r ?_
    obtain rfl := Option.some.inj h
    exact e_ret (ls := [(.p (.agg #[.int .i64 0, .int .i64 0]), 4), (.p (.agg #[.int .i64 0, .int .i64 0]), 5), (.p (.bool false), 6)]) (by kernel_rfl) rfl (by kernel_rfl) rfl
  · replace h := ite_f hc2_1 h
    refine k_skip ?_
    refine q_n ?_
    replace h := bind_some' h
    obtain ⟨v3, hv3, h⟩ := h
    refine k_sreg (r_go [(4, .box [.raw (.int .i64 0), .raw (.int .i64 0)]), (5, .box [.raw (.int .i64 0), .raw (.int .i64 0)]), (7, .box [.raw (.int .i64 v3.1.1), .raw (.int .i64 v3.1.2)]), (8, .box [.raw (.int .i64 v3.2.1), .raw (.int .i64 v3.2.2)])] [(2, {call := some ([.d false [.sl none (a0.map (eF eI))], .d false [.sl none (a1.map eI)]], [.p (.agg #[.int .i64 v3.1.1, .int .i64 v3.1.2]), .p (.agg #[.int .i64 v3.2.1, .int .i64 v3.2.2])], true)})] [([.d false [.sl none (a0.map (eF eI))], .d false [.sl none (a1.map eI)]] : List Arg) = [.d false [.sl none (a0.map (eF eI))], .d false [.sl none (a1.map eI)]], Meets Try.prog 75 ([.d false [.sl none (a0.map (eF eI))], .d false [.sl none (a1.map eI)]] ++ []) { vals := [.p (.agg #[.int .i64 v3.1.1, .int .i64 v3.1.2]), .p (.agg #[.int .i64 v3.2.1, .int .i64 v3.2.2])] }, (!true || List.all [.p (.agg #[.int .i64 v3.1.1, .int .i64 v3.1.2]), .p (.agg #[.int .i64 v3.2.1, .int .i64 v3.2.2])] simpleR) = true] (by kernel_rfl) ⟨rfl, (wk_impl_ratioBounds hv3), (bt rfl), trivial⟩) ?_
    refine k_sreg (r_draw Try_mixed 3 [(2, 4)] [(4, .box [.raw (.int .i64 v3.1.1), .raw (.int .i64 v3.1.2)]), (5, .box [.raw (.int .i64 v3.2.1), .raw (.int .i64 v3.2.2)]), (6, .p (.bool true))] [] [] (by kernel_rfl) trivial) ?_
    refine k_ret ?_
    obtain rfl := Option.some.inj h
    exact e_ret (ls := [(.p (.agg #[.int .i64 v3.1.1, .int .i64 v3.1.2]), 4), (.p (.agg #[.int .i64 v3.2.1, .int .i64 v3.2.2]), 5), (.p (.bool true), 6)]) (by kernel_rfl) rfl (by kernel_rfl) rfl
theorem wk_impl_GrowthBounds {a0 : (List (List Int))} {a1 : Int}  {r : ((Int × Int) × (Int × Int) × Bool)} (h : impl_GrowthBounds a0 a1 = some r) : Meets Try.prog 47 [.d false [.sl none (a0.map (eF eI))], .v (.int .i64 a1)] { vals := [.p (.agg #[.int .i64 r.1.1, .int .i64 r.1.2]), .p (.agg #[.int .i64 r.2.1.1, .int .i64 r.2.1.2]), .p (.bool r.2.2)] } := by
  refine Meets_ofL (by kernel_rfl) Try.func47 rfl (by kernel_rfl) (l0 := [(0, .d false [.sl none (a0.map (eF eI))]), (1, .p (.int .i64 a1))]) (by kernel_rfl) ?_
  unfold impl_GrowthBounds at h
  refine k_sreg (r_go [(0, .d false [.sl none (a0.map (eF eI))]), (1, .p (.int .i64 a1)), (4, .box [.raw (.int .i64 0), .raw (.int .i64 0)]), (5, .box [.raw (.int .i64 0), .raw (.int .i64 0)])] [] [] (by kernel_rfl) trivial) ?_
  replace h := bind_some' h
  obtain ⟨v1, hv1, h⟩ := h
  refine k_sreg (r_go [(0, .d false [.sl none (a0.map (eF eI))]), (4, .box [.raw (.int .i64 0), .raw (.int .i64 0)]), (5, .box [.raw (.int .i64 0), .raw (.int .i64 0)]), (7, .d false [.sl none (v1.1.map eI)]), (8, .p (.bool v1.2))] [(2, {call := some ([.d false [.sl none (a0.map (eF eI))], .v (.int .i64 a1)], [.d false [.sl none (v1.1.map eI)], .p (.bool v1.2)], false)})] [([.d false [.sl none (a0.map (eF eI))], .v (.int .i64 a1)] : List Arg) = [.d false [.sl none (a0.map (eF eI))], .v (.int .i64 a1)], Meets Try.prog 85 ([.d false [.sl none (a0.map (eF eI))], .v (.int .i64 a1)] ++ []) { vals := [.d false [.sl none (v1.1.map eI)], .p (.bool v1.2)] }, (!false || List.all [.d false [.sl none (v1.1.map eI)], .p (.bool v1.2)] simpleR) = true] (by kernel_rfl) ⟨rfl, (wk_impl_WalkVector hv1), rfl, trivial⟩) ?_
  refine k_seq ?_
  refine k_sreg (r_go [(0, .d false [.sl none (a0.map (eF eI))]), (4, .box [.raw (.int .i64 0), .raw (.int .i64 0)]), (5, .box [.raw (.int .i64 0), .raw (.int .i64 0)]), (7, .d false [.sl none (v1.1.map eI)]), (16, .p (.bool (!v1.2)))] [] [] (by kernel_rfl) trivial) ?_
  refine k_cond (b := (!v1.2)) (by kernel_rfl) (fun hc2_1 => ?_) (fun hc2_1 => ?_)
  · replace h := ite_t hc2_1 h
    refine k_sreg (r_go [(4, .box [.raw (.int .i64 0), .raw (.int .i64 0)]), (5, .box [.raw (.int .i64 0), .raw (.int .i64 0)]), (6, .p (.bool false))] [] [] (by kernel_rfl) trivial) ?_
    refine k_ret ?_
    refine q_r ?_
    obtain rfl := Option.some.inj h
    exact e_ret (ls := [(.p (.agg #[.int .i64 0, .int .i64 0]), 4), (.p (.agg #[.int .i64 0, .int .i64 0]), 5), (.p (.bool false), 6)]) (by kernel_rfl) rfl (by kernel_rfl) rfl
  · replace h := ite_f hc2_1 h
    refine k_skip ?_
    refine q_n ?_
    replace h := bind_some' h
    obtain ⟨v3, hv3, h⟩ := h
    refine k_sreg (r_go [(4, .box [.raw (.int .i64 v3.1.1), .raw (.int .i64 v3.1.2)]), (5, .box [.raw (.int .i64 v3.2.1.1), .raw (.int .i64 v3.2.1.2)]), (6, .p (.bool v3.2.2))] [(2, {call := some ([.d false [.sl none (a0.map (eF eI))], .d false [.sl none (v1.1.map eI)]], [.p (.agg #[.int .i64 v3.1.1, .int .i64 v3.1.2]), .p (.agg #[.int .i64 v3.2.1.1, .int .i64 v3.2.1.2]), .p (.bool v3.2.2)], true)})] [([.d false [.sl none (a0.map (eF eI))], .d false [.sl none (v1.1.map eI)]] : List Arg) = [.d false [.sl none (a0.map (eF eI))], .d false [.sl none (v1.1.map eI)]], Meets Try.prog 86 ([.d false [.sl none (a0.map (eF eI))], .d false [.sl none (v1.1.map eI)]] ++ []) { vals := [.p (.agg #[.int .i64 v3.1.1, .int .i64 v3.1.2]), .p (.agg #[.int .i64 v3.2.1.1, .int .i64 v3.2.1.2]), .p (.bool v3.2.2)] }, (!true || List.all [.p (.agg #[.int .i64 v3.1.1, .int .i64 v3.1.2]), .p (.agg #[.int .i64 v3.2.1.1, .int .i64 v3.2.1.2]), .p (.bool v3.2.2)] simpleR) = true] (by kernel_rfl) ⟨rfl, (wk_impl_RatioBounds hv3), (bt rfl), trivial⟩) ?_
    refine k_ret ?_
    obtain rfl := Option.some.inj h
    exact e_ret (ls := [(.p (.agg #[.int .i64 v3.1.1, .int .i64 v3.1.2]), 4), (.p (.agg #[.int .i64 v3.2.1.1, .int .i64 v3.2.1.2]), 5), (.p (.bool v3.2.2), 6)]) (by kernel_rfl) rfl (by kernel_rfl) rfl
theorem wk_laws_eqRat {a0 : (Int × Int)} {a1 : (Int × Int)}  {r : Bool} (h : laws_eqRat a0 a1 = some r) : Meets Try.prog 31 [.v (.agg #[.int .i64 a0.1, .int .i64 a0.2]), .v (.agg #[.int .i64 a1.1, .int .i64 a1.2])] { vals := [.p (.bool r)] } := by
  refine Meets_ofL (by kernel_rfl) Try.func31 rfl (by kernel_rfl) (l0 := [(0, .p (.agg #[.int .i64 a0.1, .int .i64 a0.2])), (1, .p (.agg #[.int .i64 a1.1, .int .i64 a1.2]))]) (by kernel_rfl) ?_
  unfold laws_eqRat at h
  refine k_sreg (r_go [(2, .box [.raw (.int .i64 a0.1), .raw (.int .i64 a0.2)]), (3, .box [.raw (.int .i64 a1.1), .raw (.int .i64 a1.2)])] [] [] (by kernel_rfl) trivial) ?_
  refine k_seq ?_
  refine k_sreg (r_go [(2, .box [.raw (.int .i64 a0.1), .raw (.int .i64 a0.2)]), (3, .box [.raw (.int .i64 a1.1), .raw (.int .i64 a1.2)]), (9, .p (.bool (a0.1 != a1.1)))] [] [] (by kernel_rfl) trivial) ?_
  refine k_cond (b := (a0.1 != a1.1)) (by kernel_rfl) (fun hc2_0 => ?_) (fun hc2_0 => ?_)
  · replace h := ite_t hc2_0 h
    refine k_sreg (r_go [(4, .p (.bool false))] [] [] (by kernel_rfl) trivial) ?_
    refine k_ret ?_
    refine q_r ?_
    obtain rfl := Option.some.inj h
    exact e_ret (ls := [(.p (.bool false), 4)]) (by kernel_rfl) rfl (by kernel_rfl) rfl
  · replace h := ite_f hc2_0 h
    refine k_skip ?_
    refine q_n ?_
    refine k_seq ?_
    refine k_sreg (r_go [(14, .p (.bool (a0.2 != a1.2)))] [] [] (by kernel_rfl) trivial) ?_
    refine k_cond (b := (a0.2 != a1.2)) (by kernel_rfl) (fun hc2_1 => ?_) (fun hc2_1 => ?_)
    · replace h := ite_t hc2_1 h
      refine k_sreg (r_go [(4, .p (.bool false))] [] [] (by kernel_rfl) trivial) ?_
      refine k_ret ?_
      refine q_r ?_
      obtain rfl := Option.some.inj h
      exact e_ret (ls := [(.p (.bool false), 4)]) (by kernel_rfl) rfl (by kernel_rfl) rfl
    · replace h := ite_f hc2_1 h
      refine k_skip ?_
      refine q_n ?_
      refine k_sreg (r_go [(4, .p (.bool true))] [] [] (by kernel_rfl) trivial) ?_
      refine k_ret ?_
      obtain rfl := Option.some.inj h
      exact e_ret (ls := [(.p (.bool true), 4)]) (by kernel_rfl) rfl (by kernel_rfl) rfl
theorem wk_laws_eqIntS {a0 : (List Int)} {a1 : (List Int)}  {r : Bool} (h : laws_eqIntS a0 a1 = some r) : Meets Try.prog 41 [.d false [.sl none (a0.map eI)], .d false [.sl none (a1.map eI)]] { vals := [.p (.bool r)] } := by
  refine Meets_ofL (by kernel_rfl) Try.func41 rfl (by kernel_rfl) (l0 := [(0, .d false [.sl none (a0.map eI)]), (1, .d false [.sl none (a1.map eI)])]) (by kernel_rfl) ?_
  unfold laws_eqIntS at h
  refine k_sreg (r_go [(0, .d false [.sl none (a0.map eI)]), (1, .d false [.sl none (a1.map eI)])] [] [] (by kernel_rfl) trivial) ?_
  refine k_seq ?_
  refine k_sreg (r_go [(0, .d false [.sl none (a0.map eI)]), (1, .d false [.sl none (a1.map eI)]), (10, .p (.bool ((a0.length : Int) != (a1.length : Int))))] [(1, {n := some a0.length}), (3, {n := some a1.length})] [(a0.map eI).length = a0.length, (a1.map eI).length = a1.length] (by kernel_rfl) ⟨(List.length_map ..), (List.length_map ..), trivial⟩) ?_
  refine k_cond (b := ((a0.length : Int) != (a1.length : Int))) (by kernel_rfl) (fun hc2_0 => ?_) (fun hc2_0 => ?_)
  · replace h := ite_t hc2_0 h
    refine k_sreg (r_go [(4, .p (.bool false))] [] [] (by kernel_rfl) trivial) ?_
    refine k_ret ?_
    refine q_r ?_
    obtain rfl := Option.some.inj h
    exact e_ret (ls := [(.p (.bool false), 4)]) (by kernel_rfl) rfl (by kernel_rfl) rfl
  · replace h := ite_f hc2_0 h
    refine k_skip ?_
    refine q_n ?_
    refine k_join (J := fun (x : Unit) => []) (K := fun x => laws_eqIntS_k1 x = some r) (fun x2 h => ?_) ?_
    · unfold laws_eqIntS_k1 at h
      refine k_sreg (r_go [(4, .p (.bool true))] [] [] (by kernel_rfl) trivial) ?_
      refine k_ret ?_
      obtain rfl := Option.some.inj h
      exact e_ret (ls := [(.p (.bool true), 4)]) (by kernel_rfl) rfl (by kernel_rfl) rfl
    · refine k_sreg (r_go [(0, .d false [.sl none (a0.map eI)]), (1, .d false [.sl none (a1.map eI)]), (5, .p (.int .i64 0))] [] [] (by kernel_rfl) trivial) ?_
      refine k_block ?_
      obtain ⟨y4, hl_x3, hk_x3⟩ := bind_some' h
      clear h
      refine k_loop (J := fun (x : Int) => [(0, .d false [.sl none (a0.map eI)]), (1, .d false [.sl none (a1.map eI)]), (5, .p (.int .i64 x))]) hl_x3 (wk_of (by kernel_rfl) (by kernel_rfl)) (fun x3 o_x3 h hy_x3 => ?_)
      unfold laws_eqIntS_b1 at h
      refine k_seq ?_
      refine k_sreg (r_go [(0, .d false [.sl none (a0.map eI)]), (1, .d false [.sl none (a1.map eI)]), (5, .p (.int .i64 x3)), (14, .p (.bool (decide (x3 < (a0.length : Int)))))] [(2, {n := some a0.length})] [(a0.map eI).length = a0.length] (by kernel_rfl) ⟨(List.length_map ..), trivial⟩) ?_
      refine k_cond (b := (decide (x3 < (a0.length : Int)))) (by kernel_rfl) (fun hc5_4 => ?_) (fun hc5_4 => ?_)
      · replace h := ite_t hc5_4 h
        refine k_skip ?_
        refine q_n ?_
        refine k_seq ?_
        refine k_block ?_
        replace h := bind_some' h
        obtain ⟨v6, hv6, h⟩ := h
        replace h := bind_some' h
        obtain ⟨v7, hv7, h⟩ := h
        refine k_sreg (r_draw Try_mixed 8 [] [(0, .d false [.sl none (a0.map eI)]), (1, .d false [.sl none (a1.map eI)]), (5, .p (.int .i64 x3)), (25, .p (.bool (v6 != v7)))] [(2, {row := some [.raw (.int .i64 v6)]}), (6, {row := some [.raw (.int .i64 v7)]})] [0 ≤ x3, (a0.map eI)[(Int.toNat x3)]? = some [.raw (.int .i64 v6)], 0 ≤ x3, (a1.map eI)[(Int.toNat x3)]? = some [.raw (.int .i64 v7)]] (by kernel_rfl) ⟨(idxO_some hv6).1, (map_get eI (idxO_some hv6).2), (idxO_some hv7).1, (map_get eI (idxO_some hv7).2), trivial⟩) ?_
        refine k_cond (b := (v6 != v7)) (by kernel_rfl) (fun hc6_7 => ?_) (fun hc6_7 => ?_)
        · replace h := ite_t hc6_7 h
          refine k_sreg (r_go [(4, .p (.bool false))] [] [] (by kernel_rfl) trivial) ?_
          refine k_ret ?_
          refine b_r ?_
          refine q_r ?_
          refine lq_r ?_
          refine b_r ?_
          refine q_r ?_
          have hyy := hy_x3 _ (Option.some.inj h).symm
          subst hyy
          have h := hk_x3
          dsimp only [Sum.elim] at h
          obtain rfl := Option.some.inj h
          exact e_ret (ls := [(.p (.bool false), 4)]) (by kernel_rfl) rfl (by kernel_rfl) rfl
        · replace h := ite_f hc6_7 h
          refine k_skip ?_
          refine b_n ?_
          refine q_n ?_
          refine k_reg (r_go [(0, .d false [.sl none (a0.map eI)]), (1, .d false [.sl none (a1.map eI)]), (5, .p (.int .i64 (w64 (x3 + 1))))] [] [] (by kernel_rfl) trivial) ?_
          exact lq_n (w64 (x3 + 1)) (Option.some.inj h).symm (wk_of (by kernel_rfl) (by kernel_rfl))
      · replace h := ite_f hc5_4 h
        refine k_exit ?_
        refine q_x ?_
        refine lq_x ?_
        refine b_x ?_
        have hyy := hy_x3 _ (Option.some.inj h).symm
        subst hyy
        have h := hk_x3
        dsimp only [Sum.elim] at h
        refine q_n ?_
        exact ⟨(), h, (wk_of (by kernel_rfl) (by kernel_rfl))⟩
theorem wk_laws_eqIntSS {a0 : (List (List Int))} {a1 : (List (List Int))}  {r : Bool} (h : laws_eqIntSS a0 a1 = some r) : Meets Try.prog 40 [.d false [.sl none (a0.map (eF eI))], .d false [.sl none (a1.map (eF eI))]] { vals := [.p (.bool r)] } := by
  refine Meets_ofL (by kernel_rfl) Try.func40 rfl (by kernel_rfl) (l0 := [(0, .d false [.sl none (a0.map (eF eI))]), (1, .d false [.sl none (a1.map (eF eI))])]) (by kernel_rfl) ?_
  unfold laws_eqIntSS at h
  refine k_sreg (r_go [(0, .d false [.sl none (a0.map (eF eI))]), (1, .d false [.sl none (a1.map (eF eI))])] [] [] (by kernel_rfl) trivial) ?_
  refine k_seq ?_
  refine k_sreg (r_go [(0, .d false [.sl none (a0.map (eF eI))]), (1, .d false [.sl none (a1.map (eF eI))]), (10, .p (.bool ((a0.length : Int) != (a1.length : Int))))] [(1, {n := some a0.length}), (3, {n := some a1.length})] [(a0.map (eF eI)).length = a0.length, (a1.map (eF eI)).length = a1.length] (by kernel_rfl) ⟨(List.length_map ..), (List.length_map ..), trivial⟩) ?_
  refine k_cond (b := ((a0.length : Int) != (a1.length : Int))) (by kernel_rfl) (fun hc2_0 => ?_) (fun hc2_0 => ?_)
  · replace h := ite_t hc2_0 h
    refine k_sreg (r_go [(4, .p (.bool false))] [] [] (by kernel_rfl) trivial) ?_
    refine k_ret ?_
    refine q_r ?_
    obtain rfl := Option.some.inj h
    exact e_ret (ls := [(.p (.bool false), 4)]) (by kernel_rfl) rfl (by kernel_rfl) rfl
  · replace h := ite_f hc2_0 h
    refine k_skip ?_
    refine q_n ?_
    refine k_join (J := fun (x : Unit) => []) (K := fun x => laws_eqIntSS_k1 x = some r) (fun x2 h => ?_) ?_
    · unfold laws_eqIntSS_k1 at h
      refine k_sreg (r_go [(4, .p (.bool true))] [] [] (by kernel_rfl) trivial) ?_
      refine k_ret ?_
      obtain rfl := Option.some.inj h
      exact e_ret (ls := [(.p (.bool true), 4)]) (by kernel_rfl) rfl (by kernel_rfl) rfl
    · refine k_sreg (r_go [(0, .d false [.sl none (a0.map (eF eI))]), (1, .d false [.sl none (a1.map (eF eI))]), (5, .p (.int .i64 0))] [] [] (by kernel_rfl) trivial) ?_
      refine k_block ?_
      obtain ⟨y4, hl_x3, hk_x3⟩ := bind_some' h
      clear h
      refine k_loop (J := fun (x : Int) => [(0, .d false [.sl none (a0.map (eF eI))]), (1, .d false [.sl none (a1.map (eF eI))]), (5, .p (.int .i64 x))]) hl_x3 (wk_of (by kernel_rfl) (by kernel_rfl)) (fun x3 o_x3 h hy_x3 => ?_)
      unfold laws_eqIntSS_b1 at h
      refine k_seq ?_
      refine k_sreg (r_go [(0, .d false [.sl none (a0.map (eF eI))]), (1, .d false [.sl none (a1.map (eF eI))]), (5, .p (.int .i64 x3)), (14, .p (.bool (decide (x3 < (a0.length : Int)))))] [(2, {n := some a0.length})] [(a0.map (eF eI)).length = a0.length] (by kernel_rfl) ⟨(List.length_map ..), trivial⟩) ?_
      refine k_cond (b := (decide (x3 < (a0.length : Int)))) (by kernel_rfl) (fun hc5_4 => ?_) (fun hc5_4 => ?_)
      · replace h := ite_t hc5_4 h
        refine k_skip ?_
        refine q_n ?_
        refine k_seq ?_
        refine k_block ?_
        replace h := bind_some' h
        obtain ⟨v6, hv6, h⟩ := h
        replace h := bind_some' h
        obtain ⟨v7, hv7, h⟩ := h
        replace h := bind_some' h
        obtain ⟨v8, hv8, h⟩ := h
        refine k_sreg (r_draw Try_mixed 8 [] [(0, .d false [.sl none (a0.map (eF eI))]), (1, .d false [.sl none (a1.map (eF eI))]), (5, .p (.int .i64 x3)), (26, .p (.bool (!v8)))] [(2, {row := some [.sl none (v6.map eI)]}), (6, {row := some [.sl none (v7.map eI)]}), (8, {call := some ([.d false [.sl none (v6.map eI)], .d false [.sl none (v7.map eI)]], [.p (.bool v8)], true)})] [0 ≤ x3, (a0.map (eF eI))[(Int.toNat x3)]? = some [.sl none (v6.map eI)], 0 ≤ x3, (a1.map (eF eI))[(Int.toNat x3)]? = some [.sl none (v7.map eI)], ([.d false [.sl none (v6.map eI)], .d false [.sl none (v7.map eI)]] : List Arg) = [.d false [.sl none (v6.map eI)], .d false [.sl none (v7.map eI)]], Meets Try.prog 41 ([.d false [.sl none (v6.map eI)], .d false [.sl none (v7.map eI)]] ++ []) { vals := [.p (.bool v8)] }, (!true || List.all [.p (.bool v8)] simpleR) = true] (by kernel_rfl) ⟨(idxO_some hv6).1, (map_get (eF eI) (idxO_some hv6).2), (idxO_some hv7).1, (map_get (eF eI) (idxO_some hv7).2), rfl, (wk_laws_eqIntS hv8), (bt rfl), trivial⟩) ?_
        refine k_cond (b := (!v8)) (by kernel_rfl) (fun hc6_8 => ?_) (fun hc6_8 => ?_)
        · replace h := ite_t hc6_8 h
          refine k_sreg (r_go [(4, .p (.bool false))] [] [] (by kernel_rfl) trivial) ?_
          refine k_ret ?_
          refine b_r ?_
          refine q_r ?_
          refine lq_r ?_
          refine b_r ?_
          refine q_r ?_
          have hyy := hy_x3 _ (Option.some.inj h).symm
          subst hyy
          have h := hk_x3
          dsimp only [Sum.elim] at h
          obtain rfl := Option.some.inj h
          exact e_ret (ls := [(.p (.bool false), 4)]) (by kernel_rfl) rfl (by kernel_rfl) rfl
        · replace h := ite_f hc6_8 h
          refine k_skip ?_
          refine b_n ?_
          refine q_n ?_
          refine k_reg (r_go [(0, .d false [.sl none (a0.map (eF eI))]), (1, .d false [.sl none (a1.map (eF eI))]), (5, .p (.int .i64 (w64 (x3 + 1))))] [] [] (by kernel_rfl) trivial) ?_
          exact lq_n (w64 (x3 + 1)) (Option.some.inj h).symm (wk_of (by kernel_rfl) (by kernel_rfl))
      · replace h := ite_f hc5_4 h
        refine k_exit ?_
        refine q_x ?_
        refine lq_x ?_
        refine b_x ?_
        have hyy := hy_x3 _ (Option.some.inj h).symm
        subst hyy
        have h := hk_x3
        dsimp only [Sum.elim] at h
        refine q_n ?_
        exact ⟨(), h, (wk_of (by kernel_rfl) (by kernel_rfl))⟩
end Go.PV

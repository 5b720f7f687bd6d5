/-
  Walks through the functions that the law reaches: each answers as its plain definition does.
  Conditions: none.
-/
import Derived.KernelRfl
import Derived.Test.YtkcfcccfonekoaaWExactEndValuesPartA
import Derived.Test.YtkcfcccfonekoaaProg
open Go Go.PV Go.Proofs
set_option linter.all false
namespace Go.PV
attribute [local irreducible] pvC pvL pvD sOp seqQ blockQ Meets MeetsB Ok OkL RegOk agree endQ seqL blockL loopQ endL endLB
theorem wk_impl_slopes {a0 : (List Qp)}  {r : (List Qr)} (h : impl_slopes a0 = some r) : Meets Try.prog 100 [.d false [.sl none (a0.map ePt)]] { vals := [.ov false [.sl (some 25) (r.map eRt)]] } := by
 refine Meets_ofL (by kernel_rfl) Try.func100 rfl (by kernel_rfl) (l0 := [(0, .d false [.sl none (a0.map ePt)])]) (by kernel_rfl) ?_
 unfold impl_slopes at h
 refine k_sreg (r_go [(0, .d false [.sl none (a0.map ePt)])] [] [] (by kernel_rfl) trivial) ?_
 refine k_sreg (r_go [(0, .d false [.sl none (a0.map ePt)]), (3, .box [.raw (.bool false)])] [] [] (by kernel_rfl) trivial) ?_
 refine k_sreg (r_go [(0, .d false [.sl none (a0.map ePt)]), (3, .box [.raw (.bool false)]), (4, .ov false [.sl (some 25) []])] [] [] (by kernel_rfl) trivial) ?_
 refine k_join (J := fun (x : (List Qr)) => [(4, .ov false [.sl (some 25) (x.map eRt)])]) (K := fun x => impl_slopes_k1 x = some r) (fun x1 h => ?_) ?_
 ·unfold impl_slopes_k1 at h
  refine k_sreg (r_go [(2, .ov false [.sl (some 25) (x1.map eRt)])] [] [] (by kernel_rfl) trivial) ?_
  refine k_ret ?_
  obtain rfl := Option.some.inj h
  exact e_ret (ls := [(.ov false [.sl (some 25) (x1.map eRt)], 2)]) (by kernel_rfl) rfl (by kernel_rfl) rfl
 ·refine k_sreg (r_go [(0, .d false [.sl none (a0.map ePt)]), (3, .box [.raw (.bool false)]), (4, .ov false [.sl (some 25) []]), (5, .p (.int .i64 1))] [] [] (by kernel_rfl) trivial) ?_
  refine k_block ?_
  obtain ⟨y3, hl_x2, hk_x2⟩ := bind_some' h
  clear h
  refine k_loop (J := fun (x : (Bool × (List Qr) × Int)) => [(0, .d false [.sl none (a0.map ePt)]), (3, .box [.raw (.bool x.1)]), (4, .ov false [.sl (some 25) (x.2.1.map eRt)]), (5, .p (.int .i64 x.2.2))]) hl_x2 (wk_of (by kernel_rfl) (by kernel_rfl)) (fun x2 o_x2 h hy_x2 => ?_)
  unfold impl_slopes_b1 at h
  refine k_seq ?_
  refine k_sreg (r_go [(0, .d false [.sl none (a0.map ePt)]), (3, .box [.raw (.bool x2.1)]), (4, .ov false [.sl (some 25) (x2.2.1.map eRt)]), (5, .p (.int .i64 x2.2.2)), (9, .p (.bool (decide (x2.2.2 < (a0.length : Int)))))] [(2, {n := some a0.length})] [(a0.map ePt).length = a0.length] (by kernel_rfl) ⟨(List.length_map ..), trivial⟩) ?_
  refine k_cond (b := (decide (x2.2.2 < (a0.length : Int)))) (by kernel_rfl) (fun hc5_3 => ?_) (fun hc5_3 => ?_)
  ·replace h := ite_t hc5_3 h
   refine k_skip ?_
   refine q_n ?_
   refine k_seq ?_
   refine k_block ?_
   replace h := bind_some' h
   obtain ⟨v5, hv5, h⟩ := h
   replace h := bind_some' h
   obtain ⟨v6, hv6, h⟩ := h
   replace h := bind_some' h
   obtain ⟨v7, hv7, h⟩ := h
   replace h := bind_some' h
   obtain ⟨u8, hu8, h⟩ := h
   refine k_reg (r_draw Try_mixed 12 [(10, 3)] [(0, .d false [.sl none (a0.map ePt)]), (3, .box [.raw (.bool v7.2)]), (4, .ov false [.sl (some 25) ((x2.2.1 ++ [v7.1]).map eRt)]), (5, .p (.int .i64 x2.2.2))] [(4, {row := some (ePt v5)}), (8, {row := some (ePt v6)}), (10, {lend := some ([.v (vPt v5), .v (vPt v6)], [.p (vRt v7.1)], .box [.raw (.bool v7.2)], true)}), (12, {fix := some (24, .ov false [.sl (some 25) ((x2.2.1 ++ [v7.1]).map eRt)])})] [0 ≤ (w64 (x2.2.2 - 1)), (a0.map ePt)[(Int.toNat (w64 (x2.2.2 - 1)))]? = some (ePt v5), 0 ≤ x2.2.2, (a0.map ePt)[(Int.toNat x2.2.2)]? = some (ePt v6), ([.v (vPt v5), .v (vPt v6)] : List Arg) = [.v (vPt v5), .v (vPt v6)], MeetsB Try.prog 125 (.box [.raw (.bool x2.1)]) [.v (vPt v5), .v (vPt v6)] [.p (vRt v7.1)] (.box [.raw (.bool v7.2)]), List.all [.p (vRt v7.1)] simpleR = true, List.length ((x2.2.1.map eRt) : List (List C)) + List.length ((([v7.1]).map eRt) : List (List C)) ≤ 1099511627776, ∀ row ∈ ((([v7.1]).map eRt) : List (List C)), row.length = 2, (SV.ov false [.sl (some 25) ((x2.2.1.map eRt) ++ (([v7.1]).map eRt))] : SV) = .ov false [.sl (some 25) ((x2.2.1 ++ [v7.1]).map eRt)]] (by kernel_rfl) ⟨(idxO_some hv5).1, (map_get ePt (idxO_some hv5).2), (idxO_some hv6).1, (map_get ePt (idxO_some hv6).2), rfl, (wk_impl_calc_slope hv7), rfl, (by have hg := (guardO_some hu8); simpa using hg), (rows_len fun _ => rfl), (congrArg (fun z => SV.ov false [.sl (some 25) z]) (List.map_append ..).symm), trivial⟩) ?_
   refine b_n ?_
   refine q_n ?_
   refine k_reg (r_go [(0, .d false [.sl none (a0.map ePt)]), (3, .box [.raw (.bool v7.2)]), (4, .ov false [.sl (some 25) ((x2.2.1 ++ [v7.1]).map eRt)]), (5, .p (.int .i64 (w64 (x2.2.2 + 1))))] [] [] (by kernel_rfl) trivial) ?_
   exact lq_n (v7.2, (x2.2.1 ++ [v7.1]), (w64 (x2.2.2 + 1))) (Option.some.inj h).symm (wk_of (by kernel_rfl) (by kernel_rfl))
  ·replace h := ite_f hc5_3 h
   refine k_exit ?_
   refine q_x ?_
   refine lq_x ?_
   refine b_x ?_
   have hyy := hy_x2 _ (Option.some.inj h).symm
   subst hyy
   have h := hk_x2
   refine q_n ?_
   exact ⟨x2.2.1, h, (wk_of (by kernel_rfl) (by kernel_rfl))⟩
theorem wk_slices_IndexFunc_Limpl_Rat_impl_Rat_v {a0 : (List Qr)} {a1 : (Qr → Option Bool)} {F1 : FuncId} (hp1 : ∀ x0 y, a1 x0 = some y → Meets Try.prog F1 ([.v (vRt x0)] ++ []) { vals := [.p (.bool y)] }) {r : Int} (h : slices_IndexFunc_Limpl_Rat_impl_Rat a0 a1 = some r) : Meets Try.prog 144 [.d false [.sl none (a0.map eRt)], .v (.func (.func F1) #[] #[])] { vals := [.p (.int .i64 r)] } := by
 refine Meets_ofL (by kernel_rfl) Try.func144 rfl (by kernel_rfl) (l0 := [(0, .d false [.sl none (a0.map eRt)]), (1, .p (.func (.func F1) #[] #[]))]) (by kernel_rfl) ?_
 unfold slices_IndexFunc_Limpl_Rat_impl_Rat at h
 refine k_sreg (r_go [(0, .d false [.sl none (a0.map eRt)]), (1, .p (.func (.func F1) #[] #[]))] [] [] (by kernel_rfl) trivial) ?_
 refine k_join (J := fun (x : Unit) => []) (K := fun x => slices_IndexFunc_Limpl_Rat_impl_Rat_k1 x = some r) (fun x1 h => ?_) ?_
 ·unfold slices_IndexFunc_Limpl_Rat_impl_Rat_k1 at h
  refine k_sreg (r_go [(4, .p (.int .i64 (-1)))] [] [] (by kernel_rfl) trivial) ?_
  refine k_ret ?_
  obtain rfl := Option.some.inj h
  exact e_ret (ls := [(.p (.int .i64 (-1)), 4)]) (by kernel_rfl) rfl (by kernel_rfl) rfl
 ·refine k_sreg (r_go [(0, .d false [.sl none (a0.map eRt)]), (1, .p (.func (.func F1) #[] #[])), (7, .p (.int .i64 (a0.length : Int))), (8, .p (.int .i64 0))] [(1, {n := some a0.length})] [(a0.map eRt).length = a0.length] (by kernel_rfl) ⟨(List.length_map ..), trivial⟩) ?_
  refine k_block ?_
  obtain ⟨y3, hl_x2, hk_x2⟩ := bind_some' h
  clear h
  refine k_loop (J := fun (x : Int) => [(0, .d false [.sl none (a0.map eRt)]), (1, .p (.func (.func F1) #[] #[])), (7, .p (.int .i64 (a0.length : Int))), (8, .p (.int .i64 x))]) hl_x2 (wk_of (by kernel_rfl) (by kernel_rfl)) (fun x2 o_x2 h hy_x2 => ?_)
  unfold slices_IndexFunc_Limpl_Rat_impl_Rat_b1 at h
  refine k_sreg (r_go [(0, .d false [.sl none (a0.map eRt)]), (1, .p (.func (.func F1) #[] #[])), (7, .p (.int .i64 (a0.length : Int))), (8, .p (.int .i64 x2)), (9, .p (.bool (decide (x2 < (a0.length : Int)))))] [] [] (by kernel_rfl) trivial) ?_
  refine k_seq ?_
  refine k_cond (b := (decide (x2 < (a0.length : Int)))) (by kernel_rfl) (fun hc5_3 => ?_) (fun hc5_3 => ?_)
  ·replace h := ite_t hc5_3 h
   refine k_skip ?_
   refine q_n ?_
   refine k_seq ?_
   refine k_block ?_
   refine k_sreg (r_go [(0, .d false [.sl none (a0.map eRt)]), (1, .p (.func (.func F1) #[] #[])), (5, .p (.int .i64 x2)), (7, .p (.int .i64 (a0.length : Int))), (8, .p (.int .i64 x2))] [] [] (by kernel_rfl) trivial) ?_
   replace h := bind_some' h
   obtain ⟨v5, hv5, h⟩ := h
   replace h := bind_some' h
   obtain ⟨v6, hv6, h⟩ := h
   refine k_sreg (r_go [(0, .d false [.sl none (a0.map eRt)]), (1, .p (.func (.func F1) #[] #[])), (5, .p (.int .i64 x2)), (7, .p (.int .i64 (a0.length : Int))), (8, .p (.int .i64 x2)), (16, .p (.bool v6))] [(3, {row := some (eRt v5)}), (5, {call := some ([.v (vRt v5)], [.p (.bool v6)], true)})] [0 ≤ x2, (a0.map eRt)[(Int.toNat x2)]? = some (eRt v5), ([.v (vRt v5)] : List Arg) = [.v (vRt v5)], Meets Try.prog F1 ([.v (vRt v5)] ++ []) { vals := [.p (.bool v6)] }, List.all [.p (.bool v6)] simpleR = true] (by kernel_rfl) ⟨(idxO_some hv5).1, (map_get eRt (idxO_some hv5).2), rfl, (hp1 _ _ hv6), rfl, trivial⟩) ?_
   refine k_cond (b := v6) (by kernel_rfl) (fun hc6_6 => ?_) (fun hc6_6 => ?_)
   ·replace h := ite_t hc6_6 h
    refine k_sreg (r_go [(4, .p (.int .i64 x2))] [] [] (by kernel_rfl) trivial) ?_
    refine k_ret ?_
    refine b_r ?_
    refine q_r ?_
    refine lq_r ?_
    refine b_r ?_
    refine q_r ?_
    have hyy := hy_x2 _ (Option.some.inj h).symm
    subst hyy
    have h := hk_x2
    dsimp only [Sum.elim] at h
    obtain rfl := Option.some.inj h
    exact e_ret (ls := [(.p (.int .i64 x2), 4)]) (by kernel_rfl) rfl (by kernel_rfl) rfl
   ·replace h := ite_f hc6_6 h
    refine k_skip ?_
    refine b_n ?_
    refine q_n ?_
    refine k_reg (r_go [(0, .d false [.sl none (a0.map eRt)]), (1, .p (.func (.func F1) #[] #[])), (7, .p (.int .i64 (a0.length : Int))), (8, .p (.int .i64 (w64 (x2 + 1))))] [] [] (by kernel_rfl) trivial) ?_
    exact lq_n (w64 (x2 + 1)) (Option.some.inj h).symm (wk_of (by kernel_rfl) (by kernel_rfl))
  ·replace h := ite_f hc5_3 h
   refine k_exit ?_
   refine q_x ?_
   refine lq_x ?_
   refine b_x ?_
   have hyy := hy_x2 _ (Option.some.inj h).symm
   subst hyy
   have h := hk_x2
   dsimp only [Sum.elim] at h
   refine q_n ?_
   exact ⟨(), h, (wk_of (by kernel_rfl) (by kernel_rfl))⟩
theorem wk_slices_ContainsFunc_Limpl_Rat_impl_Rat_v {a0 : (List Qr)} {a1 : (Qr → Option Bool)} {F1 : FuncId} (hp1 : ∀ x0 y, a1 x0 = some y → Meets Try.prog F1 ([.v (vRt x0)] ++ []) { vals := [.p (.bool y)] }) {r : Bool} (h : slices_ContainsFunc_Limpl_Rat_impl_Rat a0 a1 = some r) : Meets Try.prog 123 [.d false [.sl none (a0.map eRt)], .v (.func (.func F1) #[] #[])] { vals := [.p (.bool r)] } := by
 refine Meets_ofL (by kernel_rfl) Try.func123 rfl (by kernel_rfl) (l0 := [(0, .d false [.sl none (a0.map eRt)]), (1, .p (.func (.func F1) #[] #[]))]) (by kernel_rfl) ?_
 unfold slices_ContainsFunc_Limpl_Rat_impl_Rat at h
 refine k_sreg (r_go [(0, .d false [.sl none (a0.map eRt)]), (1, .p (.func (.func F1) #[] #[]))] [] [] (by kernel_rfl) trivial) ?_
 replace h := bind_some' h
 obtain ⟨v1, hv1, h⟩ := h
 refine k_sreg (r_go [(4, .p (.bool (decide (v1 ≥ 0))))] [(2, {call := some ([.d false [.sl none (a0.map eRt)], .v (.func (.func F1) #[] #[])], [.p (.int .i64 v1)], true)})] [([.d false [.sl none (a0.map eRt)], .v (.func (.func F1) #[] #[])] : List Arg) = [.d false [.sl none (a0.map eRt)], .v (.func (.func F1) #[] #[])], Meets Try.prog 144 ([.d false [.sl none (a0.map eRt)], .v (.func (.func F1) #[] #[])] ++ []) { vals := [.p (.int .i64 v1)] }, (!true || List.all [.p (.int .i64 v1)] simpleR) = true] (by kernel_rfl) ⟨rfl, (wk_slices_IndexFunc_Limpl_Rat_impl_Rat_v hp1 hv1), (bt rfl), trivial⟩) ?_
 refine k_ret ?_
 obtain rfl := Option.some.inj h
 exact e_ret (ls := [(.p (.bool (decide (v1 ≥ 0))), 4)]) (by kernel_rfl) rfl (by kernel_rfl) rfl
theorem wk_impl_isLapMap_1 {a0 : Qr}  {r : Bool} (h : impl_isLapMap_1 a0 = some r) : Meets Try.prog 124 [.v (vRt a0)] { vals := [.p (.bool r)] } := by
 refine Meets_ofL (by kernel_rfl) Try.func124 rfl (by kernel_rfl) (l0 := [(0, .p (vRt a0))]) (by kernel_rfl) ?_
 unfold impl_isLapMap_1 at h
 refine k_sreg (r_go [(1, .box (eRt a0))] [] [] (by kernel_rfl) trivial) ?_
 refine k_sreg (r_go [(2, .p (.bool (a0.1 == 0)))] [] [] (by kernel_rfl) trivial) ?_
 refine k_ret ?_
 obtain rfl := Option.some.inj h
 exact e_ret (ls := [(.p (.bool (a0.1 == 0)), 2)]) (by kernel_rfl) rfl (by kernel_rfl) rfl
theorem wk_impl_isLapMap {a0 : (List Qp)}  {r : Bool} (h : impl_isLapMap a0 = some r) : Meets Try.prog 98 [.d false [.sl none (a0.map ePt)]] { vals := [.p (.bool r)] } := by
 refine Meets_ofL (by kernel_rfl) Try.func98 rfl (by kernel_rfl) (l0 := [(0, .d false [.sl none (a0.map ePt)])]) (by kernel_rfl) ?_
 unfold impl_isLapMap at h
 refine k_sreg (r_go [(0, .d false [.sl none (a0.map ePt)])] [] [] (by kernel_rfl) trivial) ?_
 replace h := bind_some' h
 obtain ⟨v1, hv1, h⟩ := h
 replace h := bind_some' h
 obtain ⟨w4, hw4, h⟩ := h
 refine k_sreg (l1 := [(2, .p (.bool w4))]) ?_ ?_
 ·clear h
  rcases Bool.eq_false_or_eq_true v1 with ha0 | ha0
  ·replace hw4 := ite_t ha0 hw4
   replace hw4 := bind_some' hw4
   obtain ⟨v2, hv2, hw4⟩ := hw4
   replace hw4 := bind_some' hw4
   obtain ⟨v3, hv3, hw4⟩ := hw4
   have hw4 := Option.some.inj hw4
   subst hw4
   exact (r_go [(2, .p (.bool (!v3)))] [(1, {call := some ([.d false [.sl none (a0.map ePt)]], [.p (.bool v1)], true)}), (3, {g := some true}), (4, {g := some true, call := some ([.d false [.sl none (a0.map ePt)]], [.ov false [.sl (some 25) (v2.map eRt)]], true)}), (5, {g := some true, call := some ([.d false [.sl none (v2.map eRt)], .v (.func (.func 124) #[] #[])], [.p (.bool v3)], true)}), (6, {g := some true}), (7, {b := some true})] [([.d false [.sl none (a0.map ePt)]] : List Arg) = [.d false [.sl none (a0.map ePt)]], Meets Try.prog 53 ([.d false [.sl none (a0.map ePt)]] ++ []) { vals := [.p (.bool v1)] }, (!true || List.all [.p (.bool v1)] simpleR) = true, v1 = true, v1 = true, ([.d false [.sl none (a0.map ePt)]] : List Arg) = [.d false [.sl none (a0.map ePt)]], Meets Try.prog 100 ([.d false [.sl none (a0.map ePt)]] ++ []) { vals := [.ov false [.sl (some 25) (v2.map eRt)]] }, (!true || List.all [.ov false [.sl (some 25) (v2.map eRt)]] simpleR) = true, v1 = true, ([.d false [.sl none (eraL (v2.map eRt))], .v (.func (.func 124) #[] #[])] : List Arg) = [.d false [.sl none (v2.map eRt)], .v (.func (.func 124) #[] #[])], Meets Try.prog 123 ([.d false [.sl none (v2.map eRt)], .v (.func (.func 124) #[] #[])] ++ []) { vals := [.p (.bool v3)] }, (!true || List.all [.p (.bool v3)] simpleR) = true, v1 = true, v1 = true] (by kernel_rfl) ⟨rfl, (wk_impl_isMap hv1), (bt rfl), ha0, ha0, rfl, (wk_impl_slopes hv2), (bt (sa_o (wnR1 (wnL_enc (wn_P wn_I wn_I)) rfl) rfl)), ha0, (by simp only [eraL_enc (h := eRt) (era_P er_I er_I)]), (wk_slices_ContainsFunc_Limpl_Rat_impl_Rat_v (fun x0 y hy => wk_impl_isLapMap_1 hy) hv3), (bt rfl), ha0, ha0, trivial⟩)
  ·replace hw4 := ite_f ha0 hw4
   have hw4 := Option.some.inj hw4
   subst hw4
   exact (r_go [(2, .p (.bool false))] [(1, {call := some ([.d false [.sl none (a0.map ePt)]], [.p (.bool v1)], true)}), (3, {g := some false}), (4, {g := some false}), (5, {g := some false}), (6, {g := some false}), (7, {b := some false})] [([.d false [.sl none (a0.map ePt)]] : List Arg) = [.d false [.sl none (a0.map ePt)]], Meets Try.prog 53 ([.d false [.sl none (a0.map ePt)]] ++ []) { vals := [.p (.bool v1)] }, (!true || List.all [.p (.bool v1)] simpleR) = true, v1 = false, v1 = false, v1 = false, v1 = false, v1 = false] (by kernel_rfl) ⟨rfl, (wk_impl_isMap hv1), (bt rfl), ha0, ha0, ha0, ha0, ha0, trivial⟩)
 ·refine k_ret ?_
  obtain rfl := Option.some.inj h
  exact e_ret (ls := [(.p (.bool w4), 2)]) (by kernel_rfl) rfl (by kernel_rfl) rfl
theorem wk_impl_isStrict {a0 : (List Qp)}  {r : Bool} (h : impl_isStrict a0 = some r) : Meets Try.prog 57 [.d false [.sl none (a0.map ePt)]] { vals := [.p (.bool r)] } := by
 refine Meets_ofL (by kernel_rfl) Try.func57 rfl (by kernel_rfl) (l0 := [(0, .d false [.sl none (a0.map ePt)])]) (by kernel_rfl) ?_
 unfold impl_isStrict at h
 refine k_sreg (r_go [(0, .d false [.sl none (a0.map ePt)])] [] [] (by kernel_rfl) trivial) ?_
 replace h := bind_some' h
 obtain ⟨v1, hv1, h⟩ := h
 refine k_sreg (r_go [(2, .p (.bool v1))] [(1, {call := some ([.d false [.sl none (a0.map ePt)]], [.p (.bool v1)], true)})] [([.d false [.sl none (a0.map ePt)]] : List Arg) = [.d false [.sl none (a0.map ePt)]], Meets Try.prog 98 ([.d false [.sl none (a0.map ePt)]] ++ []) { vals := [.p (.bool v1)] }, (!true || List.all [.p (.bool v1)] simpleR) = true] (by kernel_rfl) ⟨rfl, (wk_impl_isLapMap hv1), (bt rfl), trivial⟩) ?_
 refine k_ret ?_
 obtain rfl := Option.some.inj h
 exact e_ret (ls := [(.p (.bool v1), 2)]) (by kernel_rfl) rfl (by kernel_rfl) rfl
theorem wk_impl_sign {a0 : Qr}  {r : Int} (h : impl_sign a0 = some r) : Meets Try.prog 101 [.v (vRt a0)] { vals := [.p (.int .i64 r)] } := by
 refine Meets_ofL (by kernel_rfl) Try.func101 rfl (by kernel_rfl) (l0 := [(0, .p (vRt a0))]) (by kernel_rfl) ?_
 unfold impl_sign at h
 refine k_sreg (r_go [(1, .box (eRt a0))] [] [] (by kernel_rfl) trivial) ?_
 replace h := bind_some' h
 obtain ⟨v1, hv1, h⟩ := h
 replace h := bind_some' h
 obtain ⟨v2, hv2, h⟩ := h
 refine k_sreg (r_draw Try_mixed 2 [] [(2, .p (.int .i64 v2))] [(1, {call := some ([], [.p (vRt v1)], true)}), (2, {call := some ([.v (vRt a0), .v (vRt v1)], [.p (.int .i64 v2)], true)})] [([] : List Arg) = [], Meets Try.prog 65 ([] ++ []) { vals := [.p (vRt v1)] }, (!true || List.all [.p (vRt v1)] simpleR) = true, ([.v (vRt a0), .v (vRt v1)] : List Arg) = [.v (vRt a0), .v (vRt v1)], Meets Try.prog 73 ([.v (vRt a0), .v (vRt v1)] ++ []) { vals := [.p (.int .i64 v2)] }, (!true || List.all [.p (.int .i64 v2)] simpleR) = true] (by kernel_rfl) ⟨rfl, (wk_impl_zero hv1), (bt rfl), rfl, (wk_impl_compare hv2), (bt rfl), trivial⟩) ?_
 refine k_ret ?_
 obtain rfl := Option.some.inj h
 exact e_ret (ls := [(.p (.int .i64 v2), 2)]) (by kernel_rfl) rfl (by kernel_rfl) rfl
theorem wk_impl_laps {a0 : (List Qp)}  {r : (List (List Int))} (h : impl_laps a0 = some r) : Meets Try.prog 61 [.d false [.sl none (a0.map ePt)]] { vals := [.ov false [.sl (some 42) (r.map (eO 3 eI))]] } := by
 refine Meets_ofL (by kernel_rfl) Try.func61 rfl (by kernel_rfl) (l0 := [(0, .d false [.sl none (a0.map ePt)])]) (by kernel_rfl) ?_
 unfold impl_laps at h
 refine k_sreg (r_go [(0, .d false [.sl none (a0.map ePt)])] [] [] (by kernel_rfl) trivial) ?_
 refine k_sreg (r_go [(0, .d false [.sl none (a0.map ePt)]), (3, .ov false [.sl (some 42) []])] [] [] (by kernel_rfl) trivial) ?_
 refine k_join (J := fun (x : (List (List Int))) => [(3, .ov false [.sl (some 42) (x.map (eO 3 eI))])]) (K := fun x => impl_laps_k1 x = some r) (fun x1 h => ?_) ?_
 ·unfold impl_laps_k1 at h
  refine k_sreg (r_go [(2, .ov false [.sl (some 42) (x1.map (eO 3 eI))])] [] [] (by kernel_rfl) trivial) ?_
  refine k_ret ?_
  obtain rfl := Option.some.inj h
  exact e_ret (ls := [(.ov false [.sl (some 42) (x1.map (eO 3 eI))], 2)]) (by kernel_rfl) rfl (by kernel_rfl) rfl
 ·replace h := bind_some' h
  obtain ⟨v2, hv2, h⟩ := h
  refine k_sreg (r_go [(3, .ov false [.sl (some 42) []]), (8, .ov false [.sl (some 25) (v2.map eRt)]), (9, .p (.int .i64 (v2.length : Int))), (10, .p (.int .i64 0))] [(1, {call := some ([.d false [.sl none (a0.map ePt)]], [.ov false [.sl (some 25) (v2.map eRt)]], true)}), (2, {n := some v2.length})] [([.d false [.sl none (a0.map ePt)]] : List Arg) = [.d false [.sl none (a0.map ePt)]], Meets Try.prog 100 ([.d false [.sl none (a0.map ePt)]] ++ []) { vals := [.ov false [.sl (some 25) (v2.map eRt)]] }, (!true || List.all [.ov false [.sl (some 25) (v2.map eRt)]] simpleR) = true, (v2.map eRt).length = v2.length] (by kernel_rfl) ⟨rfl, (wk_impl_slopes hv2), (bt (sa_o (wnR1 (wnL_enc (wn_P wn_I wn_I)) rfl) rfl)), (List.length_map ..), trivial⟩) ?_
  refine k_block ?_
  obtain ⟨y4, hl_x3, hk_x3⟩ := bind_some' h
  clear h
  refine k_loop (J := fun (x : ((List (List Int)) × Int)) => [(3, .ov false [.sl (some 42) (x.1.map (eO 3 eI))]), (8, .ov false [.sl (some 25) (v2.map eRt)]), (9, .p (.int .i64 (v2.length : Int))), (10, .p (.int .i64 x.2))]) hl_x3 (wk_of (by kernel_rfl) (by kernel_rfl)) (fun x3 o_x3 h hy_x3 => ?_)
  unfold impl_laps_b1 at h
  refine k_sreg (r_go [(3, .ov false [.sl (some 42) (x3.1.map (eO 3 eI))]), (8, .ov false [.sl (some 25) (v2.map eRt)]), (9, .p (.int .i64 (v2.length : Int))), (10, .p (.int .i64 x3.2)), (11, .p (.bool (decide (x3.2 < (v2.length : Int)))))] [] [] (by kernel_rfl) trivial) ?_
  refine k_seq ?_
  refine k_cond (b := (decide (x3.2 < (v2.length : Int)))) (by kernel_rfl) (fun hc5_4 => ?_) (fun hc5_4 => ?_)
  ·replace h := ite_t hc5_4 h
   refine k_skip ?_
   refine q_n ?_
   refine k_seq ?_
   refine k_block ?_
   replace h := bind_some' h
   obtain ⟨v6, hv6, h⟩ := h
   refine k_sreg (r_go [(3, .ov false [.sl (some 42) (x3.1.map (eO 3 eI))]), (4, .p (.int .i64 x3.2)), (5, .box (eRt v6)), (8, .ov false [.sl (some 25) (v2.map eRt)]), (9, .p (.int .i64 (v2.length : Int))), (10, .p (.int .i64 x3.2))] [(1, {row := some (eRt v6)}), (2, {row := some (eRt v6)})] [0 ≤ x3.2, (v2.map eRt)[(Int.toNat x3.2)]? = some (eRt v6), getRow [[.sl (some 25) (v2.map eRt)]] [(0, 0), ((Int.toNat x3.2), 0)] = some (eRt v6)] (by kernel_rfl) ⟨(idxO_some hv6).1, (map_get eRt (idxO_some hv6).2), ((gr0 rfl).trans (gre (map_get eRt (idxO_some hv6).2))), trivial⟩) ?_
   refine k_sreg (r_go [(3, .ov false [.sl (some 42) (x3.1.map (eO 3 eI))]), (4, .p (.int .i64 x3.2)), (5, .box (eRt v6)), (6, .p (.int .i64 (w64 ((x3.1.length : Int) - 1)))), (8, .ov false [.sl (some 25) (v2.map eRt)]), (9, .p (.int .i64 (v2.length : Int))), (10, .p (.int .i64 x3.2))] [(1, {n := some x3.1.length})] [(x3.1.map (eO 3 eI)).length = x3.1.length] (by kernel_rfl) ⟨(List.length_map ..), trivial⟩) ?_
   replace h := bind_some' h
   obtain ⟨w10, hw10, h⟩ := h
   refine k_sreg (l1 := [(3, .ov false [.sl (some 42) (x3.1.map (eO 3 eI))]), (4, .p (.int .i64 x3.2)), (5, .box (eRt v6)), (6, .p (.int .i64 (w64 ((x3.1.length : Int) - 1)))), (8, .ov false [.sl (some 25) (v2.map eRt)]), (9, .p (.int .i64 (v2.length : Int))), (10, .p (.int .i64 x3.2)), (30, .p (.bool w10))]) ?_ ?_
   ·clear h
    rcases Bool.eq_false_or_eq_true (decide ((w64 ((x3.1.length : Int) - 1)) ≥ 0)) with ha1 | ha1
    ·replace hw10 := ite_t ha1 hw10
     replace hw10 := bind_some' hw10
     obtain ⟨v7, hv7, hw10⟩ := hw10
     replace hw10 := bind_some' hw10
     obtain ⟨v8, hv8, hw10⟩ := hw10
     replace hw10 := bind_some' hw10
     obtain ⟨v9, hv9, hw10⟩ := hw10
     have hw10 := Option.some.inj hw10
     subst hw10
     exact (r_draw Try_mixed 11 [] [(3, .ov false [.sl (some 42) (x3.1.map (eO 3 eI))]), (4, .p (.int .i64 x3.2)), (5, .box (eRt v6)), (6, .p (.int .i64 (w64 ((x3.1.length : Int) - 1)))), (8, .ov false [.sl (some 25) (v2.map eRt)]), (9, .p (.int .i64 (v2.length : Int))), (10, .p (.int .i64 x3.2)), (30, .p (.bool (v8 == v9)))] [(3, {g := some true}), (4, {g := some true}), (5, {g := some true, row := some [.sl (some 3) (v7.map eI)]}), (6, {g := some true, row := some [.sl (some 3) (v7.map eI)]}), (7, {g := some true, deep := some [.sl (some 3) (v7.map eI)], row := some (eI v8)}), (8, {g := some true, row := some (eI v8)}), (9, {g := some true}), (10, {g := some true, call := some ([.v (vRt v6)], [.p (.int .i64 v9)], true)}), (11, {g := some true}), (12, {b := some true})] [(decide ((w64 ((x3.1.length : Int) - 1)) ≥ 0)) = true, (decide ((w64 ((x3.1.length : Int) - 1)) ≥ 0)) = true, (decide ((w64 ((x3.1.length : Int) - 1)) ≥ 0)) = true, 0 ≤ (w64 ((x3.1.length : Int) - 1)), (x3.1.map (eO 3 eI))[(Int.toNat (w64 ((x3.1.length : Int) - 1)))]? = some [.sl (some 3) (v7.map eI)], (decide ((w64 ((x3.1.length : Int) - 1)) ≥ 0)) = true, frR [.sl (some 3) (v7.map eI)] = false, getRow [[.sl (some 42) (x3.1.map (eO 3 eI))]] [(0, 0), ((Int.toNat (w64 ((x3.1.length : Int) - 1))), 0)] = some [.sl (some 3) (v7.map eI)], (decide ((w64 ((x3.1.length : Int) - 1)) ≥ 0)) = true, 0 ≤ 2, (v7.map eI)[(Int.toNat 2)]? = some (eI v8), getRow [[.sl (some 42) (x3.1.map (eO 3 eI))]] [(0, 0), ((Int.toNat (w64 ((x3.1.length : Int) - 1))), 0)] = some [.sl (some 3) (v7.map eI)], (decide ((w64 ((x3.1.length : Int) - 1)) ≥ 0)) = true, getRow [[.sl (some 42) (x3.1.map (eO 3 eI))]] [(0, 0), ((Int.toNat (w64 ((x3.1.length : Int) - 1))), 0), ((Int.toNat 2), 0)] = some (eI v8), (decide ((w64 ((x3.1.length : Int) - 1)) ≥ 0)) = true, (decide ((w64 ((x3.1.length : Int) - 1)) ≥ 0)) = true, ([.v (vRt v6)] : List Arg) = [.v (vRt v6)], Meets Try.prog 101 ([.v (vRt v6)] ++ []) { vals := [.p (.int .i64 v9)] }, (!true || List.all [.p (.int .i64 v9)] simpleR) = true, (decide ((w64 ((x3.1.length : Int) - 1)) ≥ 0)) = true, (decide ((w64 ((x3.1.length : Int) - 1)) ≥ 0)) = true] (by kernel_rfl) ⟨ha1, ha1, ha1, (idxO_some hv7).1, (map_get (eO 3 eI) (idxO_some hv7).2), ha1, rfl, ((gr0 rfl).trans (gre (map_get (eO 3 eI) (idxO_some hv7).2))), ha1, (idxO_some hv8).1, (map_get eI (idxO_some hv8).2), ((gr0 rfl).trans (gre (map_get (eO 3 eI) (idxO_some hv7).2))), ha1, ((gr0 rfl).trans ((grs (map_get (eO 3 eI) (idxO_some hv7).2) rfl).trans (gre (map_get eI (idxO_some hv8).2)))), ha1, ha1, rfl, (wk_impl_sign hv9), (bt rfl), ha1, ha1, trivial⟩)
    ·replace hw10 := ite_f ha1 hw10
     have hw10 := Option.some.inj hw10
     subst hw10
     exact (r_draw Try_mixed 11 [] [(3, .ov false [.sl (some 42) (x3.1.map (eO 3 eI))]), (4, .p (.int .i64 x3.2)), (5, .box (eRt v6)), (6, .p (.int .i64 (w64 ((x3.1.length : Int) - 1)))), (8, .ov false [.sl (some 25) (v2.map eRt)]), (9, .p (.int .i64 (v2.length : Int))), (10, .p (.int .i64 x3.2)), (30, .p (.bool false))] [(3, {g := some false}), (4, {g := some false}), (5, {g := some false}), (6, {g := some false}), (7, {g := some false}), (8, {g := some false}), (9, {g := some false}), (10, {g := some false}), (11, {g := some false}), (12, {b := some false})] [(decide ((w64 ((x3.1.length : Int) - 1)) ≥ 0)) = false, (decide ((w64 ((x3.1.length : Int) - 1)) ≥ 0)) = false, (decide ((w64 ((x3.1.length : Int) - 1)) ≥ 0)) = false, (decide ((w64 ((x3.1.length : Int) - 1)) ≥ 0)) = false, (decide ((w64 ((x3.1.length : Int) - 1)) ≥ 0)) = false, (decide ((w64 ((x3.1.length : Int) - 1)) ≥ 0)) = false, (decide ((w64 ((x3.1.length : Int) - 1)) ≥ 0)) = false, (decide ((w64 ((x3.1.length : Int) - 1)) ≥ 0)) = false, (decide ((w64 ((x3.1.length : Int) - 1)) ≥ 0)) = false, (decide ((w64 ((x3.1.length : Int) - 1)) ≥ 0)) = false] (by kernel_rfl) ⟨ha1, ha1, ha1, ha1, ha1, ha1, ha1, ha1, ha1, ha1, trivial⟩)
   ·refine k_cond (b := w10) (by kernel_rfl) (fun hc6_10 => ?_) (fun hc6_10 => ?_)
    ·replace h := ite_t hc6_10 h
     replace h := bind_some' h
     obtain ⟨v12, hv12, h⟩ := h
     replace h := bind_some' h
     obtain ⟨v13, hv13, h⟩ := h
     refine k_reg (r_go [(3, .ov false [.sl (some 42) ((x3.1.set (Int.toNat (w64 ((x3.1.length : Int) - 1))) (v12.set (Int.toNat 1) (w64 (x3.2 + 1)))).map (eO 3 eI))]), (8, .ov false [.sl (some 25) (v2.map eRt)]), (9, .p (.int .i64 (v2.length : Int))), (10, .p (.int .i64 x3.2))] [(2, {row := some [.sl (some 3) (v12.map eI)]}), (3, {row := some [.sl (some 3) (v12.map eI)]}), (6, {deep := some [.sl (some 3) (v12.map eI)], row := some (eI v13)}), (7, {row := some (eI v13), fix := some (3, .ov false [.sl (some 42) ((x3.1.set (Int.toNat (w64 ((x3.1.length : Int) - 1))) (v12.set (Int.toNat 1) (w64 (x3.2 + 1)))).map (eO 3 eI))])})] [0 ≤ (w64 ((x3.1.length : Int) - 1)), (x3.1.map (eO 3 eI))[(Int.toNat (w64 ((x3.1.length : Int) - 1)))]? = some [.sl (some 3) (v12.map eI)], frR [.sl (some 3) (v12.map eI)] = false, getRow [[.sl (some 42) (x3.1.map (eO 3 eI))]] [(0, 0), ((Int.toNat (w64 ((x3.1.length : Int) - 1))), 0)] = some [.sl (some 3) (v12.map eI)], 0 ≤ 1, (v12.map eI)[(Int.toNat 1)]? = some (eI v13), getRow [[.sl (some 42) (x3.1.map (eO 3 eI))]] [(0, 0), ((Int.toNat (w64 ((x3.1.length : Int) - 1))), 0)] = some [.sl (some 3) (v12.map eI)], getRow [[.sl (some 42) (x3.1.map (eO 3 eI))]] [(0, 0), ((Int.toNat (w64 ((x3.1.length : Int) - 1))), 0), ((Int.toNat 1), 0)] = some (eI v13), (SV.ov false [.sl (some 42) (setL (x3.1.map (eO 3 eI)) [((Int.toNat (w64 ((x3.1.length : Int) - 1))), 0), ((Int.toNat 1), 0)] [.raw (.int .i64 (w64 (x3.2 + 1)))])] : SV) = .ov false [.sl (some 42) ((x3.1.set (Int.toNat (w64 ((x3.1.length : Int) - 1))) (v12.set (Int.toNat 1) (w64 (x3.2 + 1)))).map (eO 3 eI))]] (by kernel_rfl) ⟨(idxO_some hv12).1, (map_get (eO 3 eI) (idxO_some hv12).2), rfl, ((gr0 rfl).trans (gre (map_get (eO 3 eI) (idxO_some hv12).2))), (idxO_some hv13).1, (map_get eI (idxO_some hv13).2), ((gr0 rfl).trans (gre (map_get (eO 3 eI) (idxO_some hv12).2))), ((gr0 rfl).trans ((grs (map_get (eO 3 eI) (idxO_some hv12).2) rfl).trans (gre (map_get eI (idxO_some hv13).2)))), (congrArg (fun z => SV.ov false [.sl (some 42) z]) (set2 (f := (eO 3 eI)) (y := (v12.set (Int.toNat 1) (w64 (x3.2 + 1)))) (idxO_some hv12).2 rfl (set1 (f := eI) (y := (w64 (x3.2 + 1))) (idxO_some hv13).2 rfl) rfl)), trivial⟩) ?_
     refine b_n ?_
     refine q_n ?_
     refine k_reg (r_go [(3, .ov false [.sl (some 42) ((x3.1.set (Int.toNat (w64 ((x3.1.length : Int) - 1))) (v12.set (Int.toNat 1) (w64 (x3.2 + 1)))).map (eO 3 eI))]), (8, .ov false [.sl (some 25) (v2.map eRt)]), (9, .p (.int .i64 (v2.length : Int))), (10, .p (.int .i64 (w64 (x3.2 + 1))))] [] [] (by kernel_rfl) trivial) ?_
     exact lq_n ((x3.1.set (Int.toNat (w64 ((x3.1.length : Int) - 1))) (v12.set (Int.toNat 1) (w64 (x3.2 + 1)))), (w64 (x3.2 + 1))) (Option.some.inj h).symm (wk_of (by kernel_rfl) (by kernel_rfl))
    ·replace h := ite_f hc6_10 h
     replace h := bind_some' h
     obtain ⟨v14, hv14, h⟩ := h
     replace h := bind_some' h
     obtain ⟨u15, hu15, h⟩ := h
     refine k_reg (r_go [(3, .ov false [.sl (some 42) ((x3.1 ++ [[x3.2, (w64 (x3.2 + 1)), v14]]).map (eO 3 eI))]), (8, .ov false [.sl (some 25) (v2.map eRt)]), (9, .p (.int .i64 (v2.length : Int))), (10, .p (.int .i64 x3.2))] [(5, {call := some ([.v (vRt v6)], [.p (.int .i64 v14)], true)}), (8, {fix := some (46, .ov false [.sl (some 42) ((x3.1 ++ [[x3.2, (w64 (x3.2 + 1)), v14]]).map (eO 3 eI))])})] [([.v (vRt v6)] : List Arg) = [.v (vRt v6)], Meets Try.prog 101 ([.v (vRt v6)] ++ []) { vals := [.p (.int .i64 v14)] }, (!true || List.all [.p (.int .i64 v14)] simpleR) = true, List.length ((x3.1.map (eO 3 eI)) : List (List C)) + List.length ((([[x3.2, (w64 (x3.2 + 1)), v14]]).map (eO 3 eI)) : List (List C)) ≤ 1099511627776, ∀ row ∈ ((([[x3.2, (w64 (x3.2 + 1)), v14]]).map (eO 3 eI)) : List (List C)), row.length = 1, (SV.ov false [.sl (some 42) ((x3.1.map (eO 3 eI)) ++ (([[x3.2, (w64 (x3.2 + 1)), v14]]).map (eO 3 eI)))] : SV) = .ov false [.sl (some 42) ((x3.1 ++ [[x3.2, (w64 (x3.2 + 1)), v14]]).map (eO 3 eI))]] (by kernel_rfl) ⟨rfl, (wk_impl_sign hv14), (bt rfl), (by have hg := (guardO_some hu15); simpa using hg), (rows_len fun _ => rfl), (congrArg (fun z => SV.ov false [.sl (some 42) z]) (List.map_append ..).symm), trivial⟩) ?_
     refine b_n ?_
     refine q_n ?_
     refine k_reg (r_go [(3, .ov false [.sl (some 42) ((x3.1 ++ [[x3.2, (w64 (x3.2 + 1)), v14]]).map (eO 3 eI))]), (8, .ov false [.sl (some 25) (v2.map eRt)]), (9, .p (.int .i64 (v2.length : Int))), (10, .p (.int .i64 (w64 (x3.2 + 1))))] [] [] (by kernel_rfl) trivial) ?_
     exact lq_n ((x3.1 ++ [[x3.2, (w64 (x3.2 + 1)), v14]]), (w64 (x3.2 + 1))) (Option.some.inj h).symm (wk_of (by kernel_rfl) (by kernel_rfl))
  ·replace h := ite_f hc5_4 h
   refine k_exit ?_
   refine q_x ?_
   refine lq_x ?_
   refine b_x ?_
   have hyy := hy_x3 _ (Option.some.inj h).symm
   subst hyy
   have h := hk_x3
   refine q_n ?_
   exact ⟨x3.1, h, (wk_of (by kernel_rfl) (by kernel_rfl))⟩
theorem wk_impl_turns {a0 : (List Qp)}  {r : (List Qr)} (h : impl_turns a0 = some r) : Meets Try.prog 126 [.d false [.sl none (a0.map ePt)]] { vals := [.ov false [.sl (some 25) (r.map eRt)]] } := by
 refine Meets_ofL (by kernel_rfl) Try.func126 rfl (by kernel_rfl) (l0 := [(0, .d false [.sl none (a0.map ePt)])]) (by kernel_rfl) ?_
 unfold impl_turns at h
 refine k_sreg (r_go [(0, .d false [.sl none (a0.map ePt)])] [] [] (by kernel_rfl) trivial) ?_
 refine k_sreg (r_go [(0, .d false [.sl none (a0.map ePt)]), (3, .ov false [.sl (some 25) []])] [] [] (by kernel_rfl) trivial) ?_
 refine k_join (J := fun (x : (List Qr)) => [(3, .ov false [.sl (some 25) (x.map eRt)])]) (K := fun x => impl_turns_k1 x = some r) (fun x1 h => ?_) ?_
 ·unfold impl_turns_k1 at h
  refine k_sreg (r_go [(2, .ov false [.sl (some 25) (x1.map eRt)])] [] [] (by kernel_rfl) trivial) ?_
  refine k_ret ?_
  obtain rfl := Option.some.inj h
  exact e_ret (ls := [(.ov false [.sl (some 25) (x1.map eRt)], 2)]) (by kernel_rfl) rfl (by kernel_rfl) rfl
 ·replace h := bind_some' h
  obtain ⟨v2, hv2, h⟩ := h
  replace h := bind_some' h
  obtain ⟨u3, hu3, h⟩ := h
  refine k_sreg (r_go [(0, .d false [.sl none (a0.map ePt)]), (3, .ov false [.sl (some 25) []]), (8, .d false [.sl none ((v2.drop (Int.toNat 1)).map (eF eI))]), (9, .p (.int .i64 ((v2.drop (Int.toNat 1)).length : Int))), (10, .p (.int .i64 0))] [(1, {call := some ([.d false [.sl none (a0.map ePt)]], [.ov false [.sl (some 42) (v2.map (eO 3 eI))]], true)}), (2, {pre := some (7, .d false [.sl none (v2.map (eF eI))]), fix := some (8, .d false [.sl none ((v2.drop (Int.toNat 1)).map (eF eI))])}), (3, {n := some (v2.drop (Int.toNat 1)).length})] [([.d false [.sl none (a0.map ePt)]] : List Arg) = [.d false [.sl none (a0.map ePt)]], Meets Try.prog 61 ([.d false [.sl none (a0.map ePt)]] ++ []) { vals := [.ov false [.sl (some 42) (v2.map (eO 3 eI))]] }, (!true || List.all [.ov false [.sl (some 42) (v2.map (eO 3 eI))]] simpleR) = true, (SV.d false (eraR [.sl (some 42) (v2.map (eO 3 eI))]) : SV) = .d false [.sl none (v2.map (eF eI))], (Int.toNat 1) ≤ (v2.map (eF eI)).length, (v2.map (eF eI)).length ≤ (v2.map (eF eI)).length, ∀ row ∈ (v2.map (eF eI)), row.length = 1, (0 : Int) ≤ 1, (SV.d false [.sl none (((v2.map (eF eI)).take (v2.map (eF eI)).length).drop (Int.toNat 1))] : SV) = .d false [.sl none ((v2.drop (Int.toNat 1)).map (eF eI))], ((v2.drop (Int.toNat 1)).map (eF eI)).length = (v2.drop (Int.toNat 1)).length] (by kernel_rfl) ⟨rfl, (wk_impl_laps hv2), (bt (sa_o (wnR1 (wnL_enc (wn_O wn_I)) rfl) rfl)), (congrArg (fun z => SV.d false z) (erc_sl (eraL_enc (era_O er_I)) rfl)), (by have hg := (guardO_some hu3); first | (simp only [List.length_map]; omega) | omega), (Nat.le_refl _), (rows_len fun _ => rfl), (by have hg := (guardO_some hu3); omega), (congrArg (fun z => SV.d false [.sl none z]) sl_lo), (List.length_map ..), trivial⟩) ?_
  refine k_block ?_
  obtain ⟨y5, hl_x4, hk_x4⟩ := bind_some' h
  clear h
  refine k_loop (J := fun (x : ((List Qr) × Int)) => [(0, .d false [.sl none (a0.map ePt)]), (3, .ov false [.sl (some 25) (x.1.map eRt)]), (8, .d false [.sl none ((v2.drop (Int.toNat 1)).map (eF eI))]), (9, .p (.int .i64 ((v2.drop (Int.toNat 1)).length : Int))), (10, .p (.int .i64 x.2))]) hl_x4 (wk_of (by kernel_rfl) (by kernel_rfl)) (fun x4 o_x4 h hy_x4 => ?_)
  unfold impl_turns_b1 at h
  refine k_sreg (r_go [(0, .d false [.sl none (a0.map ePt)]), (3, .ov false [.sl (some 25) (x4.1.map eRt)]), (8, .d false [.sl none ((v2.drop (Int.toNat 1)).map (eF eI))]), (9, .p (.int .i64 ((v2.drop (Int.toNat 1)).length : Int))), (10, .p (.int .i64 x4.2)), (11, .p (.bool (decide (x4.2 < ((v2.drop (Int.toNat 1)).length : Int)))))] [] [] (by kernel_rfl) trivial) ?_
  refine k_seq ?_
  refine k_cond (b := (decide (x4.2 < ((v2.drop (Int.toNat 1)).length : Int)))) (by kernel_rfl) (fun hc5_5 => ?_) (fun hc5_5 => ?_)
  ·replace h := ite_t hc5_5 h
   refine k_skip ?_
   refine q_n ?_
   refine k_seq ?_
   refine k_block ?_
   replace h := bind_some' h
   obtain ⟨v7, hv7, h⟩ := h
   refine k_sreg (r_go [(0, .d false [.sl none (a0.map ePt)]), (3, .ov false [.sl (some 25) (x4.1.map eRt)]), (5, .d false [.sl none (v7.map eI)]), (8, .d false [.sl none ((v2.drop (Int.toNat 1)).map (eF eI))]), (9, .p (.int .i64 ((v2.drop (Int.toNat 1)).length : Int))), (10, .p (.int .i64 x4.2))] [(0, {row := some [.sl none (v7.map eI)]})] [0 ≤ x4.2, ((v2.drop (Int.toNat 1)).map (eF eI))[(Int.toNat x4.2)]? = some [.sl none (v7.map eI)]] (by kernel_rfl) ⟨(idxO_some hv7).1, (map_get (eF eI) (idxO_some hv7).2), trivial⟩) ?_
   replace h := bind_some' h
   obtain ⟨v8, hv8, h⟩ := h
   replace h := bind_some' h
   obtain ⟨v9, hv9, h⟩ := h
   replace h := bind_some' h
   obtain ⟨u10, hu10, h⟩ := h
   refine k_reg (r_go [(0, .d false [.sl none (a0.map ePt)]), (3, .ov false [.sl (some 25) ((x4.1 ++ [v9.1]).map eRt)]), (8, .d false [.sl none ((v2.drop (Int.toNat 1)).map (eF eI))]), (9, .p (.int .i64 ((v2.drop (Int.toNat 1)).length : Int))), (10, .p (.int .i64 x4.2))] [(3, {row := some (eI v8)}), (5, {row := some (ePt v9)}), (9, {fix := some (23, .ov false [.sl (some 25) ((x4.1 ++ [v9.1]).map eRt)])})] [0 ≤ 0, (v7.map eI)[(Int.toNat 0)]? = some (eI v8), 0 ≤ v8, (a0.map ePt)[(Int.toNat v8)]? = some (ePt v9), List.length ((x4.1.map eRt) : List (List C)) + List.length ((([v9.1]).map eRt) : List (List C)) ≤ 1099511627776, ∀ row ∈ ((([v9.1]).map eRt) : List (List C)), row.length = 2, (SV.ov false [.sl (some 25) ((x4.1.map eRt) ++ (([v9.1]).map eRt))] : SV) = .ov false [.sl (some 25) ((x4.1 ++ [v9.1]).map eRt)]] (by kernel_rfl) ⟨(idxO_some hv8).1, (map_get eI (idxO_some hv8).2), (idxO_some hv9).1, (map_get ePt (idxO_some hv9).2), (by have hg := (guardO_some hu10); simpa using hg), (rows_len fun _ => rfl), (congrArg (fun z => SV.ov false [.sl (some 25) z]) (List.map_append ..).symm), trivial⟩) ?_
   refine b_n ?_
   refine q_n ?_
   refine k_reg (r_go [(0, .d false [.sl none (a0.map ePt)]), (3, .ov false [.sl (some 25) ((x4.1 ++ [v9.1]).map eRt)]), (8, .d false [.sl none ((v2.drop (Int.toNat 1)).map (eF eI))]), (9, .p (.int .i64 ((v2.drop (Int.toNat 1)).length : Int))), (10, .p (.int .i64 (w64 (x4.2 + 1))))] [] [] (by kernel_rfl) trivial) ?_
   exact lq_n ((x4.1 ++ [v9.1]), (w64 (x4.2 + 1))) (Option.some.inj h).symm (wk_of (by kernel_rfl) (by kernel_rfl))
  ·replace h := ite_f hc5_5 h
   refine k_exit ?_
   refine q_x ?_
   refine lq_x ?_
   refine b_x ?_
   have hyy := hy_x4 _ (Option.some.inj h).symm
   subst hyy
   have h := hk_x4
   refine q_n ?_
   exact ⟨x4.1, h, (wk_of (by kernel_rfl) (by kernel_rfl))⟩
theorem wk_slices_IndexFunc_Limpl_Point_impl_Point_d {a0 : (List Qp)} {a1 : (Qp → Option Bool)} {F1 : FuncId} {K1 : List (Bool × List C)} (hp1 : ∀ x0 y, a1 x0 = some y → Meets Try.prog F1 ([.v (vPt x0)] ++ (K1.map fun (g, cs) => mkA g cs)) { vals := [.p (.bool y)] }) {r : Int} (h : slices_IndexFunc_Limpl_Point_impl_Point a0 a1 = some r) : Meets Try.prog 117 [.d false [.sl none (a0.map ePt)], .d false [.fn F1 K1]] { vals := [.p (.int .i64 r)] } := by
 refine Meets_ofL (by kernel_rfl) Try.func117 rfl (by kernel_rfl) (l0 := [(0, .d false [.sl none (a0.map ePt)]), (1, .d false [.fn F1 K1])]) (by kernel_rfl) ?_
 unfold slices_IndexFunc_Limpl_Point_impl_Point at h
 refine k_sreg (r_go [(0, .d false [.sl none (a0.map ePt)]), (1, .d false [.fn F1 K1])] [] [] (by kernel_rfl) trivial) ?_
 refine k_join (J := fun (x : Unit) => []) (K := fun x => slices_IndexFunc_Limpl_Point_impl_Point_k1 x = some r) (fun x1 h => ?_) ?_
 ·unfold slices_IndexFunc_Limpl_Point_impl_Point_k1 at h
  refine k_sreg (r_go [(4, .p (.int .i64 (-1)))] [] [] (by kernel_rfl) trivial) ?_
  refine k_ret ?_
  obtain rfl := Option.some.inj h
  exact e_ret (ls := [(.p (.int .i64 (-1)), 4)]) (by kernel_rfl) rfl (by kernel_rfl) rfl
 ·refine k_sreg (r_go [(0, .d false [.sl none (a0.map ePt)]), (1, .d false [.fn F1 K1]), (7, .p (.int .i64 (a0.length : Int))), (8, .p (.int .i64 0))] [(1, {n := some a0.length})] [(a0.map ePt).length = a0.length] (by kernel_rfl) ⟨(List.length_map ..), trivial⟩) ?_
  refine k_block ?_
  obtain ⟨y3, hl_x2, hk_x2⟩ := bind_some' h
  clear h
  refine k_loop (J := fun (x : Int) => [(0, .d false [.sl none (a0.map ePt)]), (1, .d false [.fn F1 K1]), (7, .p (.int .i64 (a0.length : Int))), (8, .p (.int .i64 x))]) hl_x2 (wk_of (by kernel_rfl) (by kernel_rfl)) (fun x2 o_x2 h hy_x2 => ?_)
  unfold slices_IndexFunc_Limpl_Point_impl_Point_b1 at h
  refine k_sreg (r_go [(0, .d false [.sl none (a0.map ePt)]), (1, .d false [.fn F1 K1]), (7, .p (.int .i64 (a0.length : Int))), (8, .p (.int .i64 x2)), (9, .p (.bool (decide (x2 < (a0.length : Int)))))] [] [] (by kernel_rfl) trivial) ?_
  refine k_seq ?_
  refine k_cond (b := (decide (x2 < (a0.length : Int)))) (by kernel_rfl) (fun hc5_3 => ?_) (fun hc5_3 => ?_)
  ·replace h := ite_t hc5_3 h
   refine k_skip ?_
   refine q_n ?_
   refine k_seq ?_
   refine k_block ?_
   refine k_sreg (r_go [(0, .d false [.sl none (a0.map ePt)]), (1, .d false [.fn F1 K1]), (5, .p (.int .i64 x2)), (7, .p (.int .i64 (a0.length : Int))), (8, .p (.int .i64 x2))] [] [] (by kernel_rfl) trivial) ?_
   replace h := bind_some' h
   obtain ⟨v5, hv5, h⟩ := h
   replace h := bind_some' h
   obtain ⟨v6, hv6, h⟩ := h
   refine k_sreg (r_go [(0, .d false [.sl none (a0.map ePt)]), (1, .d false [.fn F1 K1]), (5, .p (.int .i64 x2)), (7, .p (.int .i64 (a0.length : Int))), (8, .p (.int .i64 x2)), (16, .p (.bool v6))] [(3, {row := some (ePt v5)}), (5, {call := some ([.v (vPt v5)], [.p (.bool v6)], true)})] [0 ≤ x2, (a0.map ePt)[(Int.toNat x2)]? = some (ePt v5), ([.v (vPt v5)] : List Arg) = [.v (vPt v5)], Meets Try.prog F1 ([.v (vPt v5)] ++ (K1.map fun (g, cs) => mkA g cs)) { vals := [.p (.bool v6)] }, List.all [.p (.bool v6)] simpleR = true] (by kernel_rfl) ⟨(idxO_some hv5).1, (map_get ePt (idxO_some hv5).2), rfl, (hp1 _ _ hv6), rfl, trivial⟩) ?_
   refine k_cond (b := v6) (by kernel_rfl) (fun hc6_6 => ?_) (fun hc6_6 => ?_)
   ·replace h := ite_t hc6_6 h
    refine k_sreg (r_go [(4, .p (.int .i64 x2))] [] [] (by kernel_rfl) trivial) ?_
    refine k_ret ?_
    refine b_r ?_
    refine q_r ?_
    refine lq_r ?_
    refine b_r ?_
    refine q_r ?_
    have hyy := hy_x2 _ (Option.some.inj h).symm
    subst hyy
    have h := hk_x2
    dsimp only [Sum.elim] at h
    obtain rfl := Option.some.inj h
    exact e_ret (ls := [(.p (.int .i64 x2), 4)]) (by kernel_rfl) rfl (by kernel_rfl) rfl
   ·replace h := ite_f hc6_6 h
    refine k_skip ?_
    refine b_n ?_
    refine q_n ?_
    refine k_reg (r_go [(0, .d false [.sl none (a0.map ePt)]), (1, .d false [.fn F1 K1]), (7, .p (.int .i64 (a0.length : Int))), (8, .p (.int .i64 (w64 (x2 + 1))))] [] [] (by kernel_rfl) trivial) ?_
    exact lq_n (w64 (x2 + 1)) (Option.some.inj h).symm (wk_of (by kernel_rfl) (by kernel_rfl))
  ·replace h := ite_f hc5_3 h
   refine k_exit ?_
   refine q_x ?_
   refine lq_x ?_
   refine b_x ?_
   have hyy := hy_x2 _ (Option.some.inj h).symm
   subst hyy
   have h := hk_x2
   dsimp only [Sum.elim] at h
   refine q_n ?_
   exact ⟨(), h, (wk_of (by kernel_rfl) (by kernel_rfl))⟩
theorem wk_impl_pieceAt_1 {a0 : Qp} {c0 : Qr}  {r : Bool} (h : impl_pieceAt_1 a0 c0 = some r) : Meets Try.prog 159 [.v (vPt a0), .d false [.pt (eRt c0)]] { vals := [.p (.bool r)] } := by
 refine Meets_ofL (by kernel_rfl) Try.func159 rfl (by kernel_rfl) (l0 := [(0, .p (vPt a0)), (1, .d false [.pt (eRt c0)])]) (by kernel_rfl) ?_
 unfold impl_pieceAt_1 at h
 refine k_sreg (r_go [(1, .d false [.pt (eRt c0)]), (2, .box (ePt a0))] [] [] (by kernel_rfl) trivial) ?_
 replace h := bind_some' h
 obtain ⟨v1, hv1, h⟩ := h
 refine k_sreg (r_go [(3, .p (.bool (!v1)))] [(3, {call := some ([.v (vRt a0.1), .v (vRt c0)], [.p (.bool v1)], true)})] [([.v (vRt a0.1), .v (vRt c0)] : List Arg) = [.v (vRt a0.1), .v (vRt c0)], Meets Try.prog 102 ([.v (vRt a0.1), .v (vRt c0)] ++ []) { vals := [.p (.bool v1)] }, (!true || List.all [.p (.bool v1)] simpleR) = true] (by kernel_rfl) ⟨rfl, (wk_impl_less hv1), (bt rfl), trivial⟩) ?_
 refine k_ret ?_
 obtain rfl := Option.some.inj h
 exact e_ret (ls := [(.p (.bool (!v1)), 3)]) (by kernel_rfl) rfl (by kernel_rfl) rfl
theorem wk_impl_pieceAt {a0 : (List Qp)} {a1 : Qr}  {r : Int} (h : impl_pieceAt a0 a1 = some r) : Meets Try.prog 146 [.d false [.sl none (a0.map ePt)], .v (vRt a1)] { vals := [.p (.int .i64 r)] } := by
 refine Meets_ofL (by kernel_rfl) Try.func146 rfl (by kernel_rfl) (l0 := [(0, .d false [.sl none (a0.map ePt)]), (1, .p (vRt a1))]) (by kernel_rfl) ?_
 unfold impl_pieceAt at h
 refine k_sreg (r_go [(0, .d false [.sl none (a0.map ePt)]), (3, .box (eRt a1))] [] [] (by kernel_rfl) trivial) ?_
 refine k_frz 3 (eRt a1) (eRt a1) [(0, .d false [.sl none (a0.map ePt)]), (3, .d false [.pt (eRt a1)])] (by kernel_rfl) (erc_raw (erc_raw rfl)) (by kernel_rfl) (by kernel_rfl) ?_
 replace h := bind_some' h
 obtain ⟨v1, hv1, h⟩ := h
 refine k_sreg (r_go [(5, .p (.int .i64 v1))] [(2, {call := some ([.d false [.sl none (a0.map ePt)], .d false [.fn 159 [(false, [.pt (eRt a1)])]]], [.p (.int .i64 v1)], true)})] [([.d false [.sl none (a0.map ePt)], .d false [.fn 159 [(false, [.pt (eRt a1)])]]] : List Arg) = [.d false [.sl none (a0.map ePt)], .d false [.fn 159 [(false, [.pt (eRt a1)])]]], Meets Try.prog 117 ([.d false [.sl none (a0.map ePt)], .d false [.fn 159 [(false, [.pt (eRt a1)])]]] ++ []) { vals := [.p (.int .i64 v1)] }, (!true || List.all [.p (.int .i64 v1)] simpleR) = true] (by kernel_rfl) ⟨rfl, (wk_slices_IndexFunc_Limpl_Point_impl_Point_d (fun x0 y hy => wk_impl_pieceAt_1 hy) hv1), (bt rfl), trivial⟩) ?_
 refine k_sreg (r_go [(4, .p (.int .i64 (if (w64 (v1 - 1)) < 0 then 0 else (w64 (v1 - 1)))))] [] [] (by kernel_rfl) trivial) ?_
 refine k_ret ?_
 obtain rfl := Option.some.inj h
 exact e_ret (ls := [(.p (.int .i64 (if (w64 (v1 - 1)) < 0 then 0 else (w64 (v1 - 1)))), 4)]) (by kernel_rfl) rfl (by kernel_rfl) rfl
theorem wk_impl_MultiplyRats {a0 : Qr} {a1 : Qr}  {r : (Qr × Bool)} (h : impl_MultiplyRats a0 a1 = some r) : Meets Try.prog 163 [.v (vRt a0), .v (vRt a1)] { vals := [.p (vRt r.1), .p (.bool r.2)] } := by
 refine Meets_ofL (by kernel_rfl) Try.func163 rfl (by kernel_rfl) (l0 := [(0, .p (vRt a0)), (1, .p (vRt a1))]) (by kernel_rfl) ?_
 unfold impl_MultiplyRats at h
 refine k_sreg (r_go [(2, .box (eRt a0)), (3, .box (eRt a1)), (4, .box [.raw (.int .i64 0), .raw (.int .i64 0)])] [] [] (by kernel_rfl) trivial) ?_
 refine k_seq ?_
 replace h := bind_some' h
 obtain ⟨v1, hv1, h⟩ := h
 refine k_sreg (r_go [(2, .box (eRt a0)), (3, .box (eRt a1)), (4, .box [.raw (.int .i64 0), .raw (.int .i64 0)]), (10, .p (.bool (!v1)))] [(3, {call := some ([.d false [.sl none (([a0, a1]).map eRt)]], [.p (.bool v1)], true)})] [([.d false [.sl none (eraL (([a0, a1]).map eRt))]] : List Arg) = [.d false [.sl none (([a0, a1]).map eRt)]], Meets Try.prog 140 ([.d false [.sl none (([a0, a1]).map eRt)]] ++ []) { vals := [.p (.bool v1)] }, (!true || List.all [.p (.bool v1)] simpleR) = true] (by kernel_rfl) ⟨(by simp only [eraL_enc (h := eRt) (era_P er_I er_I)]), (wk_impl_areRats hv1), (bt rfl), trivial⟩) ?_
 refine k_cond (b := (!v1)) (by kernel_rfl) (fun hc2_1 => ?_) (fun hc2_1 => ?_)
 ·replace h := ite_t hc2_1 h
  refine k_sreg (r_go [(4, .box [.raw (.int .i64 0), .raw (.int .i64 0)]), (5, .p (.bool false))] [] [] (by kernel_rfl) trivial) ?_
  refine k_ret ?_
  refine q_r ?_
  obtain rfl := Option.some.inj h
  exact e_ret (ls := [(.p (.agg #[.int .i64 0, .int .i64 0]), 4), (.p (.bool false), 5)]) (by kernel_rfl) rfl (by kernel_rfl) rfl
 ·replace h := ite_f hc2_1 h
  refine k_skip ?_
  refine q_n ?_
  replace h := bind_some' h
  obtain ⟨v3, hv3, h⟩ := h
  refine k_sreg (r_go [(4, .box (eRt v3.1)), (5, .p (.bool v3.2))] [(10, {call := some ([.v (.int .i64 (w64 (a0.1 * a1.1))), .v (.int .i64 (w64 (a0.2 * a1.2)))], [.p (vRt v3.1), .p (.bool v3.2)], true)})] [([.v (.int .i64 (w64 (a0.1 * a1.1))), .v (.int .i64 (w64 (a0.2 * a1.2)))] : List Arg) = [.v (.int .i64 (w64 (a0.1 * a1.1))), .v (.int .i64 (w64 (a0.2 * a1.2)))], Meets Try.prog 141 ([.v (.int .i64 (w64 (a0.1 * a1.1))), .v (.int .i64 (w64 (a0.2 * a1.2)))] ++ []) { vals := [.p (vRt v3.1), .p (.bool v3.2)] }, (!true || List.all [.p (vRt v3.1), .p (.bool v3.2)] simpleR) = true] (by kernel_rfl) ⟨rfl, (wk_impl_lowest hv3), (bt rfl), trivial⟩) ?_
  refine k_ret ?_
  obtain rfl := Option.some.inj h
  exact e_ret (ls := [(.p (vRt v3.1), 4), (.p (.bool v3.2), 5)]) (by kernel_rfl) rfl (by kernel_rfl) rfl
theorem wk_impl_calc_mul {a0 : Bool} {a1 : Qr} {a2 : Qr}  {r : (Qr × Bool)} (h : impl_calc_mul a0 a1 a2 = some r) : MeetsB Try.prog 160 (.box [.raw (.bool a0)]) [.v (vRt a1), .v (vRt a2)] [.p (vRt r.1)] (.box [.raw (.bool r.2)]) := by
 refine MeetsB_ofL (by kernel_rfl) Try.func160 rfl (by kernel_rfl) rfl (l0 := [(0, .box [.raw (.bool a0)]), (1, .p (vRt a1)), (2, .p (vRt a2))]) (by kernel_rfl) ?_
 unfold impl_calc_mul at h
 refine k_sreg (r_go [(0, .box [.raw (.bool a0)]), (4, .box (eRt a1)), (5, .box (eRt a2)), (6, .box [.raw (.int .i64 0), .raw (.int .i64 0)])] [] [] (by kernel_rfl) trivial) ?_
 replace h := bind_some' h
 obtain ⟨v1, hv1, h⟩ := h
 replace h := bind_some' h
 obtain ⟨v2, hv2, h⟩ := h
 refine k_sreg (r_go [(0, .box [.raw (.bool v2.2)]), (6, .box (eRt v2.1))] [(3, {call := some ([.v (vRt a1), .v (vRt a2)], [.p (vRt v1.1), .p (.bool v1.2)], true)}), (6, {lend := some ([.v (vRt v1.1), .v (.bool v1.2)], [.p (vRt v2.1)], .box [.raw (.bool v2.2)], true)})] [([.v (vRt a1), .v (vRt a2)] : List Arg) = [.v (vRt a1), .v (vRt a2)], Meets Try.prog 163 ([.v (vRt a1), .v (vRt a2)] ++ []) { vals := [.p (vRt v1.1), .p (.bool v1.2)] }, (!true || List.all [.p (vRt v1.1), .p (.bool v1.2)] simpleR) = true, ([.v (vRt v1.1), .v (.bool v1.2)] : List Arg) = [.v (vRt v1.1), .v (.bool v1.2)], MeetsB Try.prog 119 (.box [.raw (.bool a0)]) [.v (vRt v1.1), .v (.bool v1.2)] [.p (vRt v2.1)] (.box [.raw (.bool v2.2)]), (!true || (List.all [.p (vRt v2.1)] simpleR && wnS (.box [.raw (.bool v2.2)]))) = true] (by kernel_rfl) ⟨rfl, (wk_impl_MultiplyRats hv1), (bt rfl), rfl, (wk_impl_calc_keep hv2), (bt (ls_t rfl (wnc rfl))), trivial⟩) ?_
 refine k_ret ?_
 obtain rfl := Option.some.inj h
 exact eb_ret (ls := [(.p (vRt v2.1), 6)]) (by kernel_rfl) rfl rfl (by kernel_rfl) (by kernel_rfl)
theorem wk_impl_calc_add {a0 : Bool} {a1 : Qr} {a2 : Qr}  {r : (Qr × Bool)} (h : impl_calc_add a0 a1 a2 = some r) : MeetsB Try.prog 95 (.box [.raw (.bool a0)]) [.v (vRt a1), .v (vRt a2)] [.p (vRt r.1)] (.box [.raw (.bool r.2)]) := by
 refine MeetsB_ofL (by kernel_rfl) Try.func95 rfl (by kernel_rfl) rfl (l0 := [(0, .box [.raw (.bool a0)]), (1, .p (vRt a1)), (2, .p (vRt a2))]) (by kernel_rfl) ?_
 unfold impl_calc_add at h
 refine k_sreg (r_go [(0, .box [.raw (.bool a0)]), (4, .box (eRt a1)), (5, .box (eRt a2)), (6, .box [.raw (.int .i64 0), .raw (.int .i64 0)])] [] [] (by kernel_rfl) trivial) ?_
 replace h := bind_some' h
 obtain ⟨v1, hv1, h⟩ := h
 replace h := bind_some' h
 obtain ⟨v2, hv2, h⟩ := h
 refine k_sreg (r_go [(0, .box [.raw (.bool v2.2)]), (6, .box (eRt v2.1))] [(3, {call := some ([.v (vRt a1), .v (vRt a2)], [.p (vRt v1.1), .p (.bool v1.2)], true)}), (6, {lend := some ([.v (vRt v1.1), .v (.bool v1.2)], [.p (vRt v2.1)], .box [.raw (.bool v2.2)], true)})] [([.v (vRt a1), .v (vRt a2)] : List Arg) = [.v (vRt a1), .v (vRt a2)], Meets Try.prog 120 ([.v (vRt a1), .v (vRt a2)] ++ []) { vals := [.p (vRt v1.1), .p (.bool v1.2)] }, (!true || List.all [.p (vRt v1.1), .p (.bool v1.2)] simpleR) = true, ([.v (vRt v1.1), .v (.bool v1.2)] : List Arg) = [.v (vRt v1.1), .v (.bool v1.2)], MeetsB Try.prog 119 (.box [.raw (.bool a0)]) [.v (vRt v1.1), .v (.bool v1.2)] [.p (vRt v2.1)] (.box [.raw (.bool v2.2)]), (!true || (List.all [.p (vRt v2.1)] simpleR && wnS (.box [.raw (.bool v2.2)]))) = true] (by kernel_rfl) ⟨rfl, (wk_impl_AddRats hv1), (bt rfl), rfl, (wk_impl_calc_keep hv2), (bt (ls_t rfl (wnc rfl))), trivial⟩) ?_
 refine k_ret ?_
 obtain rfl := Option.some.inj h
 exact eb_ret (ls := [(.p (vRt v2.1), 6)]) (by kernel_rfl) rfl rfl (by kernel_rfl) (by kernel_rfl)
theorem wk_impl_calc_line {a0 : Bool} {a1 : Qp} {a2 : Qr} {a3 : Qr}  {r : (Qr × Bool)} (h : impl_calc_line a0 a1 a2 a3 = some r) : MeetsB Try.prog 147 (.box [.raw (.bool a0)]) [.v (vPt a1), .v (vRt a2), .v (vRt a3)] [.p (vRt r.1)] (.box [.raw (.bool r.2)]) := by
 refine MeetsB_ofL (by kernel_rfl) Try.func147 rfl (by kernel_rfl) rfl (l0 := [(0, .box [.raw (.bool a0)]), (1, .p (vPt a1)), (2, .p (vRt a2)), (3, .p (vRt a3))]) (by kernel_rfl) ?_
 unfold impl_calc_line at h
 refine k_sreg (r_go [(0, .box [.raw (.bool a0)]), (5, .box (ePt a1)), (6, .box (eRt a2)), (7, .box (eRt a3)), (8, .box [.raw (.int .i64 0), .raw (.int .i64 0)])] [] [] (by kernel_rfl) trivial) ?_
 replace h := bind_some' h
 obtain ⟨v1, hv1, h⟩ := h
 replace h := bind_some' h
 obtain ⟨v2, hv2, h⟩ := h
 replace h := bind_some' h
 obtain ⟨v3, hv3, h⟩ := h
 refine k_sreg (r_draw Try_mixed 11 [(9, 0), (10, 0)] [(0, .box [.raw (.bool v3.2)]), (8, .box (eRt v3.1))] [(9, {lend := some ([.v (vRt a3), .v (vRt a1.1)], [.p (vRt v1.1)], .box [.raw (.bool v1.2)], true)}), (10, {lend := some ([.v (vRt a2), .v (vRt v1.1)], [.p (vRt v2.1)], .box [.raw (.bool v2.2)], true)}), (11, {lend := some ([.v (vRt a1.2), .v (vRt v2.1)], [.p (vRt v3.1)], .box [.raw (.bool v3.2)], true)})] [([.v (vRt a3), .v (vRt a1.1)] : List Arg) = [.v (vRt a3), .v (vRt a1.1)], MeetsB Try.prog 121 (.box [.raw (.bool a0)]) [.v (vRt a3), .v (vRt a1.1)] [.p (vRt v1.1)] (.box [.raw (.bool v1.2)]), List.all [.p (vRt v1.1)] simpleR = true, ([.v (vRt a2), .v (vRt v1.1)] : List Arg) = [.v (vRt a2), .v (vRt v1.1)], MeetsB Try.prog 160 (.box [.raw (.bool v1.2)]) [.v (vRt a2), .v (vRt v1.1)] [.p (vRt v2.1)] (.box [.raw (.bool v2.2)]), List.all [.p (vRt v2.1)] simpleR = true, ([.v (vRt a1.2), .v (vRt v2.1)] : List Arg) = [.v (vRt a1.2), .v (vRt v2.1)], MeetsB Try.prog 95 (.box [.raw (.bool v2.2)]) [.v (vRt a1.2), .v (vRt v2.1)] [.p (vRt v3.1)] (.box [.raw (.bool v3.2)]), (!true || (List.all [.p (vRt v3.1)] simpleR && wnS (.box [.raw (.bool v3.2)]))) = true] (by kernel_rfl) ⟨rfl, (wk_impl_calc_sub hv1), rfl, rfl, (wk_impl_calc_mul hv2), rfl, rfl, (wk_impl_calc_add hv3), (bt (ls_t rfl (wnc rfl))), trivial⟩) ?_
 refine k_ret ?_
 obtain rfl := Option.some.inj h
 exact eb_ret (ls := [(.p (vRt v3.1), 8)]) (by kernel_rfl) rfl rfl (by kernel_rfl) (by kernel_rfl)
theorem wk_impl_calc_value {a0 : Bool} {a1 : (List Qp)} {a2 : Qr}  {r : (Qr × Bool)} (h : impl_calc_value a0 a1 a2 = some r) : MeetsB Try.prog 127 (.box [.raw (.bool a0)]) [.d false [.sl none (a1.map ePt)], .v (vRt a2)] [.p (vRt r.1)] (.box [.raw (.bool r.2)]) := by
 refine MeetsB_ofL (by kernel_rfl) Try.func127 rfl (by kernel_rfl) rfl (l0 := [(0, .box [.raw (.bool a0)]), (1, .d false [.sl none (a1.map ePt)]), (2, .p (vRt a2))]) (by kernel_rfl) ?_
 unfold impl_calc_value at h
 refine k_sreg (r_go [(0, .box [.raw (.bool a0)]), (1, .d false [.sl none (a1.map ePt)]), (5, .box (eRt a2)), (6, .box [.raw (.int .i64 0), .raw (.int .i64 0)])] [] [] (by kernel_rfl) trivial) ?_
 replace h := bind_some' h
 obtain ⟨v1, hv1, h⟩ := h
 refine k_sreg (r_go [(0, .box [.raw (.bool a0)]), (1, .d false [.sl none (a1.map ePt)]), (5, .box (eRt a2)), (6, .box [.raw (.int .i64 0), .raw (.int .i64 0)]), (7, .p (.int .i64 v1))] [(2, {call := some ([.d false [.sl none (a1.map ePt)], .v (vRt a2)], [.p (.int .i64 v1)], true)})] [([.d false [.sl none (a1.map ePt)], .v (vRt a2)] : List Arg) = [.d false [.sl none (a1.map ePt)], .v (vRt a2)], Meets Try.prog 146 ([.d false [.sl none (a1.map ePt)], .v (vRt a2)] ++ []) { vals := [.p (.int .i64 v1)] }, (!true || List.all [.p (.int .i64 v1)] simpleR) = true] (by kernel_rfl) ⟨rfl, (wk_impl_pieceAt hv1), (bt rfl), trivial⟩) ?_
 replace h := bind_some' h
 obtain ⟨v2, hv2, h⟩ := h
 replace h := bind_some' h
 obtain ⟨v3, hv3, h⟩ := h
 replace h := bind_some' h
 obtain ⟨v4, hv4, h⟩ := h
 replace h := bind_some' h
 obtain ⟨v5, hv5, h⟩ := h
 refine k_sreg (r_draw Try_mixed 17 [(15, 0)] [(0, .box [.raw (.bool v5.2)]), (6, .box (eRt v5.1))] [(3, {row := some (ePt v2)}), (8, {row := some (ePt v2)}), (13, {row := some (ePt v3)}), (15, {lend := some ([.v (vPt v2), .v (vPt v3)], [.p (vRt v4.1)], .box [.raw (.bool v4.2)], true)}), (17, {lend := some ([.v (vPt v2), .v (vRt v4.1), .v (vRt a2)], [.p (vRt v5.1)], .box [.raw (.bool v5.2)], true)})] [0 ≤ v1, (a1.map ePt)[(Int.toNat v1)]? = some (ePt v2), 0 ≤ v1, (a1.map ePt)[(Int.toNat v1)]? = some (ePt v2), 0 ≤ (w64 (v1 + 1)), (a1.map ePt)[(Int.toNat (w64 (v1 + 1)))]? = some (ePt v3), ([.v (vPt v2), .v (vPt v3)] : List Arg) = [.v (vPt v2), .v (vPt v3)], MeetsB Try.prog 125 (.box [.raw (.bool a0)]) [.v (vPt v2), .v (vPt v3)] [.p (vRt v4.1)] (.box [.raw (.bool v4.2)]), List.all [.p (vRt v4.1)] simpleR = true, ([.v (vPt v2), .v (vRt v4.1), .v (vRt a2)] : List Arg) = [.v (vPt v2), .v (vRt v4.1), .v (vRt a2)], MeetsB Try.prog 147 (.box [.raw (.bool v4.2)]) [.v (vPt v2), .v (vRt v4.1), .v (vRt a2)] [.p (vRt v5.1)] (.box [.raw (.bool v5.2)]), (!true || (List.all [.p (vRt v5.1)] simpleR && wnS (.box [.raw (.bool v5.2)]))) = true] (by kernel_rfl) ⟨(idxO_some hv2).1, (map_get ePt (idxO_some hv2).2), (idxO_some hv2).1, (map_get ePt (idxO_some hv2).2), (idxO_some hv3).1, (map_get ePt (idxO_some hv3).2), rfl, (wk_impl_calc_slope hv4), rfl, rfl, (wk_impl_calc_line hv5), (bt (ls_t rfl (wnc rfl))), trivial⟩) ?_
 refine k_ret ?_
 obtain rfl := Option.some.inj h
 exact eb_ret (ls := [(.p (vRt v5.1), 6)]) (by kernel_rfl) rfl rfl (by kernel_rfl) (by kernel_rfl)
theorem wk_impl_lesser {a0 : Qr} {a1 : Qr}  {r : Qr} (h : impl_lesser a0 a1 = some r) : Meets Try.prog 64 [.v (vRt a0), .v (vRt a1)] { vals := [.p (vRt r)] } := by
 refine Meets_ofL (by kernel_rfl) Try.func64 rfl (by kernel_rfl) (l0 := [(0, .p (vRt a0)), (1, .p (vRt a1))]) (by kernel_rfl) ?_
 unfold impl_lesser at h
 refine k_sreg (r_go [(2, .box (eRt a0)), (3, .box (eRt a1)), (4, .box [.raw (.int .i64 0), .raw (.int .i64 0)])] [] [] (by kernel_rfl) trivial) ?_
 refine k_seq ?_
 replace h := bind_some' h
 obtain ⟨v1, hv1, h⟩ := h
 refine k_sreg (r_go [(2, .box (eRt a0)), (3, .box (eRt a1)), (4, .box [.raw (.int .i64 0), .raw (.int .i64 0)]), (7, .p (.bool v1))] [(2, {call := some ([.v (vRt a1), .v (vRt a0)], [.p (.bool v1)], true)})] [([.v (vRt a1), .v (vRt a0)] : List Arg) = [.v (vRt a1), .v (vRt a0)], Meets Try.prog 102 ([.v (vRt a1), .v (vRt a0)] ++ []) { vals := [.p (.bool v1)] }, (!true || List.all [.p (.bool v1)] simpleR) = true] (by kernel_rfl) ⟨rfl, (wk_impl_less hv1), (bt rfl), trivial⟩) ?_
 refine k_cond (b := v1) (by kernel_rfl) (fun hc2_1 => ?_) (fun hc2_1 => ?_)
 ·replace h := ite_t hc2_1 h
  refine k_sreg (r_go [(4, .box (eRt a1))] [] [] (by kernel_rfl) trivial) ?_
  refine k_ret ?_
  refine q_r ?_
  obtain rfl := Option.some.inj h
  exact e_ret (ls := [(.p (vRt a1), 4)]) (by kernel_rfl) rfl (by kernel_rfl) rfl
 ·replace h := ite_f hc2_1 h
  refine k_skip ?_
  refine q_n ?_
  refine k_sreg (r_go [(4, .box (eRt a0))] [] [] (by kernel_rfl) trivial) ?_
  refine k_ret ?_
  obtain rfl := Option.some.inj h
  exact e_ret (ls := [(.p (vRt a0), 4)]) (by kernel_rfl) rfl (by kernel_rfl) rfl
theorem wk_impl_greater {a0 : Qr} {a1 : Qr}  {r : Qr} (h : impl_greater a0 a1 = some r) : Meets Try.prog 66 [.v (vRt a0), .v (vRt a1)] { vals := [.p (vRt r)] } := by
 refine Meets_ofL (by kernel_rfl) Try.func66 rfl (by kernel_rfl) (l0 := [(0, .p (vRt a0)), (1, .p (vRt a1))]) (by kernel_rfl) ?_
 unfold impl_greater at h
 refine k_sreg (r_go [(2, .box (eRt a0)), (3, .box (eRt a1)), (4, .box [.raw (.int .i64 0), .raw (.int .i64 0)])] [] [] (by kernel_rfl) trivial) ?_
 refine k_seq ?_
 replace h := bind_some' h
 obtain ⟨v1, hv1, h⟩ := h
 refine k_sreg (r_go [(2, .box (eRt a0)), (3, .box (eRt a1)), (4, .box [.raw (.int .i64 0), .raw (.int .i64 0)]), (7, .p (.bool v1))] [(2, {call := some ([.v (vRt a0), .v (vRt a1)], [.p (.bool v1)], true)})] [([.v (vRt a0), .v (vRt a1)] : List Arg) = [.v (vRt a0), .v (vRt a1)], Meets Try.prog 102 ([.v (vRt a0), .v (vRt a1)] ++ []) { vals := [.p (.bool v1)] }, (!true || List.all [.p (.bool v1)] simpleR) = true] (by kernel_rfl) ⟨rfl, (wk_impl_less hv1), (bt rfl), trivial⟩) ?_
 refine k_cond (b := v1) (by kernel_rfl) (fun hc2_1 => ?_) (fun hc2_1 => ?_)
 ·replace h := ite_t hc2_1 h
  refine k_sreg (r_go [(4, .box (eRt a1))] [] [] (by kernel_rfl) trivial) ?_
  refine k_ret ?_
  refine q_r ?_
  obtain rfl := Option.some.inj h
  exact e_ret (ls := [(.p (vRt a1), 4)]) (by kernel_rfl) rfl (by kernel_rfl) rfl
 ·replace h := ite_f hc2_1 h
  refine k_skip ?_
  refine q_n ?_
  refine k_sreg (r_go [(4, .box (eRt a0))] [] [] (by kernel_rfl) trivial) ?_
  refine k_ret ?_
  obtain rfl := Option.some.inj h
  exact e_ret (ls := [(.p (vRt a0), 4)]) (by kernel_rfl) rfl (by kernel_rfl) rfl
theorem wk_slices_Clone_Limpl_Rat_impl_Rat {a0 : (List Qr)} {r : (List Qr)} (h : slices_Clone_Limpl_Rat_impl_Rat a0 = some r) : Meets Try.prog 149 [.d false [.sl none (a0.map eRt)]] { vals := [.ov false [.sl (some 25) (r.map eRt)]] } := by
 refine Meets_ofL (by kernel_rfl) Try.func149 rfl (by kernel_rfl) (l0 := [(0, .d false [.sl none (a0.map eRt)])]) (by kernel_rfl) ?_
 unfold slices_Clone_Limpl_Rat_impl_Rat at h
 refine k_sreg (r_go [(0, .d false [.sl none (a0.map eRt)])] [] [] (by kernel_rfl) trivial) ?_
 refine k_seq ?_
 refine k_nil (e := 25) (z := 0) (d := 4) (rows := (a0.map eRt)) (fun b => [(0, .d false [.sl none (a0.map eRt)]), (4, .p (.bool b))]) rfl rfl rfl rfl rfl rfl (by kernel_rfl) rfl (fun v => by cases v <;> kernel_rfl) (fun v => by cases v <;> kernel_rfl) ?_ (fun hnil => ?_)
 ·refine k_cond (b := false) (by kernel_rfl) (fun hno => by cases hno) (fun _ => ?_)
  refine k_skip ?_
  refine q_n ?_
  replace h := bind_some' h
  obtain ⟨u2, hu2, h⟩ := h
  refine k_sreg (r_go [(2, .ov false [.sl (some 25) (a0.map eRt)])] [] [List.length ([] : List (List C)) + List.length ((a0.map eRt) : List (List C)) ≤ 1099511627776, ∀ row ∈ ((a0.map eRt) : List (List C)), row.length = 2] (by kernel_rfl) ⟨(by have hg := (guardO_some hu2); simpa using hg), (rows_len fun _ => rfl), trivial⟩) ?_
  refine k_ret ?_
  obtain rfl := Option.some.inj h
  exact e_ret (ls := [(.ov false [.sl (some 25) (a0.map eRt)], 2)]) (by kernel_rfl) rfl (by kernel_rfl) rfl
 ·obtain rfl := List.map_eq_nil_iff.1 hnil
  refine k_cond (b := true) (by kernel_rfl) (fun _ => ?_) (fun hno => by cases hno)
  refine k_sreg (r_go [(2, .ov false [.sl (some 25) []])] [] [] (by kernel_rfl) trivial) ?_
  refine k_ret ?_
  refine q_r ?_
  obtain rfl : r = [] := by simp [guardO] at h; first | exact h | exact h.symm
  exact e_ret (ls := [(.ov false [.sl (some 25) []], 2)]) (by kernel_rfl) rfl (by kernel_rfl) rfl
theorem wk_slices_IndexFunc_Limpl_Rat_impl_Rat_d {a0 : (List Qr)} {a1 : (Qr → Option Bool)} {F1 : FuncId} {K1 : List (Bool × List C)} (hp1 : ∀ x0 y, a1 x0 = some y → Meets Try.prog F1 ([.v (vRt x0)] ++ (K1.map fun (g, cs) => mkA g cs)) { vals := [.p (.bool y)] }) {r : Int} (h : slices_IndexFunc_Limpl_Rat_impl_Rat a0 a1 = some r) : Meets Try.prog 144 [.d false [.sl none (a0.map eRt)], .d false [.fn F1 K1]] { vals := [.p (.int .i64 r)] } := by
 refine Meets_ofL (by kernel_rfl) Try.func144 rfl (by kernel_rfl) (l0 := [(0, .d false [.sl none (a0.map eRt)]), (1, .d false [.fn F1 K1])]) (by kernel_rfl) ?_
 unfold slices_IndexFunc_Limpl_Rat_impl_Rat at h
 refine k_sreg (r_go [(0, .d false [.sl none (a0.map eRt)]), (1, .d false [.fn F1 K1])] [] [] (by kernel_rfl) trivial) ?_
 refine k_join (J := fun (x : Unit) => []) (K := fun x => slices_IndexFunc_Limpl_Rat_impl_Rat_k1 x = some r) (fun x1 h => ?_) ?_
 ·unfold slices_IndexFunc_Limpl_Rat_impl_Rat_k1 at h
  refine k_sreg (r_go [(4, .p (.int .i64 (-1)))] [] [] (by kernel_rfl) trivial) ?_
  refine k_ret ?_
  obtain rfl := Option.some.inj h
  exact e_ret (ls := [(.p (.int .i64 (-1)), 4)]) (by kernel_rfl) rfl (by kernel_rfl) rfl
 ·refine k_sreg (r_go [(0, .d false [.sl none (a0.map eRt)]), (1, .d false [.fn F1 K1]), (7, .p (.int .i64 (a0.length : Int))), (8, .p (.int .i64 0))] [(1, {n := some a0.length})] [(a0.map eRt).length = a0.length] (by kernel_rfl) ⟨(List.length_map ..), trivial⟩) ?_
  refine k_block ?_
  obtain ⟨y3, hl_x2, hk_x2⟩ := bind_some' h
  clear h
  refine k_loop (J := fun (x : Int) => [(0, .d false [.sl none (a0.map eRt)]), (1, .d false [.fn F1 K1]), (7, .p (.int .i64 (a0.length : Int))), (8, .p (.int .i64 x))]) hl_x2 (wk_of (by kernel_rfl) (by kernel_rfl)) (fun x2 o_x2 h hy_x2 => ?_)
  unfold slices_IndexFunc_Limpl_Rat_impl_Rat_b1 at h
  refine k_sreg (r_go [(0, .d false [.sl none (a0.map eRt)]), (1, .d false [.fn F1 K1]), (7, .p (.int .i64 (a0.length : Int))), (8, .p (.int .i64 x2)), (9, .p (.bool (decide (x2 < (a0.length : Int)))))] [] [] (by kernel_rfl) trivial) ?_
  refine k_seq ?_
  refine k_cond (b := (decide (x2 < (a0.length : Int)))) (by kernel_rfl) (fun hc5_3 => ?_) (fun hc5_3 => ?_)
  ·replace h := ite_t hc5_3 h
   refine k_skip ?_
   refine q_n ?_
   refine k_seq ?_
   refine k_block ?_
   refine k_sreg (r_go [(0, .d false [.sl none (a0.map eRt)]), (1, .d false [.fn F1 K1]), (5, .p (.int .i64 x2)), (7, .p (.int .i64 (a0.length : Int))), (8, .p (.int .i64 x2))] [] [] (by kernel_rfl) trivial) ?_
   replace h := bind_some' h
   obtain ⟨v5, hv5, h⟩ := h
   replace h := bind_some' h
   obtain ⟨v6, hv6, h⟩ := h
   refine k_sreg (r_go [(0, .d false [.sl none (a0.map eRt)]), (1, .d false [.fn F1 K1]), (5, .p (.int .i64 x2)), (7, .p (.int .i64 (a0.length : Int))), (8, .p (.int .i64 x2)), (16, .p (.bool v6))] [(3, {row := some (eRt v5)}), (5, {call := some ([.v (vRt v5)], [.p (.bool v6)], true)})] [0 ≤ x2, (a0.map eRt)[(Int.toNat x2)]? = some (eRt v5), ([.v (vRt v5)] : List Arg) = [.v (vRt v5)], Meets Try.prog F1 ([.v (vRt v5)] ++ (K1.map fun (g, cs) => mkA g cs)) { vals := [.p (.bool v6)] }, List.all [.p (.bool v6)] simpleR = true] (by kernel_rfl) ⟨(idxO_some hv5).1, (map_get eRt (idxO_some hv5).2), rfl, (hp1 _ _ hv6), rfl, trivial⟩) ?_
   refine k_cond (b := v6) (by kernel_rfl) (fun hc6_6 => ?_) (fun hc6_6 => ?_)
   ·replace h := ite_t hc6_6 h
    refine k_sreg (r_go [(4, .p (.int .i64 x2))] [] [] (by kernel_rfl) trivial) ?_
    refine k_ret ?_
    refine b_r ?_
    refine q_r ?_
    refine lq_r ?_
    refine b_r ?_
    refine q_r ?_
    have hyy := hy_x2 _ (Option.some.inj h).symm
    subst hyy
    have h := hk_x2
    dsimp only [Sum.elim] at h
    obtain rfl := Option.some.inj h
    exact e_ret (ls := [(.p (.int .i64 x2), 4)]) (by kernel_rfl) rfl (by kernel_rfl) rfl
   ·replace h := ite_f hc6_6 h
    refine k_skip ?_
    refine b_n ?_
    refine q_n ?_
    refine k_reg (r_go [(0, .d false [.sl none (a0.map eRt)]), (1, .d false [.fn F1 K1]), (7, .p (.int .i64 (a0.length : Int))), (8, .p (.int .i64 (w64 (x2 + 1))))] [] [] (by kernel_rfl) trivial) ?_
    exact lq_n (w64 (x2 + 1)) (Option.some.inj h).symm (wk_of (by kernel_rfl) (by kernel_rfl))
  ·replace h := ite_f hc5_3 h
   refine k_exit ?_
   refine q_x ?_
   refine lq_x ?_
   refine b_x ?_
   have hyy := hy_x2 _ (Option.some.inj h).symm
   subst hyy
   have h := hk_x2
   dsimp only [Sum.elim] at h
   refine q_n ?_
   exact ⟨(), h, (wk_of (by kernel_rfl) (by kernel_rfl))⟩
theorem wk_slices_DeleteFunc_Limpl_Rat_impl_Rat_d {a0 : (List Qr)} {a1 : (Qr → Option Bool)} {F1 : FuncId} {K1 : List (Bool × List C)} (hp1 : ∀ x0 y, a1 x0 = some y → Meets Try.prog F1 ([.v (vRt x0)] ++ (K1.map fun (g, cs) => mkA g cs)) { vals := [.p (.bool y)] }) {r : (List Qr)} (h : slices_DeleteFunc_Limpl_Rat_impl_Rat a0 a1 = some r) : MeetsB Try.prog 148 (.ov false [.sl (some 25) (a0.map eRt)]) [.d false [.fn F1 K1]] [.ov false [.sl (some 25) (r.map eRt)]] (.u) := by
 refine MeetsB_ofL (by kernel_rfl) Try.func148 rfl (by kernel_rfl) rfl (l0 := [(0, .ov false [.sl (some 25) (a0.map eRt)]), (1, .d false [.fn F1 K1])]) (by kernel_rfl) ?_
 unfold slices_DeleteFunc_Limpl_Rat_impl_Rat at h
 refine k_sreg (r_go [(0, .ov false [.sl (some 25) (a0.map eRt)]), (1, .d false [.fn F1 K1])] [] [] (by kernel_rfl) trivial) ?_
 replace h := bind_some' h
 obtain ⟨v1, hv1, h⟩ := h
 refine k_sreg (r_go [(0, .ov false [.sl (some 25) (a0.map eRt)]), (1, .d false [.fn F1 K1]), (5, .p (.int .i64 v1))] [(2, {call := some ([.d false [.sl none (a0.map eRt)], .d false [.fn F1 K1]], [.p (.int .i64 v1)], true)})] [([.d false [.sl none (eraL (a0.map eRt))], .d false [.fn F1 K1]] : List Arg) = [.d false [.sl none (a0.map eRt)], .d false [.fn F1 K1]], Meets Try.prog 144 ([.d false [.sl none (a0.map eRt)], .d false [.fn F1 K1]] ++ []) { vals := [.p (.int .i64 v1)] }, (!true || List.all [.p (.int .i64 v1)] simpleR) = true] (by kernel_rfl) ⟨(by simp only [eraL_enc (h := eRt) (era_P er_I er_I)]), (wk_slices_IndexFunc_Limpl_Rat_impl_Rat_d hp1 hv1), (bt rfl), trivial⟩) ?_
 refine k_seq ?_
 refine k_sreg (r_go [(0, .ov false [.sl (some 25) (a0.map eRt)]), (1, .d false [.fn F1 K1]), (5, .p (.int .i64 v1)), (12, .p (.bool (v1 == (-1))))] [] [] (by kernel_rfl) trivial) ?_
 refine k_cond (b := (v1 == (-1))) (by kernel_rfl) (fun hc2_1 => ?_) (fun hc2_1 => ?_)
 ·replace h := ite_t hc2_1 h
  refine k_sreg (r_go [(4, .ov false [.sl (some 25) (a0.map eRt)])] [] [] (by kernel_rfl) trivial) ?_
  refine k_ret ?_
  refine q_r ?_
  obtain rfl := Option.some.inj h
  exact eb_ret (ls := [(.ov false [.sl (some 25) (a0.map eRt)], 4)]) (by kernel_rfl) rfl rfl (by kernel_rfl) (by kernel_rfl)
 ·replace h := ite_f hc2_1 h
  refine k_skip ?_
  refine q_n ?_
  refine k_join (J := fun (x : ((List Qr) × Int)) => [(0, .ov false [.sl (some 25) (x.1.map eRt)]), (5, .p (.int .i64 x.2))]) (K := fun x => slices_DeleteFunc_Limpl_Rat_impl_Rat_k1 x = some r) (fun x3 h => ?_) ?_
  ·unfold slices_DeleteFunc_Limpl_Rat_impl_Rat_k1 at h
   replace h := bind_some' h
   obtain ⟨u4, hu4, h⟩ := h
   refine k_sreg (r_clear (t := 48) (e := 25) (sz := 2) (k := .i64) (n := x3.2) (rows := (x3.1.map eRt)) (rows' := ((x3.1.take (Int.toNat x3.2) ++ List.replicate (x3.1.length - (Int.toNat x3.2)) (0, 0)).map eRt)) (z := [.raw (.int .i64 0), .raw (.int .i64 0)]) [(0, .ov false [.sl (some 25) ((x3.1.take (Int.toNat x3.2) ++ List.replicate (x3.1.length - (Int.toNat x3.2)) (0, 0)).map eRt)]), (5, .p (.int .i64 x3.2))] ⟨rfl, rfl, rfl⟩ ⟨rfl, rfl, rfl⟩ ⟨rfl, rfl, rfl⟩ ⟨rfl, rfl, rfl⟩ (by kernel_rfl) (by kernel_rfl) (by kernel_rfl) rfl (by kernel_rfl) (by kernel_rfl) (by kernel_rfl) (by kernel_rfl) (guardO_some hu4).1 (by have hg := (guardO_some hu4).2; simpa using hg) (raw_map fun _ => rfl) (clr_map eRt x3.1 (Int.toNat x3.2) (0, 0) (zr := [.raw (.int .i64 0), .raw (.int .i64 0)]) rfl)) ?_
   replace h := bind_some' h
   obtain ⟨u5, hu5, h⟩ := h
   refine k_sreg (r_trunc (t := 48) (e := 25) (sz := 2) (k := .i64) (n := x3.2) (rows := ((x3.1.take (Int.toNat x3.2) ++ List.replicate (x3.1.length - (Int.toNat x3.2)) (0, 0)).map eRt)) (rows' := (((x3.1.take (Int.toNat x3.2) ++ List.replicate (x3.1.length - (Int.toNat x3.2)) (0, 0)).take (Int.toNat x3.2)).map eRt)) [(4, .ov false [.sl (some 25) (((x3.1.take (Int.toNat x3.2) ++ List.replicate (x3.1.length - (Int.toNat x3.2)) (0, 0)).take (Int.toNat x3.2)).map eRt)])] ⟨rfl, rfl, rfl⟩ ⟨rfl, rfl, rfl⟩ ⟨rfl, rfl, rfl⟩ ⟨rfl, rfl, rfl⟩ (by kernel_rfl) (by kernel_rfl) (by kernel_rfl) (by kernel_rfl) (by kernel_rfl) (by kernel_rfl) (by kernel_rfl) (guardO_some hu5).1 (by have hg := (guardO_some hu5).2; simpa using hg) (by simp)) ?_
   refine k_ret ?_
   obtain rfl := Option.some.inj h
   exact eb_ret (ls := [(.ov false [.sl (some 25) (((x3.1.take (Int.toNat x3.2) ++ List.replicate (x3.1.length - (Int.toNat x3.2)) (0, 0)).take (Int.toNat x3.2)).map eRt)], 4)]) (by kernel_rfl) rfl rfl (by kernel_rfl) (by kernel_rfl)
  ·refine k_sreg (r_go [(0, .ov false [.sl (some 25) (a0.map eRt)]), (1, .d false [.fn F1 K1]), (5, .p (.int .i64 v1)), (6, .p (.int .i64 (w64 (v1 + 1))))] [] [] (by kernel_rfl) trivial) ?_
   refine k_block ?_
   obtain ⟨y7, hl_x6, hk_x6⟩ := bind_some' h
   clear h
   refine k_loop (J := fun (x : ((List Qr) × Int × Int)) => [(0, .ov false [.sl (some 25) (x.1.map eRt)]), (1, .d false [.fn F1 K1]), (5, .p (.int .i64 x.2.1)), (6, .p (.int .i64 x.2.2))]) hl_x6 (wk_of (by kernel_rfl) (by kernel_rfl)) (fun x6 o_x6 h hy_x6 => ?_)
   unfold slices_DeleteFunc_Limpl_Rat_impl_Rat_b1 at h
   refine k_seq ?_
   refine k_sreg (r_go [(0, .ov false [.sl (some 25) (x6.1.map eRt)]), (1, .d false [.fn F1 K1]), (5, .p (.int .i64 x6.2.1)), (6, .p (.int .i64 x6.2.2)), (19, .p (.bool (decide (x6.2.2 < (x6.1.length : Int)))))] [(2, {n := some x6.1.length})] [(x6.1.map eRt).length = x6.1.length] (by kernel_rfl) ⟨(List.length_map ..), trivial⟩) ?_
   refine k_cond (b := (decide (x6.2.2 < (x6.1.length : Int)))) (by kernel_rfl) (fun hc5_7 => ?_) (fun hc5_7 => ?_)
   ·replace h := ite_t hc5_7 h
    refine k_skip ?_
    refine q_n ?_
    refine k_seq ?_
    refine k_block ?_
    replace h := bind_some' h
    obtain ⟨v9, hv9, h⟩ := h
    refine k_sreg (r_go [(0, .ov false [.sl (some 25) (x6.1.map eRt)]), (1, .d false [.fn F1 K1]), (5, .p (.int .i64 x6.2.1)), (6, .p (.int .i64 x6.2.2)), (7, .box (eRt v9))] [(2, {row := some (eRt v9)}), (3, {row := some (eRt v9)})] [0 ≤ x6.2.2, (x6.1.map eRt)[(Int.toNat x6.2.2)]? = some (eRt v9), getRow [[.sl (some 25) (x6.1.map eRt)]] [(0, 0), ((Int.toNat x6.2.2), 0)] = some (eRt v9)] (by kernel_rfl) ⟨(idxO_some hv9).1, (map_get eRt (idxO_some hv9).2), ((gr0 rfl).trans (gre (map_get eRt (idxO_some hv9).2))), trivial⟩) ?_
    replace h := bind_some' h
    obtain ⟨v10, hv10, h⟩ := h
    refine k_sreg (r_go [(0, .ov false [.sl (some 25) (x6.1.map eRt)]), (1, .d false [.fn F1 K1]), (5, .p (.int .i64 x6.2.1)), (6, .p (.int .i64 x6.2.2)), (7, .box (eRt v9)), (29, .p (.bool (!v10)))] [(2, {call := some ([.v (vRt v9)], [.p (.bool v10)], true)})] [([.v (vRt v9)] : List Arg) = [.v (vRt v9)], Meets Try.prog F1 ([.v (vRt v9)] ++ (K1.map fun (g, cs) => mkA g cs)) { vals := [.p (.bool v10)] }, List.all [.p (.bool v10)] simpleR = true] (by kernel_rfl) ⟨rfl, (hp1 _ _ hv10), rfl, trivial⟩) ?_
    refine k_cond (b := (!v10)) (by kernel_rfl) (fun hc6_10 => ?_) (fun hc6_10 => ?_)
    ·replace h := ite_t hc6_10 h
     replace h := bind_some' h
     obtain ⟨v12, hv12, h⟩ := h
     refine k_sreg (r_go [(0, .ov false [.sl (some 25) ((x6.1.set (Int.toNat x6.2.1) v9).map eRt)]), (1, .d false [.fn F1 K1]), (5, .p (.int .i64 x6.2.1)), (6, .p (.int .i64 x6.2.2))] [(3, {row := some (eRt v12)}), (4, {row := some (eRt v12), fix := some (0, .ov false [.sl (some 25) ((x6.1.set (Int.toNat x6.2.1) v9).map eRt)])})] [0 ≤ x6.2.1, (x6.1.map eRt)[(Int.toNat x6.2.1)]? = some (eRt v12), getRow [[.sl (some 25) (x6.1.map eRt)]] [(0, 0), ((Int.toNat x6.2.1), 0)] = some (eRt v12), (SV.ov false [.sl (some 25) (setL (x6.1.map eRt) [((Int.toNat x6.2.1), 0)] (eRt v9))] : SV) = .ov false [.sl (some 25) ((x6.1.set (Int.toNat x6.2.1) v9).map eRt)]] (by kernel_rfl) ⟨(idxO_some hv12).1, (map_get eRt (idxO_some hv12).2), ((gr0 rfl).trans (gre (map_get eRt (idxO_some hv12).2))), (congrArg (fun z => SV.ov false [.sl (some 25) z]) (set1 (f := eRt) (y := v9) (idxO_some hv12).2 rfl)), trivial⟩) ?_
     refine k_reg (r_go [(0, .ov false [.sl (some 25) ((x6.1.set (Int.toNat x6.2.1) v9).map eRt)]), (1, .d false [.fn F1 K1]), (5, .p (.int .i64 (w64 (x6.2.1 + 1)))), (6, .p (.int .i64 x6.2.2))] [] [] (by kernel_rfl) trivial) ?_
     refine b_n ?_
     refine q_n ?_
     refine k_reg (r_go [(0, .ov false [.sl (some 25) ((x6.1.set (Int.toNat x6.2.1) v9).map eRt)]), (1, .d false [.fn F1 K1]), (5, .p (.int .i64 (w64 (x6.2.1 + 1)))), (6, .p (.int .i64 (w64 (x6.2.2 + 1))))] [] [] (by kernel_rfl) trivial) ?_
     exact lq_n ((x6.1.set (Int.toNat x6.2.1) v9), (w64 (x6.2.1 + 1)), (w64 (x6.2.2 + 1))) (Option.some.inj h).symm (wk_of (by kernel_rfl) (by kernel_rfl))
    ·replace h := ite_f hc6_10 h
     refine k_skip ?_
     refine b_n ?_
     refine q_n ?_
     refine k_reg (r_go [(0, .ov false [.sl (some 25) (x6.1.map eRt)]), (1, .d false [.fn F1 K1]), (5, .p (.int .i64 x6.2.1)), (6, .p (.int .i64 (w64 (x6.2.2 + 1))))] [] [] (by kernel_rfl) trivial) ?_
     exact lq_n (x6.1, x6.2.1, (w64 (x6.2.2 + 1))) (Option.some.inj h).symm (wk_of (by kernel_rfl) (by kernel_rfl))
   ·replace h := ite_f hc5_7 h
    refine k_exit ?_
    refine q_x ?_
    refine lq_x ?_
    refine b_x ?_
    have hyy := hy_x6 _ (Option.some.inj h).symm
    subst hyy
    have h := hk_x6
    refine q_n ?_
    exact ⟨(x6.1, x6.2.1), h, (wk_of (by kernel_rfl) (by kernel_rfl))⟩
theorem wk_impl_cutsBetween_1 {a0 : Qr} {c0 : Qr} {c1 : Qr}  {r : Bool} (h : impl_cutsBetween_1 a0 c0 c1 = some r) : Meets Try.prog 150 [.v (vRt a0), .d false [.pt (eRt c0)], .d false [.pt (eRt c1)]] { vals := [.p (.bool r)] } := by
 refine Meets_ofL (by kernel_rfl) Try.func150 rfl (by kernel_rfl) (l0 := [(0, .p (vRt a0)), (1, .d false [.pt (eRt c0)]), (2, .d false [.pt (eRt c1)])]) (by kernel_rfl) ?_
 unfold impl_cutsBetween_1 at h
 refine k_sreg (r_go [(1, .d false [.pt (eRt c0)]), (2, .d false [.pt (eRt c1)]), (3, .box (eRt a0))] [] [] (by kernel_rfl) trivial) ?_
 replace h := bind_some' h
 obtain ⟨v1, hv1, h⟩ := h
 replace h := bind_some' h
 obtain ⟨w3, hw3, h⟩ := h
 refine k_sreg (l1 := [(4, .p (.bool w3))]) ?_ ?_
 ·clear h
  rcases Bool.eq_false_or_eq_true (!v1) with ha0 | ha0
  ·replace hw3 := ite_t ha0 hw3
   have hw3 := Option.some.inj hw3
   subst hw3
   exact (r_go [(4, .p (.bool true))] [(2, {call := some ([.v (vRt c0), .v (vRt a0)], [.p (.bool v1)], true)}), (5, {g := some true}), (6, {g := some true}), (7, {g := some true}), (8, {g := some true}), (9, {b := some true})] [([.v (vRt c0), .v (vRt a0)] : List Arg) = [.v (vRt c0), .v (vRt a0)], Meets Try.prog 102 ([.v (vRt c0), .v (vRt a0)] ++ []) { vals := [.p (.bool v1)] }, (!true || List.all [.p (.bool v1)] simpleR) = true, (!v1) = true, (!v1) = true, (!v1) = true, (!v1) = true, (!v1) = true] (by kernel_rfl) ⟨rfl, (wk_impl_less hv1), (bt rfl), ha0, ha0, ha0, ha0, ha0, trivial⟩)
  ·replace hw3 := ite_f ha0 hw3
   replace hw3 := bind_some' hw3
   obtain ⟨v2, hv2, hw3⟩ := hw3
   have hw3 := Option.some.inj hw3
   subst hw3
   exact (r_go [(4, .p (.bool (!v2)))] [(2, {call := some ([.v (vRt c0), .v (vRt a0)], [.p (.bool v1)], true)}), (5, {g := some false}), (6, {g := some false}), (7, {g := some false, call := some ([.v (vRt a0), .v (vRt c1)], [.p (.bool v2)], true)}), (8, {g := some false}), (9, {b := some false})] [([.v (vRt c0), .v (vRt a0)] : List Arg) = [.v (vRt c0), .v (vRt a0)], Meets Try.prog 102 ([.v (vRt c0), .v (vRt a0)] ++ []) { vals := [.p (.bool v1)] }, (!true || List.all [.p (.bool v1)] simpleR) = true, (!v1) = false, (!v1) = false, (!v1) = false, ([.v (vRt a0), .v (vRt c1)] : List Arg) = [.v (vRt a0), .v (vRt c1)], Meets Try.prog 102 ([.v (vRt a0), .v (vRt c1)] ++ []) { vals := [.p (.bool v2)] }, (!true || List.all [.p (.bool v2)] simpleR) = true, (!v1) = false, (!v1) = false] (by kernel_rfl) ⟨rfl, (wk_impl_less hv1), (bt rfl), ha0, ha0, ha0, rfl, (wk_impl_less hv2), (bt rfl), ha0, ha0, trivial⟩)
 ·refine k_ret ?_
  obtain rfl := Option.some.inj h
  exact e_ret (ls := [(.p (.bool w3), 4)]) (by kernel_rfl) rfl (by kernel_rfl) rfl
theorem wk_slices_Reverse_Limpl_Rat_impl_Rat {a0 : (List Qr)}  {r : (List Qr)} (h : slices_Reverse_Limpl_Rat_impl_Rat a0 = some r) : MeetsB Try.prog 151 (.ov false [.sl (some 25) (a0.map eRt)]) [] [] (.ov false [.sl (some 25) (r.map eRt)]) := by
 refine MeetsB_ofL (by kernel_rfl) Try.func151 rfl (by kernel_rfl) rfl (l0 := [(0, .ov false [.sl (some 25) (a0.map eRt)])]) (by kernel_rfl) ?_
 unfold slices_Reverse_Limpl_Rat_impl_Rat at h
 refine k_sreg (r_go [(0, .ov false [.sl (some 25) (a0.map eRt)]), (2, .p (.int .i64 0)), (3, .p (.int .i64 (w64 ((a0.length : Int) - 1))))] [(1, {n := some a0.length})] [(a0.map eRt).length = a0.length] (by kernel_rfl) ⟨(List.length_map ..), trivial⟩) ?_
 refine k_block ?_
 obtain ⟨y2, hl_x1, hk_x1⟩ := bind_some' h
 clear h
 refine k_loop (J := fun (x : ((List Qr) × Int × Int)) => [(0, .ov false [.sl (some 25) (x.1.map eRt)]), (2, .p (.int .i64 x.2.1)), (3, .p (.int .i64 x.2.2))]) hl_x1 (wk_of (by kernel_rfl) (by kernel_rfl)) (fun x1 o_x1 h hy_x1 => ?_)
 unfold slices_Reverse_Limpl_Rat_impl_Rat_b1 at h
 refine k_seq ?_
 refine k_sreg (r_go [(0, .ov false [.sl (some 25) (x1.1.map eRt)]), (2, .p (.int .i64 x1.2.1)), (3, .p (.int .i64 x1.2.2)), (9, .p (.bool (decide (x1.2.1 < x1.2.2))))] [] [] (by kernel_rfl) trivial) ?_
 refine k_cond (b := (decide (x1.2.1 < x1.2.2))) (by kernel_rfl) (fun hc4_2 => ?_) (fun hc4_2 => ?_)
 ·replace h := ite_t hc4_2 h
  refine k_skip ?_
  refine q_n ?_
  refine k_seq ?_
  refine k_block ?_
  replace h := bind_some' h
  obtain ⟨v4, hv4, h⟩ := h
  replace h := bind_some' h
  obtain ⟨v5, hv5, h⟩ := h
  replace h := bind_some' h
  obtain ⟨u6, hu6, h⟩ := h
  refine k_reg (r_swap (t := 48) (e := 25) (g := true) (sz := 2) (rows := (x1.1.map eRt)) (rows' := (((x1.1.set (Int.toNat x1.2.1) v5).set (Int.toNat x1.2.2) v4).map eRt)) (i := x1.2.1) (j := x1.2.2) (ri := eRt v4) (rj := eRt v5) [(0, .ov false [.sl (some 25) (((x1.1.set (Int.toNat x1.2.1) v5).set (Int.toNat x1.2.2) v4).map eRt)]), (2, .p (.int .i64 x1.2.1)), (3, .p (.int .i64 x1.2.2))] Try_mixed ⟨rfl, rfl⟩ ⟨rfl, rfl⟩ ⟨rfl, rfl⟩ ⟨rfl, rfl⟩ ⟨rfl, rfl⟩ ⟨rfl, rfl⟩ ⟨rfl, rfl⟩ ⟨rfl, rfl⟩ ⟨rfl, rfl⟩ ⟨rfl, rfl⟩ ⟨rfl, rfl⟩ ⟨rfl, rfl⟩ ⟨rfl, rfl⟩ ⟨rfl, rfl⟩ ⟨rfl, rfl⟩ ⟨rfl, rfl⟩ (by kernel_rfl) (by kernel_rfl) (by kernel_rfl) (by decide) (by kernel_rfl) (by kernel_rfl) (by kernel_rfl) (by kernel_rfl) (by kernel_rfl) (raw_map fun _ => rfl) (idxO_some hv4).1 (idxO_some hv5).1 (map_get eRt (idxO_some hv4).2) (map_get eRt (idxO_some hv5).2) (guardO_some hu6) (by simp only [List.map_set])) ?_
  refine b_n ?_
  refine q_n ?_
  refine k_reg (r_go [(0, .ov false [.sl (some 25) (((x1.1.set (Int.toNat x1.2.1) v5).set (Int.toNat x1.2.2) v4).map eRt)]), (2, .p (.int .i64 (w64 (x1.2.1 + 1)))), (3, .p (.int .i64 (w64 (x1.2.2 - 1))))] [] [] (by kernel_rfl) trivial) ?_
  exact lq_n (((x1.1.set (Int.toNat x1.2.1) v5).set (Int.toNat x1.2.2) v4), (w64 (x1.2.1 + 1)), (w64 (x1.2.2 - 1))) (Option.some.inj h).symm (wk_of (by kernel_rfl) (by kernel_rfl))
 ·replace h := ite_f hc4_2 h
  refine k_exit ?_
  refine q_x ?_
  refine lq_x ?_
  refine b_x ?_
  have hyy := hy_x1 _ (Option.some.inj h).symm
  subst hyy
  have h := hk_x1
  obtain rfl := Option.some.inj h
  exact eb_end (ls := []) (by kernel_rfl) rfl rfl (by kernel_rfl) (by kernel_rfl)
theorem wk_impl_cutsBetween {a0 : (List Qr)} {a1 : Qr} {a2 : Qr}  {r : (List Qr)} (h : impl_cutsBetween a0 a1 a2 = some r) : Meets Try.prog 128 [.d false [.sl none (a0.map eRt)], .v (vRt a1), .v (vRt a2)] { vals := [.ov false [.sl (some 25) (r.map eRt)]] } := by
 refine Meets_ofL (by kernel_rfl) Try.func128 rfl (by kernel_rfl) (l0 := [(0, .d false [.sl none (a0.map eRt)]), (1, .p (vRt a1)), (2, .p (vRt a2))]) (by kernel_rfl) ?_
 unfold impl_cutsBetween at h
 refine k_sreg (r_go [(0, .d false [.sl none (a0.map eRt)]), (4, .box (eRt a1)), (5, .box (eRt a2))] [] [] (by kernel_rfl) trivial) ?_
 replace h := bind_some' h
 obtain ⟨v1, hv1, h⟩ := h
 replace h := bind_some' h
 obtain ⟨v2, hv2, h⟩ := h
 refine k_sreg (r_draw Try_mixed 8 [] [(0, .d false [.sl none (a0.map eRt)]), (4, .box (eRt a1)), (5, .box (eRt a2)), (7, .box (eRt v1)), (8, .box (eRt v2))] [(2, {call := some ([.v (vRt a1), .v (vRt a2)], [.p (vRt v1)], true)}), (5, {call := some ([.v (vRt a1), .v (vRt a2)], [.p (vRt v2)], true)})] [([.v (vRt a1), .v (vRt a2)] : List Arg) = [.v (vRt a1), .v (vRt a2)], Meets Try.prog 64 ([.v (vRt a1), .v (vRt a2)] ++ []) { vals := [.p (vRt v1)] }, (!true || List.all [.p (vRt v1)] simpleR) = true, ([.v (vRt a1), .v (vRt a2)] : List Arg) = [.v (vRt a1), .v (vRt a2)], Meets Try.prog 66 ([.v (vRt a1), .v (vRt a2)] ++ []) { vals := [.p (vRt v2)] }, (!true || List.all [.p (vRt v2)] simpleR) = true] (by kernel_rfl) ⟨rfl, (wk_impl_lesser hv1), (bt rfl), rfl, (wk_impl_greater hv2), (bt rfl), trivial⟩) ?_
 refine k_frz 7 (eRt v1) (eRt v1) [(0, .d false [.sl none (a0.map eRt)]), (4, .box (eRt a1)), (5, .box (eRt a2)), (7, .d false [.pt (eRt v1)]), (8, .box (eRt v2))] (by kernel_rfl) (erc_raw (erc_raw rfl)) (by kernel_rfl) (by kernel_rfl) ?_
 refine k_frz 8 (eRt v2) (eRt v2) [(0, .d false [.sl none (a0.map eRt)]), (4, .box (eRt a1)), (5, .box (eRt a2)), (7, .d false [.pt (eRt v1)]), (8, .d false [.pt (eRt v2)])] (by kernel_rfl) (erc_raw (erc_raw rfl)) (by kernel_rfl) (by kernel_rfl) ?_
 replace h := bind_some' h
 obtain ⟨v3, hv3, h⟩ := h
 replace h := bind_some' h
 obtain ⟨v4, hv4, h⟩ := h
 refine k_sreg (r_go [(4, .box (eRt a1)), (5, .box (eRt a2)), (9, .ov false [.sl (some 25) (v4.map eRt)])] [(1, {call := some ([.d false [.sl none (a0.map eRt)]], [.ov false [.sl (some 25) (v3.map eRt)]], true)}), (3, {lend := some ([.d false [.fn 150 [(false, [.pt (eRt v1)]), (false, [.pt (eRt v2)])]]], [.ov false [.sl (some 25) (v4.map eRt)]], .u, true)})] [([.d false [.sl none (a0.map eRt)]] : List Arg) = [.d false [.sl none (a0.map eRt)]], Meets Try.prog 149 ([.d false [.sl none (a0.map eRt)]] ++ []) { vals := [.ov false [.sl (some 25) (v3.map eRt)]] }, (!true || List.all [.ov false [.sl (some 25) (v3.map eRt)]] simpleR) = true, ([.d false [.fn 150 [(false, [.pt (eRt v1)]), (false, [.pt (eRt v2)])]]] : List Arg) = [.d false [.fn 150 [(false, [.pt (eRt v1)]), (false, [.pt (eRt v2)])]]], MeetsB Try.prog 148 (.ov false [.sl (some 25) (v3.map eRt)]) [.d false [.fn 150 [(false, [.pt (eRt v1)]), (false, [.pt (eRt v2)])]]] [.ov false [.sl (some 25) (v4.map eRt)]] .u, (!true || List.all [.ov false [.sl (some 25) (v4.map eRt)]] simpleR) = true] (by kernel_rfl) ⟨rfl, (wk_slices_Clone_Limpl_Rat_impl_Rat hv3), (bt (sa_o (wnR1 (wnL_enc (wn_P wn_I wn_I)) rfl) rfl)), rfl, (wk_slices_DeleteFunc_Limpl_Rat_impl_Rat_d (fun x0 y hy => wk_impl_cutsBetween_1 hy) hv4), (bt (sa_o (wnR1 (wnL_enc (wn_P wn_I wn_I)) rfl) rfl)), trivial⟩) ?_
 refine k_seq ?_
 replace h := bind_some' h
 obtain ⟨v5, hv5, h⟩ := h
 refine k_sreg (r_go [(9, .ov false [.sl (some 25) (v4.map eRt)]), (22, .p (.bool v5))] [(2, {call := some ([.v (vRt a2), .v (vRt a1)], [.p (.bool v5)], true)})] [([.v (vRt a2), .v (vRt a1)] : List Arg) = [.v (vRt a2), .v (vRt a1)], Meets Try.prog 102 ([.v (vRt a2), .v (vRt a1)] ++ []) { vals := [.p (.bool v5)] }, (!true || List.all [.p (.bool v5)] simpleR) = true] (by kernel_rfl) ⟨rfl, (wk_impl_less hv5), (bt rfl), trivial⟩) ?_
 refine k_cond (b := v5) (by kernel_rfl) (fun hc2_5 => ?_) (fun hc2_5 => ?_)
 ·replace h := ite_t hc2_5 h
  replace h := bind_some' h
  obtain ⟨v7, hv7, h⟩ := h
  refine k_reg (r_go [(9, .ov false [.sl (some 25) (v7.map eRt)])] [(1, {lend := some ([], [], .ov false [.sl (some 25) (v7.map eRt)], true)})] [([] : List Arg) = [], MeetsB Try.prog 151 (.ov false [.sl (some 25) (v4.map eRt)]) [] [] (.ov false [.sl (some 25) (v7.map eRt)]), (!true || (List.all [] simpleR && wnS (.ov false [.sl (some 25) (v7.map eRt)]))) = true] (by kernel_rfl) ⟨rfl, (wk_slices_Reverse_Limpl_Rat_impl_Rat hv7), (bt (ls_t rfl (wnR1 (wnL_enc (wn_P wn_I wn_I)) rfl))), trivial⟩) ?_
  refine q_n ?_
  refine k_sreg (r_go [(6, .ov false [.sl (some 25) (v7.map eRt)])] [] [] (by kernel_rfl) trivial) ?_
  refine k_ret ?_
  obtain rfl := Option.some.inj h
  exact e_ret (ls := [(.ov false [.sl (some 25) (v7.map eRt)], 6)]) (by kernel_rfl) rfl (by kernel_rfl) rfl
 ·replace h := ite_f hc2_5 h
  refine k_skip ?_
  refine q_n ?_
  refine k_sreg (r_go [(6, .ov false [.sl (some 25) (v4.map eRt)])] [] [] (by kernel_rfl) trivial) ?_
  refine k_ret ?_
  obtain rfl := Option.some.inj h
  exact e_ret (ls := [(.ov false [.sl (some 25) (v4.map eRt)], 6)]) (by kernel_rfl) rfl (by kernel_rfl) rfl
theorem wk_impl_iterates {a0 : (List Qp)} {a1 : Int}  {r : ((List (List Qr)) × Bool)} (h : impl_iterates a0 a1 = some r) : Meets Try.prog 103 [.d false [.sl none (a0.map ePt)], .v (.int .i64 a1)] { vals := [.ov false [.sl (some 48) (r.1.map (eO 25 eRt))], .p (.bool r.2)] } := by
 refine Meets_ofL (by kernel_rfl) Try.func103 rfl (by kernel_rfl) (l0 := [(0, .d false [.sl none (a0.map ePt)]), (1, .p (.int .i64 a1))]) (by kernel_rfl) ?_
 unfold impl_iterates at h
 refine k_sreg (r_go [(0, .d false [.sl none (a0.map ePt)]), (1, .p (.int .i64 a1))] [] [] (by kernel_rfl) trivial) ?_
 refine k_sreg (r_go [(0, .d false [.sl none (a0.map ePt)]), (1, .p (.int .i64 a1)), (6, .box [.raw (.bool false)])] [] [] (by kernel_rfl) trivial) ?_
 replace h := bind_some' h
 obtain ⟨v1, hv1, h⟩ := h
 replace h := bind_some' h
 obtain ⟨v2, hv2, h⟩ := h
 refine k_sreg (r_go [(0, .d false [.sl none (a0.map ePt)]), (1, .p (.int .i64 a1)), (6, .box [.raw (.bool false)]), (7, .ov false [.sl (some 48) (([[v1, v2]]).map (eO 25 eRt))])] [(0, {call := some ([], [.p (vRt v1)], true)}), (1, {call := some ([], [.p (vRt v2)], true)})] [([] : List Arg) = [], Meets Try.prog 65 ([] ++ []) { vals := [.p (vRt v1)] }, (!true || List.all [.p (vRt v1)] simpleR) = true, ([] : List Arg) = [], Meets Try.prog 67 ([] ++ []) { vals := [.p (vRt v2)] }, (!true || List.all [.p (vRt v2)] simpleR) = true] (by kernel_rfl) ⟨rfl, (wk_impl_zero hv1), (bt rfl), rfl, (wk_impl_oneRat hv2), (bt rfl), trivial⟩) ?_
 replace h := bind_some' h
 obtain ⟨v3, hv3, h⟩ := h
 refine k_sreg (r_go [(0, .d false [.sl none (a0.map ePt)]), (1, .p (.int .i64 a1)), (6, .box [.raw (.bool false)]), (7, .ov false [.sl (some 48) (([[v1, v2]]).map (eO 25 eRt))]), (8, .ov false [.sl (some 25) (v3.map eRt)])] [(1, {call := some ([.d false [.sl none (a0.map ePt)]], [.ov false [.sl (some 25) (v3.map eRt)]], true)})] [([.d false [.sl none (a0.map ePt)]] : List Arg) = [.d false [.sl none (a0.map ePt)]], Meets Try.prog 126 ([.d false [.sl none (a0.map ePt)]] ++ []) { vals := [.ov false [.sl (some 25) (v3.map eRt)]] }, (!true || List.all [.ov false [.sl (some 25) (v3.map eRt)]] simpleR) = true] (by kernel_rfl) ⟨rfl, (wk_impl_turns hv3), (bt (sa_o (wnR1 (wnL_enc (wn_P wn_I wn_I)) rfl) rfl)), trivial⟩) ?_
 refine k_join (J := fun (x : (List (List Qr))) => [(7, .ov false [.sl (some 48) (x.map (eO 25 eRt))])]) (K := fun x => impl_iterates_k1 x = some r) (fun x4 h => ?_) ?_
 ·unfold impl_iterates_k1 at h
  refine k_sreg (r_go [(4, .ov false [.sl (some 48) (x4.map (eO 25 eRt))]), (5, .p (.bool true))] [] [] (by kernel_rfl) trivial) ?_
  refine k_ret ?_
  obtain rfl := Option.some.inj h
  exact e_ret (ls := [(.ov false [.sl (some 48) (x4.map (eO 25 eRt))], 4), (.p (.bool true), 5)]) (by kernel_rfl) rfl (by kernel_rfl) rfl
 ·refine k_sreg (r_go [(0, .d false [.sl none (a0.map ePt)]), (6, .box [.raw (.bool false)]), (7, .ov false [.sl (some 48) (([[v1, v2]]).map (eO 25 eRt))]), (8, .ov false [.sl (some 25) (v3.map eRt)]), (20, .p (.int .i64 a1)), (21, .p (.int .i64 0))] [] [] (by kernel_rfl) trivial) ?_
  refine k_block ?_
  obtain ⟨y6, hl_x5, hk_x5⟩ := bind_some' h
  clear h
  refine k_loop (J := fun (x : (Bool × (List (List Qr)) × Int)) => [(0, .d false [.sl none (a0.map ePt)]), (6, .box [.raw (.bool x.1)]), (7, .ov false [.sl (some 48) (x.2.1.map (eO 25 eRt))]), (8, .ov false [.sl (some 25) (v3.map eRt)]), (20, .p (.int .i64 a1)), (21, .p (.int .i64 x.2.2))]) hl_x5 (wk_of (by kernel_rfl) (by kernel_rfl)) (fun x5 o_x5 h hy_x5 => ?_)
  unfold impl_iterates_b1 at h
  refine k_sreg (r_go [(0, .d false [.sl none (a0.map ePt)]), (6, .box [.raw (.bool x5.1)]), (7, .ov false [.sl (some 48) (x5.2.1.map (eO 25 eRt))]), (8, .ov false [.sl (some 25) (v3.map eRt)]), (20, .p (.int .i64 a1)), (21, .p (.int .i64 x5.2.2)), (22, .p (.bool (decide (x5.2.2 < a1))))] [] [] (by kernel_rfl) trivial) ?_
  refine k_seq ?_
  refine k_cond (b := (decide (x5.2.2 < a1))) (by kernel_rfl) (fun hc5_6 => ?_) (fun hc5_6 => ?_)
  ·replace h := ite_t hc5_6 h
   refine k_skip ?_
   refine q_n ?_
   refine k_join (J := fun (x : (Bool × (List (List Qr)))) => [(0, .d false [.sl none (a0.map ePt)]), (6, .box [.raw (.bool x.1)]), (7, .ov false [.sl (some 48) (x.2.map (eO 25 eRt))]), (8, .ov false [.sl (some 25) (v3.map eRt)]), (20, .p (.int .i64 a1)), (21, .p (.int .i64 x5.2.2))]) (K := fun x => impl_iterates_k2 x5 x = some o_x5) (fun x8 h => ?_) ?_
   ·unfold impl_iterates_k2 at h
    refine k_reg (r_go [(0, .d false [.sl none (a0.map ePt)]), (6, .box [.raw (.bool x8.1)]), (7, .ov false [.sl (some 48) (x8.2.map (eO 25 eRt))]), (8, .ov false [.sl (some 25) (v3.map eRt)]), (20, .p (.int .i64 a1)), (21, .p (.int .i64 (w64 (x5.2.2 + 1))))] [] [] (by kernel_rfl) trivial) ?_
    exact lq_n (x8.1, x8.2, (w64 (x5.2.2 + 1))) (Option.some.inj h).symm (wk_of (by kernel_rfl) (by kernel_rfl))
   ·refine k_block ?_
    replace h := bind_some' h
    obtain ⟨v9, hv9, h⟩ := h
    refine k_sreg (r_go [(0, .d false [.sl none (a0.map ePt)]), (6, .box [.raw (.bool x5.1)]), (7, .ov false [.sl (some 48) (x5.2.1.map (eO 25 eRt))]), (8, .ov false [.sl (some 25) (v3.map eRt)]), (9, .ref 7 [(0, 0), ((Int.toNat (w64 ((x5.2.1.length : Int) - 1))), 0)] none), (20, .p (.int .i64 a1)), (21, .p (.int .i64 x5.2.2))] [(2, {n := some x5.2.1.length}), (4, {row := some [.sl (some 25) (v9.map eRt)]}), (5, {row := some [.sl (some 25) (v9.map eRt)]})] [(x5.2.1.map (eO 25 eRt)).length = x5.2.1.length, 0 ≤ (w64 ((x5.2.1.length : Int) - 1)), (x5.2.1.map (eO 25 eRt))[(Int.toNat (w64 ((x5.2.1.length : Int) - 1)))]? = some [.sl (some 25) (v9.map eRt)], frR [.sl (some 25) (v9.map eRt)] = false, getRow [[.sl (some 48) (x5.2.1.map (eO 25 eRt))]] [(0, 0), ((Int.toNat (w64 ((x5.2.1.length : Int) - 1))), 0)] = some [.sl (some 25) (v9.map eRt)]] (by kernel_rfl) ⟨(List.length_map ..), (idxO_some hv9).1, (map_get (eO 25 eRt) (idxO_some hv9).2), rfl, ((gr0 rfl).trans (gre (map_get (eO 25 eRt) (idxO_some hv9).2))), trivial⟩) ?_
    replace h := bind_some' h
    obtain ⟨v10, hv10, h⟩ := h
    replace h := bind_some' h
    obtain ⟨v11, hv11, h⟩ := h
    refine k_sreg (r_go [(0, .d false [.sl none (a0.map ePt)]), (6, .box [.raw (.bool v11.2)]), (7, .ov false [.sl (some 48) (x5.2.1.map (eO 25 eRt))]), (8, .ov false [.sl (some 25) (v3.map eRt)]), (9, .ref 7 [(0, 0), ((Int.toNat (w64 ((x5.2.1.length : Int) - 1))), 0)] none), (10, .ov false [.sl (some 25) (([v11.1]).map eRt)]), (20, .p (.int .i64 a1)), (21, .p (.int .i64 x5.2.2))] [(2, {deep := some [.sl (some 25) (v9.map eRt)], row := some (eRt v10)}), (3, {row := some (eRt v10)}), (4, {lend := some ([.d false [.sl none (a0.map ePt)], .v (vRt v10)], [.p (vRt v11.1)], .box [.raw (.bool v11.2)], true)})] [0 ≤ 0, (v9.map eRt)[(Int.toNat 0)]? = some (eRt v10), getRow [[.sl (some 48) (x5.2.1.map (eO 25 eRt))]] [(0, 0), ((Int.toNat (w64 ((x5.2.1.length : Int) - 1))), 0)] = some [.sl (some 25) (v9.map eRt)], getRow [[.sl (some 48) (x5.2.1.map (eO 25 eRt))]] [(0, 0), ((Int.toNat (w64 ((x5.2.1.length : Int) - 1))), 0), ((Int.toNat 0), 0)] = some (eRt v10), ([.d false [.sl none (a0.map ePt)], .v (vRt v10)] : List Arg) = [.d false [.sl none (a0.map ePt)], .v (vRt v10)], MeetsB Try.prog 127 (.box [.raw (.bool x5.1)]) [.d false [.sl none (a0.map ePt)], .v (vRt v10)] [.p (vRt v11.1)] (.box [.raw (.bool v11.2)]), (!true || (List.all [.p (vRt v11.1)] simpleR && wnS (.box [.raw (.bool v11.2)]))) = true] (by kernel_rfl) ⟨(idxO_some hv10).1, (map_get eRt (idxO_some hv10).2), ((gr0 rfl).trans (gre (map_get (eO 25 eRt) (idxO_some hv9).2))), ((gr0 rfl).trans ((grs (map_get (eO 25 eRt) (idxO_some hv9).2) rfl).trans (gre (map_get eRt (idxO_some hv10).2)))), rfl, (wk_impl_calc_value hv11), (bt (ls_t rfl (wnc rfl))), trivial⟩) ?_
    refine k_join (J := fun (x : (Bool × (List Qr))) => [(0, .d false [.sl none (a0.map ePt)]), (6, .box [.raw (.bool x.1)]), (7, .ov false [.sl (some 48) (x5.2.1.map (eO 25 eRt))]), (8, .ov false [.sl (some 25) (v3.map eRt)]), (10, .ov false [.sl (some 25) (x.2.map eRt)]), (20, .p (.int .i64 a1)), (21, .p (.int .i64 x5.2.2))]) (K := fun x => impl_iterates_k3 x5 x = some o_x5) (fun x12 h => ?_) ?_
    ·unfold impl_iterates_k3 at h
     refine k_seq ?_
     refine k_sreg (l1 := [(0, .d false [.sl none (a0.map ePt)]), (6, .box [.raw (.bool x12.1)]), (7, .ov false [.sl (some 48) (x5.2.1.map (eO 25 eRt))]), (8, .ov false [.sl (some 25) (v3.map eRt)]), (10, .ov false [.sl (some 25) (x12.2.map eRt)]), (20, .p (.int .i64 a1)), (21, .p (.int .i64 x5.2.2)), (80, .p (.bool (x12.1 || (decide ((w64 ((x12.2.length : Int) - 1)) > 4096)))))]) ?_ ?_
     ·rcases Bool.eq_false_or_eq_true x12.1 with ha1 | ha1
      ·exact RegOk.of_eq (l2 := [(0, .d false [.sl none (a0.map ePt)]), (6, .box [.raw (.bool x12.1)]), (7, .ov false [.sl (some 48) (x5.2.1.map (eO 25 eRt))]), (8, .ov false [.sl (some 25) (v3.map eRt)]), (10, .ov false [.sl (some 25) (x12.2.map eRt)]), (20, .p (.int .i64 a1)), (21, .p (.int .i64 x5.2.2)), (80, .p (.bool (x12.1 || (decide ((w64 ((x12.2.length : Int) - 1)) > 4096)))))]) (r_go [(0, .d false [.sl none (a0.map ePt)]), (6, .box [.raw (.bool x12.1)]), (7, .ov false [.sl (some 48) (x5.2.1.map (eO 25 eRt))]), (8, .ov false [.sl (some 25) (v3.map eRt)]), (10, .ov false [.sl (some 25) (x12.2.map eRt)]), (20, .p (.int .i64 a1)), (21, .p (.int .i64 x5.2.2)), (80, .p (.bool true))] [(3, {g := some true}), (4, {g := some true}), (5, {g := some true}), (6, {g := some true}), (7, {b := some true})] [x12.1 = true, x12.1 = true, x12.1 = true, x12.1 = true, x12.1 = true] (by kernel_rfl) ⟨ha1, ha1, ha1, ha1, ha1, trivial⟩) (by simp [ha1])
      ·exact RegOk.of_eq (l2 := [(0, .d false [.sl none (a0.map ePt)]), (6, .box [.raw (.bool x12.1)]), (7, .ov false [.sl (some 48) (x5.2.1.map (eO 25 eRt))]), (8, .ov false [.sl (some 25) (v3.map eRt)]), (10, .ov false [.sl (some 25) (x12.2.map eRt)]), (20, .p (.int .i64 a1)), (21, .p (.int .i64 x5.2.2)), (80, .p (.bool (x12.1 || (decide ((w64 ((x12.2.length : Int) - 1)) > 4096)))))]) (r_go [(0, .d false [.sl none (a0.map ePt)]), (6, .box [.raw (.bool x12.1)]), (7, .ov false [.sl (some 48) (x5.2.1.map (eO 25 eRt))]), (8, .ov false [.sl (some 25) (v3.map eRt)]), (10, .ov false [.sl (some 25) (x12.2.map eRt)]), (20, .p (.int .i64 a1)), (21, .p (.int .i64 x5.2.2)), (80, .p (.bool (decide ((w64 ((x12.2.length : Int) - 1)) > 4096))))] [(3, {g := some false}), (4, {g := some false, n := some x12.2.length}), (5, {g := some false}), (6, {g := some false}), (7, {b := some false})] [x12.1 = false, x12.1 = false, (x12.2.map eRt).length = x12.2.length, x12.1 = false, x12.1 = false, x12.1 = false] (by kernel_rfl) ⟨ha1, ha1, (List.length_map ..), ha1, ha1, ha1, trivial⟩) (by simp [ha1])
     ·refine k_cond (b := (x12.1 || (decide ((w64 ((x12.2.length : Int) - 1)) > 4096)))) (by kernel_rfl) (fun hc7_12 => ?_) (fun hc7_12 => ?_)
      ·replace h := ite_t hc7_12 h
       refine k_sreg (r_go [(4, .ov false [.sl (some 48) []]), (5, .p (.bool false))] [] [] (by kernel_rfl) trivial) ?_
       refine k_ret ?_
       refine q_r ?_
       refine b_r ?_
       refine q_r ?_
       refine lq_r ?_
       refine b_r ?_
       refine q_r ?_
       have hyy := hy_x5 _ (Option.some.inj h).symm
       subst hyy
       have h := hk_x5
       dsimp only [Sum.elim] at h
       obtain rfl := Option.some.inj h
       exact e_ret (ls := [(.ov false [.sl (some 48) []], 4), (.p (.bool false), 5)]) (by kernel_rfl) rfl (by kernel_rfl) rfl
      ·replace h := ite_f hc7_12 h
       refine k_skip ?_
       refine q_n ?_
       replace h := bind_some' h
       obtain ⟨u14, hu14, h⟩ := h
       refine k_reg (r_go [(0, .d false [.sl none (a0.map ePt)]), (6, .box [.raw (.bool x12.1)]), (7, .ov false [.sl (some 48) ((x5.2.1 ++ [x12.2]).map (eO 25 eRt))]), (8, .ov false [.sl (some 25) (v3.map eRt)]), (20, .p (.int .i64 a1)), (21, .p (.int .i64 x5.2.2))] [(3, {fix := some (84, .ov false [.sl (some 48) ((x5.2.1 ++ [x12.2]).map (eO 25 eRt))])})] [List.length ((x5.2.1.map (eO 25 eRt)) : List (List C)) + List.length ((([x12.2]).map (eO 25 eRt)) : List (List C)) ≤ 1099511627776, ∀ row ∈ ((([x12.2]).map (eO 25 eRt)) : List (List C)), row.length = 1, (SV.ov false [.sl (some 48) ((x5.2.1.map (eO 25 eRt)) ++ (([x12.2]).map (eO 25 eRt)))] : SV) = .ov false [.sl (some 48) ((x5.2.1 ++ [x12.2]).map (eO 25 eRt))]] (by kernel_rfl) ⟨(by have hg := (guardO_some hu14); simpa using hg), (rows_len fun _ => rfl), (congrArg (fun z => SV.ov false [.sl (some 48) z]) (List.map_append ..).symm), trivial⟩) ?_
       refine b_n ?_
       refine q_n ?_
       exact ⟨(x12.1, (x5.2.1 ++ [x12.2])), h, (wk_of (by kernel_rfl) (by kernel_rfl))⟩
    ·refine k_sreg (r_go [(0, .d false [.sl none (a0.map ePt)]), (6, .box [.raw (.bool v11.2)]), (7, .ov false [.sl (some 48) (x5.2.1.map (eO 25 eRt))]), (8, .ov false [.sl (some 25) (v3.map eRt)]), (9, .ref 7 [(0, 0), ((Int.toNat (w64 ((x5.2.1.length : Int) - 1))), 0)] none), (10, .ov false [.sl (some 25) (([v11.1]).map eRt)]), (11, .p (.int .i64 1)), (20, .p (.int .i64 a1)), (21, .p (.int .i64 x5.2.2))] [] [] (by kernel_rfl) trivial) ?_
     refine k_block ?_
     obtain ⟨y16, hl_x15, hk_x15⟩ := bind_some' h
     clear h
     refine k_loop (J := fun (x : (Bool × (List Qr) × Int)) => [(0, .d false [.sl none (a0.map ePt)]), (6, .box [.raw (.bool x.1)]), (7, .ov false [.sl (some 48) (x5.2.1.map (eO 25 eRt))]), (8, .ov false [.sl (some 25) (v3.map eRt)]), (9, .ref 7 [(0, 0), ((Int.toNat (w64 ((x5.2.1.length : Int) - 1))), 0)] none), (10, .ov false [.sl (some 25) (x.2.1.map eRt)]), (11, .p (.int .i64 x.2.2)), (20, .p (.int .i64 a1)), (21, .p (.int .i64 x5.2.2))]) hl_x15 (wk_of (by kernel_rfl) (by kernel_rfl)) (fun x15 o_x15 h hy_x15 => ?_)
     unfold impl_iterates_b2 at h
     refine k_seq ?_
     refine k_sreg (r_go [(0, .d false [.sl none (a0.map ePt)]), (6, .box [.raw (.bool x15.1)]), (7, .ov false [.sl (some 48) (x5.2.1.map (eO 25 eRt))]), (8, .ov false [.sl (some 25) (v3.map eRt)]), (9, .ref 7 [(0, 0), ((Int.toNat (w64 ((x5.2.1.length : Int) - 1))), 0)] none), (10, .ov false [.sl (some 25) (x15.2.1.map eRt)]), (11, .p (.int .i64 x15.2.2)), (20, .p (.int .i64 a1)), (21, .p (.int .i64 x5.2.2)), (38, .p (.bool (decide (x15.2.2 < (v9.length : Int)))))] [(2, {deep := some [.sl (some 25) (v9.map eRt)], n := some v9.length})] [(v9.map eRt).length = v9.length, getRow [[.sl (some 48) (x5.2.1.map (eO 25 eRt))]] [(0, 0), ((Int.toNat (w64 ((x5.2.1.length : Int) - 1))), 0)] = some [.sl (some 25) (v9.map eRt)]] (by kernel_rfl) ⟨(List.length_map ..), ((gr0 rfl).trans (gre (map_get (eO 25 eRt) (idxO_some hv9).2))), trivial⟩) ?_
     refine k_cond (b := (decide (x15.2.2 < (v9.length : Int)))) (by kernel_rfl) (fun hc10_16 => ?_) (fun hc10_16 => ?_)
     ·replace h := ite_t hc10_16 h
      refine k_skip ?_
      refine q_n ?_
      refine k_join (J := fun (x : (Bool × (List Qr))) => [(0, .d false [.sl none (a0.map ePt)]), (6, .box [.raw (.bool x.1)]), (7, .ov false [.sl (some 48) (x5.2.1.map (eO 25 eRt))]), (8, .ov false [.sl (some 25) (v3.map eRt)]), (9, .ref 7 [(0, 0), ((Int.toNat (w64 ((x5.2.1.length : Int) - 1))), 0)] none), (10, .ov false [.sl (some 25) (x.2.map eRt)]), (11, .p (.int .i64 x15.2.2)), (20, .p (.int .i64 a1)), (21, .p (.int .i64 x5.2.2))]) (K := fun x => impl_iterates_k4 x15 x = some o_x15) (fun x18 h => ?_) ?_
      ·unfold impl_iterates_k4 at h
       refine k_reg (r_go [(0, .d false [.sl none (a0.map ePt)]), (6, .box [.raw (.bool x18.1)]), (7, .ov false [.sl (some 48) (x5.2.1.map (eO 25 eRt))]), (8, .ov false [.sl (some 25) (v3.map eRt)]), (9, .ref 7 [(0, 0), ((Int.toNat (w64 ((x5.2.1.length : Int) - 1))), 0)] none), (10, .ov false [.sl (some 25) (x18.2.map eRt)]), (11, .p (.int .i64 (w64 (x15.2.2 + 1)))), (20, .p (.int .i64 a1)), (21, .p (.int .i64 x5.2.2))] [] [] (by kernel_rfl) trivial) ?_
       exact lq_n (x18.1, x18.2, (w64 (x15.2.2 + 1))) (Option.some.inj h).symm (wk_of (by kernel_rfl) (by kernel_rfl))
      ·refine k_block ?_
       refine k_join (J := fun (x : (Bool × (List Qr))) => [(0, .d false [.sl none (a0.map ePt)]), (6, .box [.raw (.bool x.1)]), (7, .ov false [.sl (some 48) (x5.2.1.map (eO 25 eRt))]), (8, .ov false [.sl (some 25) (v3.map eRt)]), (9, .ref 7 [(0, 0), ((Int.toNat (w64 ((x5.2.1.length : Int) - 1))), 0)] none), (10, .ov false [.sl (some 25) (x.2.map eRt)]), (11, .p (.int .i64 x15.2.2)), (20, .p (.int .i64 a1)), (21, .p (.int .i64 x5.2.2))]) (K := fun x => impl_iterates_k5 a0 v9 x15 x = some o_x15) (fun x19 h => ?_) ?_
       ·unfold impl_iterates_k5 at h
        replace h := bind_some' h
        obtain ⟨v20, hv20, h⟩ := h
        replace h := bind_some' h
        obtain ⟨v21, hv21, h⟩ := h
        replace h := bind_some' h
        obtain ⟨u22, hu22, h⟩ := h
        refine k_reg (r_go [(0, .d false [.sl none (a0.map ePt)]), (6, .box [.raw (.bool v21.2)]), (7, .ov false [.sl (some 48) (x5.2.1.map (eO 25 eRt))]), (8, .ov false [.sl (some 25) (v3.map eRt)]), (9, .ref 7 [(0, 0), ((Int.toNat (w64 ((x5.2.1.length : Int) - 1))), 0)] none), (10, .ov false [.sl (some 25) ((x19.2 ++ [v21.1]).map eRt)]), (11, .p (.int .i64 x15.2.2)), (20, .p (.int .i64 a1)), (21, .p (.int .i64 x5.2.2))] [(4, {deep := some [.sl (some 25) (v9.map eRt)], row := some (eRt v20)}), (5, {row := some (eRt v20)}), (6, {lend := some ([.d false [.sl none (a0.map ePt)], .v (vRt v20)], [.p (vRt v21.1)], .box [.raw (.bool v21.2)], true)}), (8, {fix := some (72, .ov false [.sl (some 25) ((x19.2 ++ [v21.1]).map eRt)])})] [0 ≤ x15.2.2, (v9.map eRt)[(Int.toNat x15.2.2)]? = some (eRt v20), getRow [[.sl (some 48) (x5.2.1.map (eO 25 eRt))]] [(0, 0), ((Int.toNat (w64 ((x5.2.1.length : Int) - 1))), 0)] = some [.sl (some 25) (v9.map eRt)], getRow [[.sl (some 48) (x5.2.1.map (eO 25 eRt))]] [(0, 0), ((Int.toNat (w64 ((x5.2.1.length : Int) - 1))), 0), ((Int.toNat x15.2.2), 0)] = some (eRt v20), ([.d false [.sl none (a0.map ePt)], .v (vRt v20)] : List Arg) = [.d false [.sl none (a0.map ePt)], .v (vRt v20)], MeetsB Try.prog 127 (.box [.raw (.bool x19.1)]) [.d false [.sl none (a0.map ePt)], .v (vRt v20)] [.p (vRt v21.1)] (.box [.raw (.bool v21.2)]), (!true || (List.all [.p (vRt v21.1)] simpleR && wnS (.box [.raw (.bool v21.2)]))) = true, List.length ((x19.2.map eRt) : List (List C)) + List.length ((([v21.1]).map eRt) : List (List C)) ≤ 1099511627776, ∀ row ∈ ((([v21.1]).map eRt) : List (List C)), row.length = 2, (SV.ov false [.sl (some 25) ((x19.2.map eRt) ++ (([v21.1]).map eRt))] : SV) = .ov false [.sl (some 25) ((x19.2 ++ [v21.1]).map eRt)]] (by kernel_rfl) ⟨(idxO_some hv20).1, (map_get eRt (idxO_some hv20).2), ((gr0 rfl).trans (gre (map_get (eO 25 eRt) (idxO_some hv9).2))), ((gr0 rfl).trans ((grs (map_get (eO 25 eRt) (idxO_some hv9).2) rfl).trans (gre (map_get eRt (idxO_some hv20).2)))), rfl, (wk_impl_calc_value hv21), (bt (ls_t rfl (wnc rfl))), (by have hg := (guardO_some hu22); simpa using hg), (rows_len fun _ => rfl), (congrArg (fun z => SV.ov false [.sl (some 25) z]) (List.map_append ..).symm), trivial⟩) ?_
        refine b_n ?_
        refine q_n ?_
        exact ⟨(v21.2, (x19.2 ++ [v21.1])), h, (wk_of (by kernel_rfl) (by kernel_rfl))⟩
       ·replace h := bind_some' h
        obtain ⟨v23, hv23, h⟩ := h
        replace h := bind_some' h
        obtain ⟨v24, hv24, h⟩ := h
        replace h := bind_some' h
        obtain ⟨v25, hv25, h⟩ := h
        refine k_sreg (r_draw Try_mixed 13 [] [(0, .d false [.sl none (a0.map ePt)]), (6, .box [.raw (.bool x15.1)]), (7, .ov false [.sl (some 48) (x5.2.1.map (eO 25 eRt))]), (8, .ov false [.sl (some 25) (v3.map eRt)]), (9, .ref 7 [(0, 0), ((Int.toNat (w64 ((x5.2.1.length : Int) - 1))), 0)] none), (10, .ov false [.sl (some 25) (x15.2.1.map eRt)]), (11, .p (.int .i64 x15.2.2)), (20, .p (.int .i64 a1)), (21, .p (.int .i64 x5.2.2)), (51, .ov false [.sl (some 25) (v25.map eRt)]), (52, .p (.int .i64 (v25.length : Int))), (53, .p (.int .i64 0))] [(4, {deep := some [.sl (some 25) (v9.map eRt)], row := some (eRt v23)}), (5, {row := some (eRt v23)}), (8, {deep := some [.sl (some 25) (v9.map eRt)], row := some (eRt v24)}), (9, {row := some (eRt v24)}), (10, {call := some ([.d false [.sl none (v3.map eRt)], .v (vRt v23), .v (vRt v24)], [.ov false [.sl (some 25) (v25.map eRt)]], true)}), (11, {n := some v25.length})] [0 ≤ (w64 (x15.2.2 - 1)), (v9.map eRt)[(Int.toNat (w64 (x15.2.2 - 1)))]? = some (eRt v23), getRow [[.sl (some 48) (x5.2.1.map (eO 25 eRt))]] [(0, 0), ((Int.toNat (w64 ((x5.2.1.length : Int) - 1))), 0)] = some [.sl (some 25) (v9.map eRt)], getRow [[.sl (some 48) (x5.2.1.map (eO 25 eRt))]] [(0, 0), ((Int.toNat (w64 ((x5.2.1.length : Int) - 1))), 0), ((Int.toNat (w64 (x15.2.2 - 1))), 0)] = some (eRt v23), 0 ≤ x15.2.2, (v9.map eRt)[(Int.toNat x15.2.2)]? = some (eRt v24), getRow [[.sl (some 48) (x5.2.1.map (eO 25 eRt))]] [(0, 0), ((Int.toNat (w64 ((x5.2.1.length : Int) - 1))), 0)] = some [.sl (some 25) (v9.map eRt)], getRow [[.sl (some 48) (x5.2.1.map (eO 25 eRt))]] [(0, 0), ((Int.toNat (w64 ((x5.2.1.length : Int) - 1))), 0), ((Int.toNat x15.2.2), 0)] = some (eRt v24), ([.d false [.sl none (eraL (v3.map eRt))], .v (vRt v23), .v (vRt v24)] : List Arg) = [.d false [.sl none (v3.map eRt)], .v (vRt v23), .v (vRt v24)], Meets Try.prog 128 ([.d false [.sl none (v3.map eRt)], .v (vRt v23), .v (vRt v24)] ++ []) { vals := [.ov false [.sl (some 25) (v25.map eRt)]] }, (!true || List.all [.ov false [.sl (some 25) (v25.map eRt)]] simpleR) = true, (v25.map eRt).length = v25.length] (by kernel_rfl) ⟨(idxO_some hv23).1, (map_get eRt (idxO_some hv23).2), ((gr0 rfl).trans (gre (map_get (eO 25 eRt) (idxO_some hv9).2))), ((gr0 rfl).trans ((grs (map_get (eO 25 eRt) (idxO_some hv9).2) rfl).trans (gre (map_get eRt (idxO_some hv23).2)))), (idxO_some hv24).1, (map_get eRt (idxO_some hv24).2), ((gr0 rfl).trans (gre (map_get (eO 25 eRt) (idxO_some hv9).2))), ((gr0 rfl).trans ((grs (map_get (eO 25 eRt) (idxO_some hv9).2) rfl).trans (gre (map_get eRt (idxO_some hv24).2)))), (by simp only [eraL_enc (h := eRt) (era_P er_I er_I)]), (wk_impl_cutsBetween hv25), (bt (sa_o (wnR1 (wnL_enc (wn_P wn_I wn_I)) rfl) rfl)), (List.length_map ..), trivial⟩) ?_
        refine k_block ?_
        obtain ⟨y27, hl_x26, hk_x26⟩ := bind_some' h
        clear h
        refine k_loop (J := fun (x : (Bool × (List Qr) × Int)) => [(0, .d false [.sl none (a0.map ePt)]), (6, .box [.raw (.bool x.1)]), (7, .ov false [.sl (some 48) (x5.2.1.map (eO 25 eRt))]), (8, .ov false [.sl (some 25) (v3.map eRt)]), (9, .ref 7 [(0, 0), ((Int.toNat (w64 ((x5.2.1.length : Int) - 1))), 0)] none), (10, .ov false [.sl (some 25) (x.2.1.map eRt)]), (11, .p (.int .i64 x15.2.2)), (20, .p (.int .i64 a1)), (21, .p (.int .i64 x5.2.2)), (51, .ov false [.sl (some 25) (v25.map eRt)]), (52, .p (.int .i64 (v25.length : Int))), (53, .p (.int .i64 x.2.2))]) hl_x26 (wk_of (by kernel_rfl) (by kernel_rfl)) (fun x26 o_x26 h hy_x26 => ?_)
        unfold impl_iterates_b3 at h
        refine k_sreg (r_go [(0, .d false [.sl none (a0.map ePt)]), (6, .box [.raw (.bool x26.1)]), (7, .ov false [.sl (some 48) (x5.2.1.map (eO 25 eRt))]), (8, .ov false [.sl (some 25) (v3.map eRt)]), (9, .ref 7 [(0, 0), ((Int.toNat (w64 ((x5.2.1.length : Int) - 1))), 0)] none), (10, .ov false [.sl (some 25) (x26.2.1.map eRt)]), (11, .p (.int .i64 x15.2.2)), (20, .p (.int .i64 a1)), (21, .p (.int .i64 x5.2.2)), (51, .ov false [.sl (some 25) (v25.map eRt)]), (52, .p (.int .i64 (v25.length : Int))), (53, .p (.int .i64 x26.2.2)), (54, .p (.bool (decide (x26.2.2 < (v25.length : Int)))))] [] [] (by kernel_rfl) trivial) ?_
        refine k_seq ?_
        refine k_cond (b := (decide (x26.2.2 < (v25.length : Int)))) (by kernel_rfl) (fun hc15_27 => ?_) (fun hc15_27 => ?_)
        ·replace h := ite_t hc15_27 h
         refine k_skip ?_
         refine q_n ?_
         refine k_seq ?_
         refine k_block ?_
         replace h := bind_some' h
         obtain ⟨v29, hv29, h⟩ := h
         refine k_sreg (r_go [(0, .d false [.sl none (a0.map ePt)]), (6, .box [.raw (.bool x26.1)]), (7, .ov false [.sl (some 48) (x5.2.1.map (eO 25 eRt))]), (8, .ov false [.sl (some 25) (v3.map eRt)]), (9, .ref 7 [(0, 0), ((Int.toNat (w64 ((x5.2.1.length : Int) - 1))), 0)] none), (10, .ov false [.sl (some 25) (x26.2.1.map eRt)]), (11, .p (.int .i64 x15.2.2)), (13, .box (eRt v29)), (20, .p (.int .i64 a1)), (21, .p (.int .i64 x5.2.2)), (51, .ov false [.sl (some 25) (v25.map eRt)]), (52, .p (.int .i64 (v25.length : Int))), (53, .p (.int .i64 x26.2.2))] [(0, {row := some (eRt v29)}), (1, {row := some (eRt v29)})] [0 ≤ x26.2.2, (v25.map eRt)[(Int.toNat x26.2.2)]? = some (eRt v29), getRow [[.sl (some 25) (v25.map eRt)]] [(0, 0), ((Int.toNat x26.2.2), 0)] = some (eRt v29)] (by kernel_rfl) ⟨(idxO_some hv29).1, (map_get eRt (idxO_some hv29).2), ((gr0 rfl).trans (gre (map_get eRt (idxO_some hv29).2))), trivial⟩) ?_
         replace h := bind_some' h
         obtain ⟨v30, hv30, h⟩ := h
         replace h := bind_some' h
         obtain ⟨u31, hu31, h⟩ := h
         refine k_reg (r_go [(0, .d false [.sl none (a0.map ePt)]), (6, .box [.raw (.bool v30.2)]), (7, .ov false [.sl (some 48) (x5.2.1.map (eO 25 eRt))]), (8, .ov false [.sl (some 25) (v3.map eRt)]), (9, .ref 7 [(0, 0), ((Int.toNat (w64 ((x5.2.1.length : Int) - 1))), 0)] none), (10, .ov false [.sl (some 25) ((x26.2.1 ++ [v30.1]).map eRt)]), (11, .p (.int .i64 x15.2.2)), (20, .p (.int .i64 a1)), (21, .p (.int .i64 x5.2.2)), (51, .ov false [.sl (some 25) (v25.map eRt)]), (52, .p (.int .i64 (v25.length : Int))), (53, .p (.int .i64 x26.2.2))] [(3, {lend := some ([.d false [.sl none (a0.map ePt)], .v (vRt v29)], [.p (vRt v30.1)], .box [.raw (.bool v30.2)], true)}), (5, {fix := some (62, .ov false [.sl (some 25) ((x26.2.1 ++ [v30.1]).map eRt)])})] [([.d false [.sl none (a0.map ePt)], .v (vRt v29)] : List Arg) = [.d false [.sl none (a0.map ePt)], .v (vRt v29)], MeetsB Try.prog 127 (.box [.raw (.bool x26.1)]) [.d false [.sl none (a0.map ePt)], .v (vRt v29)] [.p (vRt v30.1)] (.box [.raw (.bool v30.2)]), (!true || (List.all [.p (vRt v30.1)] simpleR && wnS (.box [.raw (.bool v30.2)]))) = true, List.length ((x26.2.1.map eRt) : List (List C)) + List.length ((([v30.1]).map eRt) : List (List C)) ≤ 1099511627776, ∀ row ∈ ((([v30.1]).map eRt) : List (List C)), row.length = 2, (SV.ov false [.sl (some 25) ((x26.2.1.map eRt) ++ (([v30.1]).map eRt))] : SV) = .ov false [.sl (some 25) ((x26.2.1 ++ [v30.1]).map eRt)]] (by kernel_rfl) ⟨rfl, (wk_impl_calc_value hv30), (bt (ls_t rfl (wnc rfl))), (by have hg := (guardO_some hu31); simpa using hg), (rows_len fun _ => rfl), (congrArg (fun z => SV.ov false [.sl (some 25) z]) (List.map_append ..).symm), trivial⟩) ?_
         refine b_n ?_
         refine q_n ?_
         refine k_reg (r_go [(0, .d false [.sl none (a0.map ePt)]), (6, .box [.raw (.bool v30.2)]), (7, .ov false [.sl (some 48) (x5.2.1.map (eO 25 eRt))]), (8, .ov false [.sl (some 25) (v3.map eRt)]), (9, .ref 7 [(0, 0), ((Int.toNat (w64 ((x5.2.1.length : Int) - 1))), 0)] none), (10, .ov false [.sl (some 25) ((x26.2.1 ++ [v30.1]).map eRt)]), (11, .p (.int .i64 x15.2.2)), (20, .p (.int .i64 a1)), (21, .p (.int .i64 x5.2.2)), (51, .ov false [.sl (some 25) (v25.map eRt)]), (52, .p (.int .i64 (v25.length : Int))), (53, .p (.int .i64 (w64 (x26.2.2 + 1))))] [] [] (by kernel_rfl) trivial) ?_
         exact lq_n (v30.2, (x26.2.1 ++ [v30.1]), (w64 (x26.2.2 + 1))) (Option.some.inj h).symm (wk_of (by kernel_rfl) (by kernel_rfl))
        ·replace h := ite_f hc15_27 h
         refine k_exit ?_
         refine q_x ?_
         refine lq_x ?_
         refine b_x ?_
         have hyy := hy_x26 _ (Option.some.inj h).symm
         subst hyy
         have h := hk_x26
         refine q_n ?_
         exact ⟨(x26.1, x26.2.1), h, (wk_of (by kernel_rfl) (by kernel_rfl))⟩
     ·replace h := ite_f hc10_16 h
      refine k_exit ?_
      refine q_x ?_
      refine lq_x ?_
      refine b_x ?_
      have hyy := hy_x15 _ (Option.some.inj h).symm
      subst hyy
      have h := hk_x15
      refine q_n ?_
      exact ⟨(x15.1, x15.2.1), h, (wk_of (by kernel_rfl) (by kernel_rfl))⟩
  ·replace h := ite_f hc5_6 h
   refine k_exit ?_
   refine q_x ?_
   refine lq_x ?_
   refine b_x ?_
   have hyy := hy_x5 _ (Option.some.inj h).symm
   subst hyy
   have h := hk_x5
   dsimp only [Sum.elim] at h
   refine q_n ?_
   exact ⟨x5.2.1, h, (wk_of (by kernel_rfl) (by kernel_rfl))⟩
theorem wk_impl_iterated {a0 : (List Qp)} {a1 : Int}  {r : ((List (List Qr)) × Bool)} (h : impl_iterated a0 a1 = some r) : Meets Try.prog 70 [.d false [.sl none (a0.map ePt)], .v (.int .i64 a1)] { vals := [.ov false [.sl (some 48) (r.1.map (eO 25 eRt))], .p (.bool r.2)] } := by
 refine Meets_ofL (by kernel_rfl) Try.func70 rfl (by kernel_rfl) (l0 := [(0, .d false [.sl none (a0.map ePt)]), (1, .p (.int .i64 a1))]) (by kernel_rfl) ?_
 unfold impl_iterated at h
 refine k_sreg (r_go [(0, .d false [.sl none (a0.map ePt)]), (1, .p (.int .i64 a1))] [] [] (by kernel_rfl) trivial) ?_
 refine k_seq ?_
 replace h := bind_some' h
 obtain ⟨v1, hv1, h⟩ := h
 replace h := bind_some' h
 obtain ⟨w3, hw3, h⟩ := h
 refine k_sreg (l1 := [(0, .d false [.sl none (a0.map ePt)]), (1, .p (.int .i64 a1)), (13, .p (.bool w3))]) ?_ ?_
 ·clear h
  rcases Bool.eq_false_or_eq_true (!v1) with ha0 | ha0
  ·replace hw3 := ite_t ha0 hw3
   have hw3 := Option.some.inj hw3
   subst hw3
   exact (r_go [(0, .d false [.sl none (a0.map ePt)]), (1, .p (.int .i64 a1)), (13, .p (.bool true))] [(1, {call := some ([.d false [.sl none (a0.map ePt)]], [.p (.bool v1)], true)}), (4, {g := some true}), (5, {g := some true}), (6, {g := some true}), (7, {b := some true})] [([.d false [.sl none (a0.map ePt)]] : List Arg) = [.d false [.sl none (a0.map ePt)]], Meets Try.prog 57 ([.d false [.sl none (a0.map ePt)]] ++ []) { vals := [.p (.bool v1)] }, (!true || List.all [.p (.bool v1)] simpleR) = true, (!v1) = true, (!v1) = true, (!v1) = true, (!v1) = true] (by kernel_rfl) ⟨rfl, (wk_impl_isStrict hv1), (bt rfl), ha0, ha0, ha0, ha0, trivial⟩)
  ·replace hw3 := ite_f ha0 hw3
   replace hw3 := bind_some' hw3
   obtain ⟨v2, hv2, hw3⟩ := hw3
   have hw3 := Option.some.inj hw3
   subst hw3
   exact (r_go [(0, .d false [.sl none (a0.map ePt)]), (1, .p (.int .i64 a1)), (13, .p (.bool (!v2)))] [(1, {call := some ([.d false [.sl none (a0.map ePt)]], [.p (.bool v1)], true)}), (4, {g := some false}), (5, {g := some false, call := some ([.v (.int .i64 a1), .v (.int .i64 0), .v (.int .i64 12)], [.p (.bool v2)], true)}), (6, {g := some false}), (7, {b := some false})] [([.d false [.sl none (a0.map ePt)]] : List Arg) = [.d false [.sl none (a0.map ePt)]], Meets Try.prog 57 ([.d false [.sl none (a0.map ePt)]] ++ []) { vals := [.p (.bool v1)] }, (!true || List.all [.p (.bool v1)] simpleR) = true, (!v1) = false, (!v1) = false, ([.v (.int .i64 a1), .v (.int .i64 0), .v (.int .i64 12)] : List Arg) = [.v (.int .i64 a1), .v (.int .i64 0), .v (.int .i64 12)], Meets Try.prog 60 ([.v (.int .i64 a1), .v (.int .i64 0), .v (.int .i64 12)] ++ []) { vals := [.p (.bool v2)] }, (!true || List.all [.p (.bool v2)] simpleR) = true, (!v1) = false, (!v1) = false] (by kernel_rfl) ⟨rfl, (wk_impl_isStrict hv1), (bt rfl), ha0, ha0, rfl, (wk_impl_within hv2), (bt rfl), ha0, ha0, trivial⟩)
 ·refine k_cond (b := w3) (by kernel_rfl) (fun hc2_3 => ?_) (fun hc2_3 => ?_)
  ·replace h := ite_t hc2_3 h
   refine k_sreg (r_go [(4, .ov false [.sl (some 48) []]), (5, .p (.bool false))] [] [] (by kernel_rfl) trivial) ?_
   refine k_ret ?_
   refine q_r ?_
   obtain rfl := Option.some.inj h
   exact e_ret (ls := [(.ov false [.sl (some 48) []], 4), (.p (.bool false), 5)]) (by kernel_rfl) rfl (by kernel_rfl) rfl
  ·replace h := ite_f hc2_3 h
   refine k_skip ?_
   refine q_n ?_
   replace h := bind_some' h
   obtain ⟨v5, hv5, h⟩ := h
   refine k_sreg (r_go [(4, .ov false [.sl (some 48) (v5.1.map (eO 25 eRt))]), (5, .p (.bool v5.2))] [(2, {call := some ([.d false [.sl none (a0.map ePt)], .v (.int .i64 a1)], [.ov false [.sl (some 48) (v5.1.map (eO 25 eRt))], .p (.bool v5.2)], true)})] [([.d false [.sl none (a0.map ePt)], .v (.int .i64 a1)] : List Arg) = [.d false [.sl none (a0.map ePt)], .v (.int .i64 a1)], Meets Try.prog 103 ([.d false [.sl none (a0.map ePt)], .v (.int .i64 a1)] ++ []) { vals := [.ov false [.sl (some 48) (v5.1.map (eO 25 eRt))], .p (.bool v5.2)] }, (!true || List.all [.ov false [.sl (some 48) (v5.1.map (eO 25 eRt))], .p (.bool v5.2)] simpleR) = true] (by kernel_rfl) ⟨rfl, (wk_impl_iterates hv5), (bt (sa_o (wnR1 (wnL_enc (wn_O (wn_P wn_I wn_I))) rfl) (sa_p rfl))), trivial⟩) ?_
   refine k_ret ?_
   obtain rfl := Option.some.inj h
   exact e_ret (ls := [(.ov false [.sl (some 48) (v5.1.map (eO 25 eRt))], 4), (.p (.bool v5.2), 5)]) (by kernel_rfl) rfl (by kernel_rfl) rfl
theorem wk_impl_EndValues {a0 : (List Qp)} {a1 : Int}  {r : ((List Qr) × Bool)} (h : impl_EndValues a0 a1 = some r) : Meets Try.prog 41 [.d false [.sl none (a0.map ePt)], .v (.int .i64 a1)] { vals := [.ov false [.sl (some 25) (r.1.map eRt)], .p (.bool r.2)] } := by
 refine Meets_ofL (by kernel_rfl) Try.func41 rfl (by kernel_rfl) (l0 := [(0, .d false [.sl none (a0.map ePt)]), (1, .p (.int .i64 a1))]) (by kernel_rfl) ?_
 unfold impl_EndValues at h
 refine k_sreg (r_go [(0, .d false [.sl none (a0.map ePt)]), (1, .p (.int .i64 a1))] [] [] (by kernel_rfl) trivial) ?_
 replace h := bind_some' h
 obtain ⟨v1, hv1, h⟩ := h
 refine k_sreg (r_go [(1, .p (.int .i64 a1)), (6, .ov false [.sl (some 48) (v1.1.map (eO 25 eRt))]), (7, .p (.bool v1.2))] [(2, {call := some ([.d false [.sl none (a0.map ePt)], .v (.int .i64 a1)], [.ov false [.sl (some 48) (v1.1.map (eO 25 eRt))], .p (.bool v1.2)], true)})] [([.d false [.sl none (a0.map ePt)], .v (.int .i64 a1)] : List Arg) = [.d false [.sl none (a0.map ePt)], .v (.int .i64 a1)], Meets Try.prog 70 ([.d false [.sl none (a0.map ePt)], .v (.int .i64 a1)] ++ []) { vals := [.ov false [.sl (some 48) (v1.1.map (eO 25 eRt))], .p (.bool v1.2)] }, (!true || List.all [.ov false [.sl (some 48) (v1.1.map (eO 25 eRt))], .p (.bool v1.2)] simpleR) = true] (by kernel_rfl) ⟨rfl, (wk_impl_iterated hv1), (bt (sa_o (wnR1 (wnL_enc (wn_O (wn_P wn_I wn_I))) rfl) (sa_p rfl))), trivial⟩) ?_
 refine k_seq ?_
 refine k_sreg (r_go [(1, .p (.int .i64 a1)), (6, .ov false [.sl (some 48) (v1.1.map (eO 25 eRt))]), (15, .p (.bool (!v1.2)))] [] [] (by kernel_rfl) trivial) ?_
 refine k_cond (b := (!v1.2)) (by kernel_rfl) (fun hc2_1 => ?_) (fun hc2_1 => ?_)
 ·replace h := ite_t hc2_1 h
  refine k_sreg (r_go [(4, .ov false [.sl (some 25) []]), (5, .p (.bool false))] [] [] (by kernel_rfl) trivial) ?_
  refine k_ret ?_
  refine q_r ?_
  obtain rfl := Option.some.inj h
  exact e_ret (ls := [(.ov false [.sl (some 25) []], 4), (.p (.bool false), 5)]) (by kernel_rfl) rfl (by kernel_rfl) rfl
 ·replace h := ite_f hc2_1 h
  refine k_skip ?_
  refine q_n ?_
  replace h := bind_some' h
  obtain ⟨v3, hv3, h⟩ := h
  refine k_sreg (r_go [(4, .ov false [.sl (some 25) (v3.map eRt)]), (5, .p (.bool true))] [(2, {row := some [.sl (some 25) (v3.map eRt)]}), (3, {row := some [.sl (some 25) (v3.map eRt)]}), (4, {deep := some [.sl (some 25) (v3.map eRt)]})] [0 ≤ a1, (v1.1.map (eO 25 eRt))[(Int.toNat a1)]? = some [.sl (some 25) (v3.map eRt)], frR [.sl (some 25) (v3.map eRt)] = false, getRow [[.sl (some 48) (v1.1.map (eO 25 eRt))]] [(0, 0), ((Int.toNat a1), 0)] = some [.sl (some 25) (v3.map eRt)], getRow [[.sl (some 48) (v1.1.map (eO 25 eRt))]] [(0, 0), ((Int.toNat a1), 0)] = some [.sl (some 25) (v3.map eRt)]] (by kernel_rfl) ⟨(idxO_some hv3).1, (map_get (eO 25 eRt) (idxO_some hv3).2), rfl, ((gr0 rfl).trans (gre (map_get (eO 25 eRt) (idxO_some hv3).2))), ((gr0 rfl).trans (gre (map_get (eO 25 eRt) (idxO_some hv3).2))), trivial⟩) ?_
  refine k_ret ?_
  obtain rfl := Option.some.inj h
  exact e_ret (ls := [(.ov false [.sl (some 25) (v3.map eRt)], 4), (.p (.bool true), 5)]) (by kernel_rfl) rfl (by kernel_rfl) rfl
theorem wk_laws_eqRat {a0 : Qr} {a1 : Qr}  {r : Bool} (h : laws_eqRat a0 a1 = some r) : Meets Try.prog 18 [.v (vRt a0), .v (vRt a1)] { vals := [.p (.bool r)] } := by
 refine Meets_ofL (by kernel_rfl) Try.func18 rfl (by kernel_rfl) (l0 := [(0, .p (vRt a0)), (1, .p (vRt a1))]) (by kernel_rfl) ?_
 unfold laws_eqRat at h
 refine k_sreg (r_go [(2, .box (eRt a0)), (3, .box (eRt a1))] [] [] (by kernel_rfl) trivial) ?_
 refine k_seq ?_
 refine k_sreg (r_go [(2, .box (eRt a0)), (3, .box (eRt a1)), (9, .p (.bool (a0.1 != a1.1)))] [] [] (by kernel_rfl) trivial) ?_
 refine k_cond (b := (a0.1 != a1.1)) (by kernel_rfl) (fun hc2_0 => ?_) (fun hc2_0 => ?_)
 ·replace h := ite_t hc2_0 h
  refine k_sreg (r_go [(4, .p (.bool false))] [] [] (by kernel_rfl) trivial) ?_
  refine k_ret ?_
  refine q_r ?_
  obtain rfl := Option.some.inj h
  exact e_ret (ls := [(.p (.bool false), 4)]) (by kernel_rfl) rfl (by kernel_rfl) rfl
 ·replace h := ite_f hc2_0 h
  refine k_skip ?_
  refine q_n ?_
  refine k_seq ?_
  refine k_sreg (r_go [(14, .p (.bool (a0.2 != a1.2)))] [] [] (by kernel_rfl) trivial) ?_
  refine k_cond (b := (a0.2 != a1.2)) (by kernel_rfl) (fun hc2_1 => ?_) (fun hc2_1 => ?_)
  ·replace h := ite_t hc2_1 h
   refine k_sreg (r_go [(4, .p (.bool false))] [] [] (by kernel_rfl) trivial) ?_
   refine k_ret ?_
   refine q_r ?_
   obtain rfl := Option.some.inj h
   exact e_ret (ls := [(.p (.bool false), 4)]) (by kernel_rfl) rfl (by kernel_rfl) rfl
  ·replace h := ite_f hc2_1 h
   refine k_skip ?_
   refine q_n ?_
   refine k_sreg (r_go [(4, .p (.bool true))] [] [] (by kernel_rfl) trivial) ?_
   refine k_ret ?_
   obtain rfl := Option.some.inj h
   exact e_ret (ls := [(.p (.bool true), 4)]) (by kernel_rfl) rfl (by kernel_rfl) rfl
theorem wk_laws_eqRatS {a0 : (List Qr)} {a1 : (List Qr)}  {r : Bool} (h : laws_eqRatS a0 a1 = some r) : Meets Try.prog 42 [.d false [.sl none (a0.map eRt)], .d false [.sl none (a1.map eRt)]] { vals := [.p (.bool r)] } := by
 refine Meets_ofL (by kernel_rfl) Try.func42 rfl (by kernel_rfl) (l0 := [(0, .d false [.sl none (a0.map eRt)]), (1, .d false [.sl none (a1.map eRt)])]) (by kernel_rfl) ?_
 unfold laws_eqRatS at h
 refine k_sreg (r_go [(0, .d false [.sl none (a0.map eRt)]), (1, .d false [.sl none (a1.map eRt)])] [] [] (by kernel_rfl) trivial) ?_
 refine k_seq ?_
 refine k_sreg (r_go [(0, .d false [.sl none (a0.map eRt)]), (1, .d false [.sl none (a1.map eRt)]), (10, .p (.bool ((a0.length : Int) != (a1.length : Int))))] [(1, {n := some a0.length}), (3, {n := some a1.length})] [(a0.map eRt).length = a0.length, (a1.map eRt).length = a1.length] (by kernel_rfl) ⟨(List.length_map ..), (List.length_map ..), trivial⟩) ?_
 refine k_cond (b := ((a0.length : Int) != (a1.length : Int))) (by kernel_rfl) (fun hc2_0 => ?_) (fun hc2_0 => ?_)
 ·replace h := ite_t hc2_0 h
  refine k_sreg (r_go [(4, .p (.bool false))] [] [] (by kernel_rfl) trivial) ?_
  refine k_ret ?_
  refine q_r ?_
  obtain rfl := Option.some.inj h
  exact e_ret (ls := [(.p (.bool false), 4)]) (by kernel_rfl) rfl (by kernel_rfl) rfl
 ·replace h := ite_f hc2_0 h
  refine k_skip ?_
  refine q_n ?_
  refine k_join (J := fun (x : Unit) => []) (K := fun x => laws_eqRatS_k1 x = some r) (fun x2 h => ?_) ?_
  ·unfold laws_eqRatS_k1 at h
   refine k_sreg (r_go [(4, .p (.bool true))] [] [] (by kernel_rfl) trivial) ?_
   refine k_ret ?_
   obtain rfl := Option.some.inj h
   exact e_ret (ls := [(.p (.bool true), 4)]) (by kernel_rfl) rfl (by kernel_rfl) rfl
  ·refine k_sreg (r_go [(0, .d false [.sl none (a0.map eRt)]), (1, .d false [.sl none (a1.map eRt)]), (5, .p (.int .i64 0))] [] [] (by kernel_rfl) trivial) ?_
   refine k_block ?_
   obtain ⟨y4, hl_x3, hk_x3⟩ := bind_some' h
   clear h
   refine k_loop (J := fun (x : Int) => [(0, .d false [.sl none (a0.map eRt)]), (1, .d false [.sl none (a1.map eRt)]), (5, .p (.int .i64 x))]) hl_x3 (wk_of (by kernel_rfl) (by kernel_rfl)) (fun x3 o_x3 h hy_x3 => ?_)
   unfold laws_eqRatS_b1 at h
   refine k_seq ?_
   refine k_sreg (r_go [(0, .d false [.sl none (a0.map eRt)]), (1, .d false [.sl none (a1.map eRt)]), (5, .p (.int .i64 x3)), (14, .p (.bool (decide (x3 < (a0.length : Int)))))] [(2, {n := some a0.length})] [(a0.map eRt).length = a0.length] (by kernel_rfl) ⟨(List.length_map ..), trivial⟩) ?_
   refine k_cond (b := (decide (x3 < (a0.length : Int)))) (by kernel_rfl) (fun hc5_4 => ?_) (fun hc5_4 => ?_)
   ·replace h := ite_t hc5_4 h
    refine k_skip ?_
    refine q_n ?_
    refine k_seq ?_
    refine k_block ?_
    replace h := bind_some' h
    obtain ⟨v6, hv6, h⟩ := h
    replace h := bind_some' h
    obtain ⟨v7, hv7, h⟩ := h
    replace h := bind_some' h
    obtain ⟨v8, hv8, h⟩ := h
    refine k_sreg (r_draw Try_mixed 8 [] [(0, .d false [.sl none (a0.map eRt)]), (1, .d false [.sl none (a1.map eRt)]), (5, .p (.int .i64 x3)), (26, .p (.bool (!v8)))] [(2, {row := some (eRt v6)}), (6, {row := some (eRt v7)}), (8, {call := some ([.v (vRt v6), .v (vRt v7)], [.p (.bool v8)], true)})] [0 ≤ x3, (a0.map eRt)[(Int.toNat x3)]? = some (eRt v6), 0 ≤ x3, (a1.map eRt)[(Int.toNat x3)]? = some (eRt v7), ([.v (vRt v6), .v (vRt v7)] : List Arg) = [.v (vRt v6), .v (vRt v7)], Meets Try.prog 18 ([.v (vRt v6), .v (vRt v7)] ++ []) { vals := [.p (.bool v8)] }, (!true || List.all [.p (.bool v8)] simpleR) = true] (by kernel_rfl) ⟨(idxO_some hv6).1, (map_get eRt (idxO_some hv6).2), (idxO_some hv7).1, (map_get eRt (idxO_some hv7).2), rfl, (wk_laws_eqRat hv8), (bt rfl), trivial⟩) ?_
    refine k_cond (b := (!v8)) (by kernel_rfl) (fun hc6_8 => ?_) (fun hc6_8 => ?_)
    ·replace h := ite_t hc6_8 h
     refine k_sreg (r_go [(4, .p (.bool false))] [] [] (by kernel_rfl) trivial) ?_
     refine k_ret ?_
     refine b_r ?_
     refine q_r ?_
     refine lq_r ?_
     refine b_r ?_
     refine q_r ?_
     have hyy := hy_x3 _ (Option.some.inj h).symm
     subst hyy
     have h := hk_x3
     dsimp only [Sum.elim] at h
     obtain rfl := Option.some.inj h
     exact e_ret (ls := [(.p (.bool false), 4)]) (by kernel_rfl) rfl (by kernel_rfl) rfl
    ·replace h := ite_f hc6_8 h
     refine k_skip ?_
     refine b_n ?_
     refine q_n ?_
     refine k_reg (r_go [(0, .d false [.sl none (a0.map eRt)]), (1, .d false [.sl none (a1.map eRt)]), (5, .p (.int .i64 (w64 (x3 + 1))))] [] [] (by kernel_rfl) trivial) ?_
     exact lq_n (w64 (x3 + 1)) (Option.some.inj h).symm (wk_of (by kernel_rfl) (by kernel_rfl))
   ·replace h := ite_f hc5_4 h
    refine k_exit ?_
    refine q_x ?_
    refine lq_x ?_
    refine b_x ?_
    have hyy := hy_x3 _ (Option.some.inj h).symm
    subst hyy
    have h := hk_x3
    dsimp only [Sum.elim] at h
    refine q_n ?_
    exact ⟨(), h, (wk_of (by kernel_rfl) (by kernel_rfl))⟩
theorem wk_laws_eqPoint {a0 : Qp} {a1 : Qp}  {r : Bool} (h : laws_eqPoint a0 a1 = some r) : Meets Try.prog 55 [.v (vPt a0), .v (vPt a1)] { vals := [.p (.bool r)] } := by
 refine Meets_ofL (by kernel_rfl) Try.func55 rfl (by kernel_rfl) (l0 := [(0, .p (vPt a0)), (1, .p (vPt a1))]) (by kernel_rfl) ?_
 unfold laws_eqPoint at h
 refine k_sreg (r_go [(2, .box (ePt a0)), (3, .box (ePt a1))] [] [] (by kernel_rfl) trivial) ?_
 refine k_seq ?_
 replace h := bind_some' h
 obtain ⟨v1, hv1, h⟩ := h
 refine k_sreg (r_go [(2, .box (ePt a0)), (3, .box (ePt a1)), (10, .p (.bool (!v1)))] [(4, {call := some ([.v (vRt a0.1), .v (vRt a1.1)], [.p (.bool v1)], true)})] [([.v (vRt a0.1), .v (vRt a1.1)] : List Arg) = [.v (vRt a0.1), .v (vRt a1.1)], Meets Try.prog 18 ([.v (vRt a0.1), .v (vRt a1.1)] ++ []) { vals := [.p (.bool v1)] }, (!true || List.all [.p (.bool v1)] simpleR) = true] (by kernel_rfl) ⟨rfl, (wk_laws_eqRat hv1), (bt rfl), trivial⟩) ?_
 refine k_cond (b := (!v1)) (by kernel_rfl) (fun hc2_1 => ?_) (fun hc2_1 => ?_)
 ·replace h := ite_t hc2_1 h
  refine k_sreg (r_go [(4, .p (.bool false))] [] [] (by kernel_rfl) trivial) ?_
  refine k_ret ?_
  refine q_r ?_
  obtain rfl := Option.some.inj h
  exact e_ret (ls := [(.p (.bool false), 4)]) (by kernel_rfl) rfl (by kernel_rfl) rfl
 ·replace h := ite_f hc2_1 h
  refine k_skip ?_
  refine q_n ?_
  refine k_seq ?_
  replace h := bind_some' h
  obtain ⟨v3, hv3, h⟩ := h
  refine k_sreg (r_go [(16, .p (.bool (!v3)))] [(4, {call := some ([.v (vRt a0.2), .v (vRt a1.2)], [.p (.bool v3)], true)})] [([.v (vRt a0.2), .v (vRt a1.2)] : List Arg) = [.v (vRt a0.2), .v (vRt a1.2)], Meets Try.prog 18 ([.v (vRt a0.2), .v (vRt a1.2)] ++ []) { vals := [.p (.bool v3)] }, (!true || List.all [.p (.bool v3)] simpleR) = true] (by kernel_rfl) ⟨rfl, (wk_laws_eqRat hv3), (bt rfl), trivial⟩) ?_
  refine k_cond (b := (!v3)) (by kernel_rfl) (fun hc2_3 => ?_) (fun hc2_3 => ?_)
  ·replace h := ite_t hc2_3 h
   refine k_sreg (r_go [(4, .p (.bool false))] [] [] (by kernel_rfl) trivial) ?_
   refine k_ret ?_
   refine q_r ?_
   obtain rfl := Option.some.inj h
   exact e_ret (ls := [(.p (.bool false), 4)]) (by kernel_rfl) rfl (by kernel_rfl) rfl
  ·replace h := ite_f hc2_3 h
   refine k_skip ?_
   refine q_n ?_
   refine k_sreg (r_go [(4, .p (.bool true))] [] [] (by kernel_rfl) trivial) ?_
   refine k_ret ?_
   obtain rfl := Option.some.inj h
   exact e_ret (ls := [(.p (.bool true), 4)]) (by kernel_rfl) rfl (by kernel_rfl) rfl
theorem wk_laws_eqPointS {a0 : (List Qp)} {a1 : (List Qp)}  {r : Bool} (h : laws_eqPointS a0 a1 = some r) : Meets Try.prog 19 [.d false [.sl none (a0.map ePt)], .d false [.sl none (a1.map ePt)]] { vals := [.p (.bool r)] } := by
 refine Meets_ofL (by kernel_rfl) Try.func19 rfl (by kernel_rfl) (l0 := [(0, .d false [.sl none (a0.map ePt)]), (1, .d false [.sl none (a1.map ePt)])]) (by kernel_rfl) ?_
 unfold laws_eqPointS at h
 refine k_sreg (r_go [(0, .d false [.sl none (a0.map ePt)]), (1, .d false [.sl none (a1.map ePt)])] [] [] (by kernel_rfl) trivial) ?_
 refine k_seq ?_
 refine k_sreg (r_go [(0, .d false [.sl none (a0.map ePt)]), (1, .d false [.sl none (a1.map ePt)]), (10, .p (.bool ((a0.length : Int) != (a1.length : Int))))] [(1, {n := some a0.length}), (3, {n := some a1.length})] [(a0.map ePt).length = a0.length, (a1.map ePt).length = a1.length] (by kernel_rfl) ⟨(List.length_map ..), (List.length_map ..), trivial⟩) ?_
 refine k_cond (b := ((a0.length : Int) != (a1.length : Int))) (by kernel_rfl) (fun hc2_0 => ?_) (fun hc2_0 => ?_)
 ·replace h := ite_t hc2_0 h
  refine k_sreg (r_go [(4, .p (.bool false))] [] [] (by kernel_rfl) trivial) ?_
  refine k_ret ?_
  refine q_r ?_
  obtain rfl := Option.some.inj h
  exact e_ret (ls := [(.p (.bool false), 4)]) (by kernel_rfl) rfl (by kernel_rfl) rfl
 ·replace h := ite_f hc2_0 h
  refine k_skip ?_
  refine q_n ?_
  refine k_join (J := fun (x : Unit) => []) (K := fun x => laws_eqPointS_k1 x = some r) (fun x2 h => ?_) ?_
  ·unfold laws_eqPointS_k1 at h
   refine k_sreg (r_go [(4, .p (.bool true))] [] [] (by kernel_rfl) trivial) ?_
   refine k_ret ?_
   obtain rfl := Option.some.inj h
   exact e_ret (ls := [(.p (.bool true), 4)]) (by kernel_rfl) rfl (by kernel_rfl) rfl
  ·refine k_sreg (r_go [(0, .d false [.sl none (a0.map ePt)]), (1, .d false [.sl none (a1.map ePt)]), (5, .p (.int .i64 0))] [] [] (by kernel_rfl) trivial) ?_
   refine k_block ?_
   obtain ⟨y4, hl_x3, hk_x3⟩ := bind_some' h
   clear h
   refine k_loop (J := fun (x : Int) => [(0, .d false [.sl none (a0.map ePt)]), (1, .d false [.sl none (a1.map ePt)]), (5, .p (.int .i64 x))]) hl_x3 (wk_of (by kernel_rfl) (by kernel_rfl)) (fun x3 o_x3 h hy_x3 => ?_)
   unfold laws_eqPointS_b1 at h
   refine k_seq ?_
   refine k_sreg (r_go [(0, .d false [.sl none (a0.map ePt)]), (1, .d false [.sl none (a1.map ePt)]), (5, .p (.int .i64 x3)), (14, .p (.bool (decide (x3 < (a0.length : Int)))))] [(2, {n := some a0.length})] [(a0.map ePt).length = a0.length] (by kernel_rfl) ⟨(List.length_map ..), trivial⟩) ?_
   refine k_cond (b := (decide (x3 < (a0.length : Int)))) (by kernel_rfl) (fun hc5_4 => ?_) (fun hc5_4 => ?_)
   ·replace h := ite_t hc5_4 h
    refine k_skip ?_
    refine q_n ?_
    refine k_seq ?_
    refine k_block ?_
    replace h := bind_some' h
    obtain ⟨v6, hv6, h⟩ := h
    replace h := bind_some' h
    obtain ⟨v7, hv7, h⟩ := h
    replace h := bind_some' h
    obtain ⟨v8, hv8, h⟩ := h
    refine k_sreg (r_draw Try_mixed 8 [] [(0, .d false [.sl none (a0.map ePt)]), (1, .d false [.sl none (a1.map ePt)]), (5, .p (.int .i64 x3)), (26, .p (.bool (!v8)))] [(2, {row := some (ePt v6)}), (6, {row := some (ePt v7)}), (8, {call := some ([.v (vPt v6), .v (vPt v7)], [.p (.bool v8)], true)})] [0 ≤ x3, (a0.map ePt)[(Int.toNat x3)]? = some (ePt v6), 0 ≤ x3, (a1.map ePt)[(Int.toNat x3)]? = some (ePt v7), ([.v (vPt v6), .v (vPt v7)] : List Arg) = [.v (vPt v6), .v (vPt v7)], Meets Try.prog 55 ([.v (vPt v6), .v (vPt v7)] ++ []) { vals := [.p (.bool v8)] }, (!true || List.all [.p (.bool v8)] simpleR) = true] (by kernel_rfl) ⟨(idxO_some hv6).1, (map_get ePt (idxO_some hv6).2), (idxO_some hv7).1, (map_get ePt (idxO_some hv7).2), rfl, (wk_laws_eqPoint hv8), (bt rfl), trivial⟩) ?_
    refine k_cond (b := (!v8)) (by kernel_rfl) (fun hc6_8 => ?_) (fun hc6_8 => ?_)
    ·replace h := ite_t hc6_8 h
     refine k_sreg (r_go [(4, .p (.bool false))] [] [] (by kernel_rfl) trivial) ?_
     refine k_ret ?_
     refine b_r ?_
     refine q_r ?_
     refine lq_r ?_
     refine b_r ?_
     refine q_r ?_
     have hyy := hy_x3 _ (Option.some.inj h).symm
     subst hyy
     have h := hk_x3
     dsimp only [Sum.elim] at h
     obtain rfl := Option.some.inj h
     exact e_ret (ls := [(.p (.bool false), 4)]) (by kernel_rfl) rfl (by kernel_rfl) rfl
    ·replace h := ite_f hc6_8 h
     refine k_skip ?_
     refine b_n ?_
     refine q_n ?_
     refine k_reg (r_go [(0, .d false [.sl none (a0.map ePt)]), (1, .d false [.sl none (a1.map ePt)]), (5, .p (.int .i64 (w64 (x3 + 1))))] [] [] (by kernel_rfl) trivial) ?_
     exact lq_n (w64 (x3 + 1)) (Option.some.inj h).symm (wk_of (by kernel_rfl) (by kernel_rfl))
   ·replace h := ite_f hc5_4 h
    refine k_exit ?_
    refine q_x ?_
    refine lq_x ?_
    refine b_x ?_
    have hyy := hy_x3 _ (Option.some.inj h).symm
    subst hyy
    have h := hk_x3
    dsimp only [Sum.elim] at h
    refine q_n ?_
    exact ⟨(), h, (wk_of (by kernel_rfl) (by kernel_rfl))⟩
theorem wk_laws_markPointS {a0 : (List Qp)} {a1 : Int}  {r : (Int × (List Qp))} (h : laws_markPointS a0 a1 = some r) : MeetsB Try.prog 37 (.ov false [.sl (some 62) (a0.map ePt)]) [.v (.int .i64 a1)] [.p (.int .i64 r.1)] (.ov false [.sl (some 62) (r.2.map ePt)]) := by
 refine MeetsB_ofL (by kernel_rfl) Try.func37 rfl (by kernel_rfl) rfl (l0 := [(0, .ov false [.sl (some 62) (a0.map ePt)]), (1, .p (.int .i64 a1))]) (by kernel_rfl) ?_
 unfold laws_markPointS at h
 refine k_sreg (r_go [(0, .ov false [.sl (some 62) (a0.map ePt)]), (1, .p (.int .i64 a1))] [] [] (by kernel_rfl) trivial) ?_
 refine k_join (J := fun (x : ((List Qp) × Int)) => [(0, .ov false [.sl (some 62) (x.1.map ePt)]), (1, .p (.int .i64 x.2))]) (K := fun x => laws_markPointS_k1 x = some r) (fun x1 h => ?_) ?_
 ·unfold laws_markPointS_k1 at h
  refine k_sreg (r_go [(0, .ov false [.sl (some 62) (x1.1.map ePt)]), (4, .p (.int .i64 x1.2))] [] [] (by kernel_rfl) trivial) ?_
  refine k_ret ?_
  obtain rfl := Option.some.inj h
  exact eb_ret (ls := [(.p (.int .i64 x1.2), 4)]) (by kernel_rfl) rfl rfl (by kernel_rfl) (by kernel_rfl)
 ·refine k_sreg (r_go [(0, .ov false [.sl (some 62) (a0.map ePt)]), (1, .p (.int .i64 a1)), (5, .p (.int .i64 0))] [] [] (by kernel_rfl) trivial) ?_
  refine k_block ?_
  obtain ⟨y3, hl_x2, hk_x2⟩ := bind_some' h
  clear h
  refine k_loop (J := fun (x : ((List Qp) × Int × Int)) => [(0, .ov false [.sl (some 62) (x.1.map ePt)]), (1, .p (.int .i64 x.2.1)), (5, .p (.int .i64 x.2.2))]) hl_x2 (wk_of (by kernel_rfl) (by kernel_rfl)) (fun x2 o_x2 h hy_x2 => ?_)
  unfold laws_markPointS_b1 at h
  refine k_seq ?_
  refine k_sreg (r_go [(0, .ov false [.sl (some 62) (x2.1.map ePt)]), (1, .p (.int .i64 x2.2.1)), (5, .p (.int .i64 x2.2.2)), (9, .p (.bool (decide (x2.2.2 < (x2.1.length : Int)))))] [(2, {n := some x2.1.length})] [(x2.1.map ePt).length = x2.1.length] (by kernel_rfl) ⟨(List.length_map ..), trivial⟩) ?_
  refine k_cond (b := (decide (x2.2.2 < (x2.1.length : Int)))) (by kernel_rfl) (fun hc5_3 => ?_) (fun hc5_3 => ?_)
  ·replace h := ite_t hc5_3 h
   refine k_skip ?_
   refine q_n ?_
   refine k_seq ?_
   refine k_block ?_
   replace h := bind_some' h
   obtain ⟨v5, hv5, h⟩ := h
   refine k_sreg (r_go [(0, .ov false [.sl (some 62) ((x2.1.set (Int.toNat x2.2.2) ((x2.2.1, v5.1.2), v5.2)).map ePt)]), (1, .p (.int .i64 x2.2.1)), (5, .p (.int .i64 x2.2.2))] [(3, {row := some (ePt v5)}), (6, {row := some (ePt v5), fix := some (0, .ov false [.sl (some 62) ((x2.1.set (Int.toNat x2.2.2) ((x2.2.1, v5.1.2), v5.2)).map ePt)])})] [0 ≤ x2.2.2, (x2.1.map ePt)[(Int.toNat x2.2.2)]? = some (ePt v5), getRow [[.sl (some 62) (x2.1.map ePt)]] [(0, 0), ((Int.toNat x2.2.2), 0)] = some (ePt v5), (SV.ov false [.sl (some 62) (setL (x2.1.map ePt) [((Int.toNat x2.2.2), 0)] (eI x2.2.1))] : SV) = .ov false [.sl (some 62) ((x2.1.set (Int.toNat x2.2.2) ((x2.2.1, v5.1.2), v5.2)).map ePt)]] (by kernel_rfl) ⟨(idxO_some hv5).1, (map_get ePt (idxO_some hv5).2), ((gr0 rfl).trans (gre (map_get ePt (idxO_some hv5).2))), (congrArg (fun z => SV.ov false [.sl (some 62) z]) (set1 (f := ePt) (y := ((x2.2.1, v5.1.2), v5.2)) (idxO_some hv5).2 rfl)), trivial⟩) ?_
   refine k_sreg (r_go [(0, .ov false [.sl (some 62) ((x2.1.set (Int.toNat x2.2.2) ((x2.2.1, v5.1.2), v5.2)).map ePt)]), (1, .p (.int .i64 (w64 (x2.2.1 + 1)))), (5, .p (.int .i64 x2.2.2))] [] [] (by kernel_rfl) trivial) ?_
   replace h := bind_some' h
   obtain ⟨v6, hv6, h⟩ := h
   refine k_sreg (r_go [(0, .ov false [.sl (some 62) (((x2.1.set (Int.toNat x2.2.2) ((x2.2.1, v5.1.2), v5.2)).set (Int.toNat x2.2.2) ((v6.1.1, (w64 (x2.2.1 + 1))), v6.2)).map ePt)]), (1, .p (.int .i64 (w64 (x2.2.1 + 1)))), (5, .p (.int .i64 x2.2.2))] [(3, {row := some (ePt v6)}), (6, {row := some [.raw (.int .i64 v6.1.2), .raw (.int .i64 v6.2.1), .raw (.int .i64 v6.2.2)], fix := some (0, .ov false [.sl (some 62) (((x2.1.set (Int.toNat x2.2.2) ((x2.2.1, v5.1.2), v5.2)).set (Int.toNat x2.2.2) ((v6.1.1, (w64 (x2.2.1 + 1))), v6.2)).map ePt)])})] [0 ≤ x2.2.2, ((x2.1.set (Int.toNat x2.2.2) ((x2.2.1, v5.1.2), v5.2)).map ePt)[(Int.toNat x2.2.2)]? = some (ePt v6), getRow [[.sl (some 62) ((x2.1.set (Int.toNat x2.2.2) ((x2.2.1, v5.1.2), v5.2)).map ePt)]] [(0, 0), ((Int.toNat x2.2.2), 1)] = some [.raw (.int .i64 v6.1.2), .raw (.int .i64 v6.2.1), .raw (.int .i64 v6.2.2)], (SV.ov false [.sl (some 62) (setL ((x2.1.set (Int.toNat x2.2.2) ((x2.2.1, v5.1.2), v5.2)).map ePt) [((Int.toNat x2.2.2), 1)] [.raw (.int .i64 (w64 (x2.2.1 + 1)))])] : SV) = .ov false [.sl (some 62) (((x2.1.set (Int.toNat x2.2.2) ((x2.2.1, v5.1.2), v5.2)).set (Int.toNat x2.2.2) ((v6.1.1, (w64 (x2.2.1 + 1))), v6.2)).map ePt)]] (by kernel_rfl) ⟨(idxO_some hv6).1, (map_get ePt (idxO_some hv6).2), ((gr0 rfl).trans (gre (map_get ePt (idxO_some hv6).2))), (congrArg (fun z => SV.ov false [.sl (some 62) z]) (set1 (f := ePt) (y := ((v6.1.1, (w64 (x2.2.1 + 1))), v6.2)) (idxO_some hv6).2 rfl)), trivial⟩) ?_
   refine k_sreg (r_go [(0, .ov false [.sl (some 62) (((x2.1.set (Int.toNat x2.2.2) ((x2.2.1, v5.1.2), v5.2)).set (Int.toNat x2.2.2) ((v6.1.1, (w64 (x2.2.1 + 1))), v6.2)).map ePt)]), (1, .p (.int .i64 (w64 ((w64 (x2.2.1 + 1)) + 1)))), (5, .p (.int .i64 x2.2.2))] [] [] (by kernel_rfl) trivial) ?_
   replace h := bind_some' h
   obtain ⟨v7, hv7, h⟩ := h
   refine k_sreg (r_go [(0, .ov false [.sl (some 62) ((((x2.1.set (Int.toNat x2.2.2) ((x2.2.1, v5.1.2), v5.2)).set (Int.toNat x2.2.2) ((v6.1.1, (w64 (x2.2.1 + 1))), v6.2)).set (Int.toNat x2.2.2) (v7.1, ((w64 ((w64 (x2.2.1 + 1)) + 1)), v7.2.2))).map ePt)]), (1, .p (.int .i64 (w64 ((w64 (x2.2.1 + 1)) + 1)))), (5, .p (.int .i64 x2.2.2))] [(3, {row := some (ePt v7)}), (6, {row := some (eRt v7.2), fix := some (0, .ov false [.sl (some 62) ((((x2.1.set (Int.toNat x2.2.2) ((x2.2.1, v5.1.2), v5.2)).set (Int.toNat x2.2.2) ((v6.1.1, (w64 (x2.2.1 + 1))), v6.2)).set (Int.toNat x2.2.2) (v7.1, ((w64 ((w64 (x2.2.1 + 1)) + 1)), v7.2.2))).map ePt)])})] [0 ≤ x2.2.2, (((x2.1.set (Int.toNat x2.2.2) ((x2.2.1, v5.1.2), v5.2)).set (Int.toNat x2.2.2) ((v6.1.1, (w64 (x2.2.1 + 1))), v6.2)).map ePt)[(Int.toNat x2.2.2)]? = some (ePt v7), getRow [[.sl (some 62) (((x2.1.set (Int.toNat x2.2.2) ((x2.2.1, v5.1.2), v5.2)).set (Int.toNat x2.2.2) ((v6.1.1, (w64 (x2.2.1 + 1))), v6.2)).map ePt)]] [(0, 0), ((Int.toNat x2.2.2), 2)] = some (eRt v7.2), (SV.ov false [.sl (some 62) (setL (((x2.1.set (Int.toNat x2.2.2) ((x2.2.1, v5.1.2), v5.2)).set (Int.toNat x2.2.2) ((v6.1.1, (w64 (x2.2.1 + 1))), v6.2)).map ePt) [((Int.toNat x2.2.2), 2)] [.raw (.int .i64 (w64 ((w64 (x2.2.1 + 1)) + 1)))])] : SV) = .ov false [.sl (some 62) ((((x2.1.set (Int.toNat x2.2.2) ((x2.2.1, v5.1.2), v5.2)).set (Int.toNat x2.2.2) ((v6.1.1, (w64 (x2.2.1 + 1))), v6.2)).set (Int.toNat x2.2.2) (v7.1, ((w64 ((w64 (x2.2.1 + 1)) + 1)), v7.2.2))).map ePt)]] (by kernel_rfl) ⟨(idxO_some hv7).1, (map_get ePt (idxO_some hv7).2), ((gr0 rfl).trans (gre (map_get ePt (idxO_some hv7).2))), (congrArg (fun z => SV.ov false [.sl (some 62) z]) (set1 (f := ePt) (y := (v7.1, ((w64 ((w64 (x2.2.1 + 1)) + 1)), v7.2.2))) (idxO_some hv7).2 rfl)), trivial⟩) ?_
   refine k_sreg (r_go [(0, .ov false [.sl (some 62) ((((x2.1.set (Int.toNat x2.2.2) ((x2.2.1, v5.1.2), v5.2)).set (Int.toNat x2.2.2) ((v6.1.1, (w64 (x2.2.1 + 1))), v6.2)).set (Int.toNat x2.2.2) (v7.1, ((w64 ((w64 (x2.2.1 + 1)) + 1)), v7.2.2))).map ePt)]), (1, .p (.int .i64 (w64 ((w64 ((w64 (x2.2.1 + 1)) + 1)) + 1)))), (5, .p (.int .i64 x2.2.2))] [] [] (by kernel_rfl) trivial) ?_
   replace h := bind_some' h
   obtain ⟨v8, hv8, h⟩ := h
   refine k_sreg (r_go [(0, .ov false [.sl (some 62) (((((x2.1.set (Int.toNat x2.2.2) ((x2.2.1, v5.1.2), v5.2)).set (Int.toNat x2.2.2) ((v6.1.1, (w64 (x2.2.1 + 1))), v6.2)).set (Int.toNat x2.2.2) (v7.1, ((w64 ((w64 (x2.2.1 + 1)) + 1)), v7.2.2))).set (Int.toNat x2.2.2) (v8.1, (v8.2.1, (w64 ((w64 ((w64 (x2.2.1 + 1)) + 1)) + 1))))).map ePt)]), (1, .p (.int .i64 (w64 ((w64 ((w64 (x2.2.1 + 1)) + 1)) + 1)))), (5, .p (.int .i64 x2.2.2))] [(3, {row := some (ePt v8)}), (6, {row := some (eI v8.2.2), fix := some (0, .ov false [.sl (some 62) (((((x2.1.set (Int.toNat x2.2.2) ((x2.2.1, v5.1.2), v5.2)).set (Int.toNat x2.2.2) ((v6.1.1, (w64 (x2.2.1 + 1))), v6.2)).set (Int.toNat x2.2.2) (v7.1, ((w64 ((w64 (x2.2.1 + 1)) + 1)), v7.2.2))).set (Int.toNat x2.2.2) (v8.1, (v8.2.1, (w64 ((w64 ((w64 (x2.2.1 + 1)) + 1)) + 1))))).map ePt)])})] [0 ≤ x2.2.2, ((((x2.1.set (Int.toNat x2.2.2) ((x2.2.1, v5.1.2), v5.2)).set (Int.toNat x2.2.2) ((v6.1.1, (w64 (x2.2.1 + 1))), v6.2)).set (Int.toNat x2.2.2) (v7.1, ((w64 ((w64 (x2.2.1 + 1)) + 1)), v7.2.2))).map ePt)[(Int.toNat x2.2.2)]? = some (ePt v8), getRow [[.sl (some 62) ((((x2.1.set (Int.toNat x2.2.2) ((x2.2.1, v5.1.2), v5.2)).set (Int.toNat x2.2.2) ((v6.1.1, (w64 (x2.2.1 + 1))), v6.2)).set (Int.toNat x2.2.2) (v7.1, ((w64 ((w64 (x2.2.1 + 1)) + 1)), v7.2.2))).map ePt)]] [(0, 0), ((Int.toNat x2.2.2), 3)] = some (eI v8.2.2), (SV.ov false [.sl (some 62) (setL ((((x2.1.set (Int.toNat x2.2.2) ((x2.2.1, v5.1.2), v5.2)).set (Int.toNat x2.2.2) ((v6.1.1, (w64 (x2.2.1 + 1))), v6.2)).set (Int.toNat x2.2.2) (v7.1, ((w64 ((w64 (x2.2.1 + 1)) + 1)), v7.2.2))).map ePt) [((Int.toNat x2.2.2), 3)] [.raw (.int .i64 (w64 ((w64 ((w64 (x2.2.1 + 1)) + 1)) + 1)))])] : SV) = .ov false [.sl (some 62) (((((x2.1.set (Int.toNat x2.2.2) ((x2.2.1, v5.1.2), v5.2)).set (Int.toNat x2.2.2) ((v6.1.1, (w64 (x2.2.1 + 1))), v6.2)).set (Int.toNat x2.2.2) (v7.1, ((w64 ((w64 (x2.2.1 + 1)) + 1)), v7.2.2))).set (Int.toNat x2.2.2) (v8.1, (v8.2.1, (w64 ((w64 ((w64 (x2.2.1 + 1)) + 1)) + 1))))).map ePt)]] (by kernel_rfl) ⟨(idxO_some hv8).1, (map_get ePt (idxO_some hv8).2), ((gr0 rfl).trans (gre (map_get ePt (idxO_some hv8).2))), (congrArg (fun z => SV.ov false [.sl (some 62) z]) (set1 (f := ePt) (y := (v8.1, (v8.2.1, (w64 ((w64 ((w64 (x2.2.1 + 1)) + 1)) + 1))))) (idxO_some hv8).2 rfl)), trivial⟩) ?_
   refine k_reg (r_go [(0, .ov false [.sl (some 62) (((((x2.1.set (Int.toNat x2.2.2) ((x2.2.1, v5.1.2), v5.2)).set (Int.toNat x2.2.2) ((v6.1.1, (w64 (x2.2.1 + 1))), v6.2)).set (Int.toNat x2.2.2) (v7.1, ((w64 ((w64 (x2.2.1 + 1)) + 1)), v7.2.2))).set (Int.toNat x2.2.2) (v8.1, (v8.2.1, (w64 ((w64 ((w64 (x2.2.1 + 1)) + 1)) + 1))))).map ePt)]), (1, .p (.int .i64 (w64 ((w64 ((w64 ((w64 (x2.2.1 + 1)) + 1)) + 1)) + 1)))), (5, .p (.int .i64 x2.2.2))] [] [] (by kernel_rfl) trivial) ?_
   refine b_n ?_
   refine q_n ?_
   refine k_reg (r_go [(0, .ov false [.sl (some 62) (((((x2.1.set (Int.toNat x2.2.2) ((x2.2.1, v5.1.2), v5.2)).set (Int.toNat x2.2.2) ((v6.1.1, (w64 (x2.2.1 + 1))), v6.2)).set (Int.toNat x2.2.2) (v7.1, ((w64 ((w64 (x2.2.1 + 1)) + 1)), v7.2.2))).set (Int.toNat x2.2.2) (v8.1, (v8.2.1, (w64 ((w64 ((w64 (x2.2.1 + 1)) + 1)) + 1))))).map ePt)]), (1, .p (.int .i64 (w64 ((w64 ((w64 ((w64 (x2.2.1 + 1)) + 1)) + 1)) + 1)))), (5, .p (.int .i64 (w64 (x2.2.2 + 1))))] [] [] (by kernel_rfl) trivial) ?_
   exact lq_n (((((x2.1.set (Int.toNat x2.2.2) ((x2.2.1, v5.1.2), v5.2)).set (Int.toNat x2.2.2) ((v6.1.1, (w64 (x2.2.1 + 1))), v6.2)).set (Int.toNat x2.2.2) (v7.1, ((w64 ((w64 (x2.2.1 + 1)) + 1)), v7.2.2))).set (Int.toNat x2.2.2) (v8.1, (v8.2.1, (w64 ((w64 ((w64 (x2.2.1 + 1)) + 1)) + 1))))), (w64 ((w64 ((w64 ((w64 (x2.2.1 + 1)) + 1)) + 1)) + 1)), (w64 (x2.2.2 + 1))) (Option.some.inj h).symm (wk_of (by kernel_rfl) (by kernel_rfl))
  ·replace h := ite_f hc5_3 h
   refine k_exit ?_
   refine q_x ?_
   refine lq_x ?_
   refine b_x ?_
   have hyy := hy_x2 _ (Option.some.inj h).symm
   subst hyy
   have h := hk_x2
   refine q_n ?_
   exact ⟨(x2.1, x2.2.1), h, (wk_of (by kernel_rfl) (by kernel_rfl))⟩
theorem wk_laws_markRatS {a0 : (List Qr)} {a1 : Int}  {r : (Int × (List Qr))} (h : laws_markRatS a0 a1 = some r) : MeetsB Try.prog 43 (.ov false [.sl (some 25) (a0.map eRt)]) [.v (.int .i64 a1)] [.p (.int .i64 r.1)] (.ov false [.sl (some 25) (r.2.map eRt)]) := by
 refine MeetsB_ofL (by kernel_rfl) Try.func43 rfl (by kernel_rfl) rfl (l0 := [(0, .ov false [.sl (some 25) (a0.map eRt)]), (1, .p (.int .i64 a1))]) (by kernel_rfl) ?_
 unfold laws_markRatS at h
 refine k_sreg (r_go [(0, .ov false [.sl (some 25) (a0.map eRt)]), (1, .p (.int .i64 a1))] [] [] (by kernel_rfl) trivial) ?_
 refine k_join (J := fun (x : ((List Qr) × Int)) => [(0, .ov false [.sl (some 25) (x.1.map eRt)]), (1, .p (.int .i64 x.2))]) (K := fun x => laws_markRatS_k1 x = some r) (fun x1 h => ?_) ?_
 ·unfold laws_markRatS_k1 at h
  refine k_sreg (r_go [(0, .ov false [.sl (some 25) (x1.1.map eRt)]), (4, .p (.int .i64 x1.2))] [] [] (by kernel_rfl) trivial) ?_
  refine k_ret ?_
  obtain rfl := Option.some.inj h
  exact eb_ret (ls := [(.p (.int .i64 x1.2), 4)]) (by kernel_rfl) rfl rfl (by kernel_rfl) (by kernel_rfl)
 ·refine k_sreg (r_go [(0, .ov false [.sl (some 25) (a0.map eRt)]), (1, .p (.int .i64 a1)), (5, .p (.int .i64 0))] [] [] (by kernel_rfl) trivial) ?_
  refine k_block ?_
  obtain ⟨y3, hl_x2, hk_x2⟩ := bind_some' h
  clear h
  refine k_loop (J := fun (x : ((List Qr) × Int × Int)) => [(0, .ov false [.sl (some 25) (x.1.map eRt)]), (1, .p (.int .i64 x.2.1)), (5, .p (.int .i64 x.2.2))]) hl_x2 (wk_of (by kernel_rfl) (by kernel_rfl)) (fun x2 o_x2 h hy_x2 => ?_)
  unfold laws_markRatS_b1 at h
  refine k_seq ?_
  refine k_sreg (r_go [(0, .ov false [.sl (some 25) (x2.1.map eRt)]), (1, .p (.int .i64 x2.2.1)), (5, .p (.int .i64 x2.2.2)), (9, .p (.bool (decide (x2.2.2 < (x2.1.length : Int)))))] [(2, {n := some x2.1.length})] [(x2.1.map eRt).length = x2.1.length] (by kernel_rfl) ⟨(List.length_map ..), trivial⟩) ?_
  refine k_cond (b := (decide (x2.2.2 < (x2.1.length : Int)))) (by kernel_rfl) (fun hc5_3 => ?_) (fun hc5_3 => ?_)
  ·replace h := ite_t hc5_3 h
   refine k_skip ?_
   refine q_n ?_
   refine k_seq ?_
   refine k_block ?_
   replace h := bind_some' h
   obtain ⟨v5, hv5, h⟩ := h
   refine k_sreg (r_go [(0, .ov false [.sl (some 25) ((x2.1.set (Int.toNat x2.2.2) (x2.2.1, v5.2)).map eRt)]), (1, .p (.int .i64 x2.2.1)), (5, .p (.int .i64 x2.2.2))] [(3, {row := some (eRt v5)}), (5, {row := some (eRt v5), fix := some (0, .ov false [.sl (some 25) ((x2.1.set (Int.toNat x2.2.2) (x2.2.1, v5.2)).map eRt)])})] [0 ≤ x2.2.2, (x2.1.map eRt)[(Int.toNat x2.2.2)]? = some (eRt v5), getRow [[.sl (some 25) (x2.1.map eRt)]] [(0, 0), ((Int.toNat x2.2.2), 0)] = some (eRt v5), (SV.ov false [.sl (some 25) (setL (x2.1.map eRt) [((Int.toNat x2.2.2), 0)] (eI x2.2.1))] : SV) = .ov false [.sl (some 25) ((x2.1.set (Int.toNat x2.2.2) (x2.2.1, v5.2)).map eRt)]] (by kernel_rfl) ⟨(idxO_some hv5).1, (map_get eRt (idxO_some hv5).2), ((gr0 rfl).trans (gre (map_get eRt (idxO_some hv5).2))), (congrArg (fun z => SV.ov false [.sl (some 25) z]) (set1 (f := eRt) (y := (x2.2.1, v5.2)) (idxO_some hv5).2 rfl)), trivial⟩) ?_
   refine k_sreg (r_go [(0, .ov false [.sl (some 25) ((x2.1.set (Int.toNat x2.2.2) (x2.2.1, v5.2)).map eRt)]), (1, .p (.int .i64 (w64 (x2.2.1 + 1)))), (5, .p (.int .i64 x2.2.2))] [] [] (by kernel_rfl) trivial) ?_
   replace h := bind_some' h
   obtain ⟨v6, hv6, h⟩ := h
   refine k_sreg (r_go [(0, .ov false [.sl (some 25) (((x2.1.set (Int.toNat x2.2.2) (x2.2.1, v5.2)).set (Int.toNat x2.2.2) (v6.1, (w64 (x2.2.1 + 1)))).map eRt)]), (1, .p (.int .i64 (w64 (x2.2.1 + 1)))), (5, .p (.int .i64 x2.2.2))] [(3, {row := some (eRt v6)}), (5, {row := some (eI v6.2), fix := some (0, .ov false [.sl (some 25) (((x2.1.set (Int.toNat x2.2.2) (x2.2.1, v5.2)).set (Int.toNat x2.2.2) (v6.1, (w64 (x2.2.1 + 1)))).map eRt)])})] [0 ≤ x2.2.2, ((x2.1.set (Int.toNat x2.2.2) (x2.2.1, v5.2)).map eRt)[(Int.toNat x2.2.2)]? = some (eRt v6), getRow [[.sl (some 25) ((x2.1.set (Int.toNat x2.2.2) (x2.2.1, v5.2)).map eRt)]] [(0, 0), ((Int.toNat x2.2.2), 1)] = some (eI v6.2), (SV.ov false [.sl (some 25) (setL ((x2.1.set (Int.toNat x2.2.2) (x2.2.1, v5.2)).map eRt) [((Int.toNat x2.2.2), 1)] [.raw (.int .i64 (w64 (x2.2.1 + 1)))])] : SV) = .ov false [.sl (some 25) (((x2.1.set (Int.toNat x2.2.2) (x2.2.1, v5.2)).set (Int.toNat x2.2.2) (v6.1, (w64 (x2.2.1 + 1)))).map eRt)]] (by kernel_rfl) ⟨(idxO_some hv6).1, (map_get eRt (idxO_some hv6).2), ((gr0 rfl).trans (gre (map_get eRt (idxO_some hv6).2))), (congrArg (fun z => SV.ov false [.sl (some 25) z]) (set1 (f := eRt) (y := (v6.1, (w64 (x2.2.1 + 1)))) (idxO_some hv6).2 rfl)), trivial⟩) ?_
   refine k_reg (r_go [(0, .ov false [.sl (some 25) (((x2.1.set (Int.toNat x2.2.2) (x2.2.1, v5.2)).set (Int.toNat x2.2.2) (v6.1, (w64 (x2.2.1 + 1)))).map eRt)]), (1, .p (.int .i64 (w64 ((w64 (x2.2.1 + 1)) + 1)))), (5, .p (.int .i64 x2.2.2))] [] [] (by kernel_rfl) trivial) ?_
   refine b_n ?_
   refine q_n ?_
   refine k_reg (r_go [(0, .ov false [.sl (some 25) (((x2.1.set (Int.toNat x2.2.2) (x2.2.1, v5.2)).set (Int.toNat x2.2.2) (v6.1, (w64 (x2.2.1 + 1)))).map eRt)]), (1, .p (.int .i64 (w64 ((w64 (x2.2.1 + 1)) + 1)))), (5, .p (.int .i64 (w64 (x2.2.2 + 1))))] [] [] (by kernel_rfl) trivial) ?_
   exact lq_n (((x2.1.set (Int.toNat x2.2.2) (x2.2.1, v5.2)).set (Int.toNat x2.2.2) (v6.1, (w64 (x2.2.1 + 1)))), (w64 ((w64 (x2.2.1 + 1)) + 1)), (w64 (x2.2.2 + 1))) (Option.some.inj h).symm (wk_of (by kernel_rfl) (by kernel_rfl))
  ·replace h := ite_f hc5_3 h
   refine k_exit ?_
   refine q_x ?_
   refine lq_x ?_
   refine b_x ?_
   have hyy := hy_x2 _ (Option.some.inj h).symm
   subst hyy
   have h := hk_x2
   refine q_n ?_
   exact ⟨(x2.1, x2.2.1), h, (wk_of (by kernel_rfl) (by kernel_rfl))⟩
theorem wk_laws_heldRatS {a0 : (List Qr)} {a1 : Int}  {r : Int} (h : laws_heldRatS a0 a1 = some r) : Meets Try.prog 44 [.d false [.sl none (a0.map eRt)], .v (.int .i64 a1)] { vals := [.p (.int .i64 r)] } := by
 refine Meets_ofL (by kernel_rfl) Try.func44 rfl (by kernel_rfl) (l0 := [(0, .d false [.sl none (a0.map eRt)]), (1, .p (.int .i64 a1))]) (by kernel_rfl) ?_
 unfold laws_heldRatS at h
 refine k_sreg (r_go [(0, .d false [.sl none (a0.map eRt)]), (1, .p (.int .i64 a1))] [] [] (by kernel_rfl) trivial) ?_
 refine k_join (J := fun (x : Int) => [(1, .p (.int .i64 x))]) (K := fun x => laws_heldRatS_k1 x = some r) (fun x1 h => ?_) ?_
 ·unfold laws_heldRatS_k1 at h
  refine k_sreg (r_go [(4, .p (.int .i64 x1))] [] [] (by kernel_rfl) trivial) ?_
  refine k_ret ?_
  obtain rfl := Option.some.inj h
  exact e_ret (ls := [(.p (.int .i64 x1), 4)]) (by kernel_rfl) rfl (by kernel_rfl) rfl
 ·refine k_sreg (r_go [(0, .d false [.sl none (a0.map eRt)]), (1, .p (.int .i64 a1)), (5, .p (.int .i64 0))] [] [] (by kernel_rfl) trivial) ?_
  refine k_block ?_
  obtain ⟨y3, hl_x2, hk_x2⟩ := bind_some' h
  clear h
  refine k_loop (J := fun (x : Qr) => [(0, .d false [.sl none (a0.map eRt)]), (1, .p (.int .i64 x.1)), (5, .p (.int .i64 x.2))]) hl_x2 (wk_of (by kernel_rfl) (by kernel_rfl)) (fun x2 o_x2 h hy_x2 => ?_)
  unfold laws_heldRatS_b1 at h
  refine k_seq ?_
  refine k_sreg (r_go [(0, .d false [.sl none (a0.map eRt)]), (1, .p (.int .i64 x2.1)), (5, .p (.int .i64 x2.2)), (9, .p (.bool (decide (x2.2 < (a0.length : Int)))))] [(2, {n := some a0.length})] [(a0.map eRt).length = a0.length] (by kernel_rfl) ⟨(List.length_map ..), trivial⟩) ?_
  refine k_cond (b := (decide (x2.2 < (a0.length : Int)))) (by kernel_rfl) (fun hc5_3 => ?_) (fun hc5_3 => ?_)
  ·replace h := ite_t hc5_3 h
   refine k_skip ?_
   refine q_n ?_
   refine k_seq ?_
   refine k_block ?_
   refine k_seq ?_
   replace h := bind_some' h
   obtain ⟨v5, hv5, h⟩ := h
   refine k_sreg (r_go [(0, .d false [.sl none (a0.map eRt)]), (1, .p (.int .i64 x2.1)), (5, .p (.int .i64 x2.2)), (18, .p (.bool (v5.1 != x2.1)))] [(2, {row := some (eRt v5)})] [0 ≤ x2.2, (a0.map eRt)[(Int.toNat x2.2)]? = some (eRt v5)] (by kernel_rfl) ⟨(idxO_some hv5).1, (map_get eRt (idxO_some hv5).2), trivial⟩) ?_
   refine k_cond (b := (v5.1 != x2.1)) (by kernel_rfl) (fun hc7_5 => ?_) (fun hc7_5 => ?_)
   ·replace h := ite_t hc7_5 h
    refine k_sreg (r_go [(4, .p (.int .i64 (-1)))] [] [] (by kernel_rfl) trivial) ?_
    refine k_ret ?_
    refine q_r ?_
    refine b_r ?_
    refine q_r ?_
    refine lq_r ?_
    refine b_r ?_
    refine q_r ?_
    have hyy := hy_x2 _ (Option.some.inj h).symm
    subst hyy
    have h := hk_x2
    dsimp only [Sum.elim] at h
    obtain rfl := Option.some.inj h
    exact e_ret (ls := [(.p (.int .i64 (-1)), 4)]) (by kernel_rfl) rfl (by kernel_rfl) rfl
   ·replace h := ite_f hc7_5 h
    refine k_skip ?_
    refine q_n ?_
    refine k_sreg (r_go [(0, .d false [.sl none (a0.map eRt)]), (1, .p (.int .i64 (w64 (x2.1 + 1)))), (5, .p (.int .i64 x2.2))] [] [] (by kernel_rfl) trivial) ?_
    refine k_seq ?_
    refine k_sreg (r_go [(0, .d false [.sl none (a0.map eRt)]), (1, .p (.int .i64 (w64 (x2.1 + 1)))), (5, .p (.int .i64 x2.2)), (27, .p (.bool (v5.2 != (w64 (x2.1 + 1)))))] [(2, {row := some (eRt v5)})] [0 ≤ x2.2, (a0.map eRt)[(Int.toNat x2.2)]? = some (eRt v5)] (by kernel_rfl) ⟨(idxO_some hv5).1, (map_get eRt (idxO_some hv5).2), trivial⟩) ?_
    refine k_cond (b := (v5.2 != (w64 (x2.1 + 1)))) (by kernel_rfl) (fun hc7_6 => ?_) (fun hc7_6 => ?_)
    ·replace h := ite_t hc7_6 h
     refine k_sreg (r_go [(4, .p (.int .i64 (-1)))] [] [] (by kernel_rfl) trivial) ?_
     refine k_ret ?_
     refine q_r ?_
     refine b_r ?_
     refine q_r ?_
     refine lq_r ?_
     refine b_r ?_
     refine q_r ?_
     have hyy := hy_x2 _ (Option.some.inj h).symm
     subst hyy
     have h := hk_x2
     dsimp only [Sum.elim] at h
     obtain rfl := Option.some.inj h
     exact e_ret (ls := [(.p (.int .i64 (-1)), 4)]) (by kernel_rfl) rfl (by kernel_rfl) rfl
    ·replace h := ite_f hc7_6 h
     refine k_skip ?_
     refine q_n ?_
     refine k_reg (r_go [(0, .d false [.sl none (a0.map eRt)]), (1, .p (.int .i64 (w64 ((w64 (x2.1 + 1)) + 1)))), (5, .p (.int .i64 x2.2))] [] [] (by kernel_rfl) trivial) ?_
     refine b_n ?_
     refine q_n ?_
     refine k_reg (r_go [(0, .d false [.sl none (a0.map eRt)]), (1, .p (.int .i64 (w64 ((w64 (x2.1 + 1)) + 1)))), (5, .p (.int .i64 (w64 (x2.2 + 1))))] [] [] (by kernel_rfl) trivial) ?_
     exact lq_n ((w64 ((w64 (x2.1 + 1)) + 1)), (w64 (x2.2 + 1))) (Option.some.inj h).symm (wk_of (by kernel_rfl) (by kernel_rfl))
  ·replace h := ite_f hc5_3 h
   refine k_exit ?_
   refine q_x ?_
   refine lq_x ?_
   refine b_x ?_
   have hyy := hy_x2 _ (Option.some.inj h).symm
   subst hyy
   have h := hk_x2
   dsimp only [Sum.elim] at h
   refine q_n ?_
   exact ⟨x2.1, h, (wk_of (by kernel_rfl) (by kernel_rfl))⟩
theorem wk_laws_FnExactEndValues {a0 : (List Qp)} {a1 : Int}  {r : Bool} (h : laws_FnExactEndValues a0 a1 = some r) : Meets Try.prog 12 [.d false [.sl none (a0.map ePt)], .v (.int .i64 a1)] { vals := [.p (.bool r)] } := by
 refine Meets_ofL (by kernel_rfl) Try.func12 rfl (by kernel_rfl) (l0 := [(0, .d false [.sl none (a0.map ePt)]), (1, .p (.int .i64 a1))]) (by kernel_rfl) ?_
 unfold laws_FnExactEndValues at h
 refine k_sreg (r_go [(0, .d false [.sl none (a0.map ePt)]), (1, .p (.int .i64 a1))] [] [] (by kernel_rfl) trivial) ?_
 refine k_sreg (r_go [(0, .d false [.sl none (a0.map ePt)]), (1, .p (.int .i64 a1)), (5, .p (.int .i64 1048576))] [] [] (by kernel_rfl) trivial) ?_
 replace h := bind_some' h
 obtain ⟨v1, hv1, h⟩ := h
 refine k_sreg (r_go [(0, .d false [.sl none (a0.map ePt)]), (1, .p (.int .i64 a1)), (5, .p (.int .i64 v1))] [(2, {call := some ([.d false [.sl none (a0.map ePt)], .v (.int .i64 1048576)], [.p (.int .i64 v1)], true)})] [([.d false [.sl none (a0.map ePt)], .v (.int .i64 1048576)] : List Arg) = [.d false [.sl none (a0.map ePt)], .v (.int .i64 1048576)], Meets Try.prog 14 ([.d false [.sl none (a0.map ePt)], .v (.int .i64 1048576)] ++ []) { vals := [.p (.int .i64 v1)] }, (!true || List.all [.p (.int .i64 v1)] simpleR) = true] (by kernel_rfl) ⟨rfl, (wk_laws_szPointS hv1), (bt rfl), trivial⟩) ?_
 refine k_seq ?_
 refine k_sreg (r_go [(0, .d false [.sl none (a0.map ePt)]), (1, .p (.int .i64 a1)), (20, .p (.bool (decide (v1 < 0))))] [] [] (by kernel_rfl) trivial) ?_
 refine k_cond (b := (decide (v1 < 0))) (by kernel_rfl) (fun hc2_1 => ?_) (fun hc2_1 => ?_)
 ·replace h := ite_t hc2_1 h
  refine k_sreg (r_go [(4, .p (.bool true))] [] [] (by kernel_rfl) trivial) ?_
  refine k_ret ?_
  refine q_r ?_
  obtain rfl := Option.some.inj h
  exact e_ret (ls := [(.p (.bool true), 4)]) (by kernel_rfl) rfl (by kernel_rfl) rfl
 ·replace h := ite_f hc2_1 h
  refine k_skip ?_
  refine q_n ?_
  replace h := bind_some' h
  obtain ⟨v3, hv3, h⟩ := h
  replace h := bind_some' h
  obtain ⟨v4, hv4, h⟩ := h
  refine k_sreg (r_go [(0, .d false [.sl none (a0.map ePt)]), (1, .p (.int .i64 a1)), (6, .ov false [.sl (some 25) (v4.1.map eRt)]), (7, .p (.bool v4.2))] [(1, {call := some ([.d false [.sl none (a0.map ePt)]], [.ov false [.sl (some 62) (v3.map ePt)]], true)}), (3, {call := some ([.d false [.sl none (v3.map ePt)], .v (.int .i64 a1)], [.ov false [.sl (some 25) (v4.1.map eRt)], .p (.bool v4.2)], true)})] [([.d false [.sl none (a0.map ePt)]] : List Arg) = [.d false [.sl none (a0.map ePt)]], Meets Try.prog 16 ([.d false [.sl none (a0.map ePt)]] ++ []) { vals := [.ov false [.sl (some 62) (v3.map ePt)]] }, (!true || List.all [.ov false [.sl (some 62) (v3.map ePt)]] simpleR) = true, ([.d false [.sl none (eraL (v3.map ePt))], .v (.int .i64 a1)] : List Arg) = [.d false [.sl none (v3.map ePt)], .v (.int .i64 a1)], Meets Try.prog 40 ([.d false [.sl none (v3.map ePt)], .v (.int .i64 a1)] ++ []) { vals := [.ov false [.sl (some 25) (v4.1.map eRt)], .p (.bool v4.2)] }, (!true || List.all [.ov false [.sl (some 25) (v4.1.map eRt)], .p (.bool v4.2)] simpleR) = true] (by kernel_rfl) ⟨rfl, (wk_laws_toPointS hv3), (bt (sa_o (wnR1 (wnL_enc (wn_P (wn_P wn_I wn_I) (wn_P wn_I wn_I))) rfl) rfl)), (by simp only [eraL_enc (h := ePt) (era_P (era_P er_I er_I) (era_P er_I er_I))]), (wk_spec_EndValues hv4), (bt (sa_o (wnR1 (wnL_enc (wn_P wn_I wn_I)) rfl) (sa_p rfl))), trivial⟩) ?_
  replace h := bind_some' h
  obtain ⟨v5, hv5, h⟩ := h
  refine k_sreg (r_go [(0, .d false [.sl none (a0.map ePt)]), (1, .p (.int .i64 a1)), (6, .ov false [.sl (some 25) (v4.1.map eRt)]), (7, .p (.bool v4.2)), (8, .ov false [.sl (some 62) (v5.map ePt)])] [(1, {call := some ([.d false [.sl none (a0.map ePt)]], [.ov false [.sl (some 62) (v5.map ePt)]], true)})] [([.d false [.sl none (a0.map ePt)]] : List Arg) = [.d false [.sl none (a0.map ePt)]], Meets Try.prog 16 ([.d false [.sl none (a0.map ePt)]] ++ []) { vals := [.ov false [.sl (some 62) (v5.map ePt)]] }, (!true || List.all [.ov false [.sl (some 62) (v5.map ePt)]] simpleR) = true] (by kernel_rfl) ⟨rfl, (wk_laws_toPointS hv5), (bt (sa_o (wnR1 (wnL_enc (wn_P (wn_P wn_I wn_I) (wn_P wn_I wn_I))) rfl) rfl)), trivial⟩) ?_
  replace h := bind_some' h
  obtain ⟨v6, hv6, h⟩ := h
  refine k_sreg (r_go [(0, .d false [.sl none (a0.map ePt)]), (1, .p (.int .i64 a1)), (6, .ov false [.sl (some 25) (v4.1.map eRt)]), (7, .p (.bool v4.2)), (8, .ov false [.sl (some 62) (v5.map ePt)]), (9, .ov false [.sl (some 25) (v6.1.map eRt)]), (10, .p (.bool v6.2))] [(2, {call := some ([.d false [.sl none (v5.map ePt)], .v (.int .i64 a1)], [.ov false [.sl (some 25) (v6.1.map eRt)], .p (.bool v6.2)], true)})] [([.d false [.sl none (eraL (v5.map ePt))], .v (.int .i64 a1)] : List Arg) = [.d false [.sl none (v5.map ePt)], .v (.int .i64 a1)], Meets Try.prog 41 ([.d false [.sl none (v5.map ePt)], .v (.int .i64 a1)] ++ []) { vals := [.ov false [.sl (some 25) (v6.1.map eRt)], .p (.bool v6.2)] }, (!true || List.all [.ov false [.sl (some 25) (v6.1.map eRt)], .p (.bool v6.2)] simpleR) = true] (by kernel_rfl) ⟨(by simp only [eraL_enc (h := ePt) (era_P (era_P er_I er_I) (era_P er_I er_I))]), (wk_impl_EndValues hv6), (bt (sa_o (wnR1 (wnL_enc (wn_P wn_I wn_I)) rfl) (sa_p rfl))), trivial⟩) ?_
  refine k_seq ?_
  replace h := bind_some' h
  obtain ⟨v7, hv7, h⟩ := h
  refine k_sreg (l1 := [(0, .d false [.sl none (a0.map ePt)]), (1, .p (.int .i64 a1)), (6, .ov false [.sl (some 25) (v4.1.map eRt)]), (7, .p (.bool v4.2)), (8, .ov false [.sl (some 62) (v5.map ePt)]), (9, .ov false [.sl (some 25) (v6.1.map eRt)]), (10, .p (.bool v6.2)), (44, .p (.bool ((!v7) || (!(v6.2 == v4.2)))))]) ?_ ?_
  ·rcases Bool.eq_false_or_eq_true (!v7) with ha1 | ha1
   ·exact RegOk.of_eq (l2 := [(0, .d false [.sl none (a0.map ePt)]), (1, .p (.int .i64 a1)), (6, .ov false [.sl (some 25) (v4.1.map eRt)]), (7, .p (.bool v4.2)), (8, .ov false [.sl (some 62) (v5.map ePt)]), (9, .ov false [.sl (some 25) (v6.1.map eRt)]), (10, .p (.bool v6.2)), (44, .p (.bool ((!v7) || (!(v6.2 == v4.2)))))]) (r_go [(0, .d false [.sl none (a0.map ePt)]), (1, .p (.int .i64 a1)), (6, .ov false [.sl (some 25) (v4.1.map eRt)]), (7, .p (.bool v4.2)), (8, .ov false [.sl (some 62) (v5.map ePt)]), (9, .ov false [.sl (some 25) (v6.1.map eRt)]), (10, .p (.bool v6.2)), (44, .p (.bool true))] [(2, {call := some ([.d false [.sl none (v6.1.map eRt)], .d false [.sl none (v4.1.map eRt)]], [.p (.bool v7)], true)}), (5, {g := some true}), (6, {g := some true}), (7, {g := some true}), (8, {b := some true})] [([.d false [.sl none (eraL (v6.1.map eRt))], .d false [.sl none (eraL (v4.1.map eRt))]] : List Arg) = [.d false [.sl none (v6.1.map eRt)], .d false [.sl none (v4.1.map eRt)]], Meets Try.prog 42 ([.d false [.sl none (v6.1.map eRt)], .d false [.sl none (v4.1.map eRt)]] ++ []) { vals := [.p (.bool v7)] }, (!true || List.all [.p (.bool v7)] simpleR) = true, (!v7) = true, (!v7) = true, (!v7) = true, (!v7) = true] (by kernel_rfl) ⟨(by simp only [eraL_enc (h := eRt) (era_P er_I er_I), eraL_enc (h := eRt) (era_P er_I er_I)]), (wk_laws_eqRatS hv7), (bt rfl), ha1, ha1, ha1, ha1, trivial⟩) (by simp [ha1])
   ·exact RegOk.of_eq (l2 := [(0, .d false [.sl none (a0.map ePt)]), (1, .p (.int .i64 a1)), (6, .ov false [.sl (some 25) (v4.1.map eRt)]), (7, .p (.bool v4.2)), (8, .ov false [.sl (some 62) (v5.map ePt)]), (9, .ov false [.sl (some 25) (v6.1.map eRt)]), (10, .p (.bool v6.2)), (44, .p (.bool ((!v7) || (!(v6.2 == v4.2)))))]) (r_go [(0, .d false [.sl none (a0.map ePt)]), (1, .p (.int .i64 a1)), (6, .ov false [.sl (some 25) (v4.1.map eRt)]), (7, .p (.bool v4.2)), (8, .ov false [.sl (some 62) (v5.map ePt)]), (9, .ov false [.sl (some 25) (v6.1.map eRt)]), (10, .p (.bool v6.2)), (44, .p (.bool (!(v6.2 == v4.2))))] [(2, {call := some ([.d false [.sl none (v6.1.map eRt)], .d false [.sl none (v4.1.map eRt)]], [.p (.bool v7)], true)}), (5, {g := some false}), (6, {g := some false}), (7, {g := some false}), (8, {b := some false})] [([.d false [.sl none (eraL (v6.1.map eRt))], .d false [.sl none (eraL (v4.1.map eRt))]] : List Arg) = [.d false [.sl none (v6.1.map eRt)], .d false [.sl none (v4.1.map eRt)]], Meets Try.prog 42 ([.d false [.sl none (v6.1.map eRt)], .d false [.sl none (v4.1.map eRt)]] ++ []) { vals := [.p (.bool v7)] }, (!true || List.all [.p (.bool v7)] simpleR) = true, (!v7) = false, (!v7) = false, (!v7) = false, (!v7) = false] (by kernel_rfl) ⟨(by simp only [eraL_enc (h := eRt) (era_P er_I er_I), eraL_enc (h := eRt) (era_P er_I er_I)]), (wk_laws_eqRatS hv7), (bt rfl), ha1, ha1, ha1, ha1, trivial⟩) (by simp [ha1])
  ·refine k_cond (b := ((!v7) || (!(v6.2 == v4.2)))) (by kernel_rfl) (fun hc2_7 => ?_) (fun hc2_7 => ?_)
   ·replace h := ite_t hc2_7 h
    refine k_sreg (r_go [(4, .p (.bool false))] [] [] (by kernel_rfl) trivial) ?_
    refine k_ret ?_
    refine q_r ?_
    obtain rfl := Option.some.inj h
    exact e_ret (ls := [(.p (.bool false), 4)]) (by kernel_rfl) rfl (by kernel_rfl) rfl
   ·replace h := ite_f hc2_7 h
    refine k_skip ?_
    refine q_n ?_
    refine k_seq ?_
    replace h := bind_some' h
    obtain ⟨v9, hv9, h⟩ := h
    replace h := bind_some' h
    obtain ⟨v10, hv10, h⟩ := h
    refine k_sreg (r_go [(0, .d false [.sl none (a0.map ePt)]), (1, .p (.int .i64 a1)), (6, .ov false [.sl (some 25) (v4.1.map eRt)]), (7, .p (.bool v4.2)), (8, .ov false [.sl (some 62) (v5.map ePt)]), (9, .ov false [.sl (some 25) (v6.1.map eRt)]), (10, .p (.bool v6.2)), (49, .p (.bool (!v10)))] [(2, {call := some ([.d false [.sl none (a0.map ePt)]], [.ov false [.sl (some 62) (v9.map ePt)]], true)}), (3, {call := some ([.d false [.sl none (v5.map ePt)], .d false [.sl none (v9.map ePt)]], [.p (.bool v10)], true)})] [([.d false [.sl none (a0.map ePt)]] : List Arg) = [.d false [.sl none (a0.map ePt)]], Meets Try.prog 16 ([.d false [.sl none (a0.map ePt)]] ++ []) { vals := [.ov false [.sl (some 62) (v9.map ePt)]] }, (!true || List.all [.ov false [.sl (some 62) (v9.map ePt)]] simpleR) = true, ([.d false [.sl none (eraL (v5.map ePt))], .d false [.sl none (eraL (v9.map ePt))]] : List Arg) = [.d false [.sl none (v5.map ePt)], .d false [.sl none (v9.map ePt)]], Meets Try.prog 19 ([.d false [.sl none (v5.map ePt)], .d false [.sl none (v9.map ePt)]] ++ []) { vals := [.p (.bool v10)] }, (!true || List.all [.p (.bool v10)] simpleR) = true] (by kernel_rfl) ⟨rfl, (wk_laws_toPointS hv9), (bt (sa_o (wnR1 (wnL_enc (wn_P (wn_P wn_I wn_I) (wn_P wn_I wn_I))) rfl) rfl)), (by simp only [eraL_enc (h := ePt) (era_P (era_P er_I er_I) (era_P er_I er_I)), eraL_enc (h := ePt) (era_P (era_P er_I er_I) (era_P er_I er_I))]), (wk_laws_eqPointS hv10), (bt rfl), trivial⟩) ?_
    refine k_cond (b := (!v10)) (by kernel_rfl) (fun hc2_10 => ?_) (fun hc2_10 => ?_)
    ·replace h := ite_t hc2_10 h
     refine k_sreg (r_go [(4, .p (.bool false))] [] [] (by kernel_rfl) trivial) ?_
     refine k_ret ?_
     refine q_r ?_
     obtain rfl := Option.some.inj h
     exact e_ret (ls := [(.p (.bool false), 4)]) (by kernel_rfl) rfl (by kernel_rfl) rfl
    ·replace h := ite_f hc2_10 h
     refine k_skip ?_
     refine q_n ?_
     refine k_sreg (r_go [(0, .d false [.sl none (a0.map ePt)]), (1, .p (.int .i64 a1)), (6, .ov false [.sl (some 25) (v4.1.map eRt)]), (7, .p (.bool v4.2)), (8, .ov false [.sl (some 62) (v5.map ePt)]), (9, .ov false [.sl (some 25) (v6.1.map eRt)]), (10, .p (.bool v6.2)), (11, .p (.int .i64 1))] [] [] (by kernel_rfl) trivial) ?_
     replace h := bind_some' h
     obtain ⟨v12, hv12, h⟩ := h
     refine k_sreg (r_go [(0, .d false [.sl none (a0.map ePt)]), (1, .p (.int .i64 a1)), (6, .ov false [.sl (some 25) (v4.1.map eRt)]), (7, .p (.bool v4.2)), (9, .ov false [.sl (some 25) (v6.1.map eRt)]), (10, .p (.bool v6.2)), (11, .p (.int .i64 v12.1))] [(2, {lend := some ([.v (.int .i64 1)], [.p (.int .i64 v12.1)], .ov false [.sl (some 62) (v12.2.map ePt)], true)})] [([.v (.int .i64 1)] : List Arg) = [.v (.int .i64 1)], MeetsB Try.prog 37 (.ov false [.sl (some 62) (v5.map ePt)]) [.v (.int .i64 1)] [.p (.int .i64 v12.1)] (.ov false [.sl (some 62) (v12.2.map ePt)]), (!true || (List.all [.p (.int .i64 v12.1)] simpleR && wnS (.ov false [.sl (some 62) (v12.2.map ePt)]))) = true] (by kernel_rfl) ⟨rfl, (wk_laws_markPointS hv12), (bt (ls_t rfl (wnR1 (wnL_enc (wn_P (wn_P wn_I wn_I) (wn_P wn_I wn_I))) rfl))), trivial⟩) ?_
     refine k_seq ?_
     replace h := bind_some' h
     obtain ⟨w14, hw14, h⟩ := h
     refine k_sreg (l1 := [(0, .d false [.sl none (a0.map ePt)]), (1, .p (.int .i64 a1)), (6, .ov false [.sl (some 25) (v4.1.map eRt)]), (7, .p (.bool v4.2)), (9, .ov false [.sl (some 25) (v6.1.map eRt)]), (65, .p (.bool w14))]) ?_ ?_
     ·clear h
      rcases Bool.eq_false_or_eq_true (decide (v12.1 < 0)) with ha3 | ha3
      ·replace hw14 := ite_t ha3 hw14
       have hw14 := Option.some.inj hw14
       subst hw14
       exact (r_go [(0, .d false [.sl none (a0.map ePt)]), (1, .p (.int .i64 a1)), (6, .ov false [.sl (some 25) (v4.1.map eRt)]), (7, .p (.bool v4.2)), (9, .ov false [.sl (some 25) (v6.1.map eRt)]), (65, .p (.bool true))] [(3, {g := some true}), (4, {g := some true}), (5, {g := some true}), (6, {g := some true}), (7, {b := some true}), (9, {g := some true}), (10, {g := some true}), (11, {g := some true}), (12, {b := some true})] [(decide (v12.1 < 0)) = true, (decide (v12.1 < 0)) = true, (decide (v12.1 < 0)) = true, (decide (v12.1 < 0)) = true, (decide (v12.1 < 0)) = true, true = true, true = true, true = true, true = true] (by kernel_rfl) ⟨ha3, ha3, ha3, ha3, ha3, rfl, rfl, rfl, rfl, trivial⟩)
      ·replace hw14 := ite_f ha3 hw14
       replace hw14 := bind_some' hw14
       obtain ⟨v13, hv13, hw14⟩ := hw14
       rcases Bool.eq_false_or_eq_true (!v13) with ha4 | ha4
       ·replace hw14 := ite_t ha4 hw14
        have hw14 := Option.some.inj hw14
        subst hw14
        exact (r_go [(0, .d false [.sl none (a0.map ePt)]), (1, .p (.int .i64 a1)), (6, .ov false [.sl (some 25) (v4.1.map eRt)]), (7, .p (.bool v4.2)), (9, .ov false [.sl (some 25) (v6.1.map eRt)]), (65, .p (.bool true))] [(3, {g := some false}), (4, {g := some false}), (5, {g := some false, call := some ([.d false [.sl none (v6.1.map eRt)], .d false [.sl none (v4.1.map eRt)]], [.p (.bool v13)], true)}), (6, {g := some false}), (7, {b := some false}), (9, {g := some true}), (10, {g := some true}), (11, {g := some true}), (12, {b := some true})] [(decide (v12.1 < 0)) = false, (decide (v12.1 < 0)) = false, (decide (v12.1 < 0)) = false, ([.d false [.sl none (eraL (v6.1.map eRt))], .d false [.sl none (eraL (v4.1.map eRt))]] : List Arg) = [.d false [.sl none (v6.1.map eRt)], .d false [.sl none (v4.1.map eRt)]], Meets Try.prog 42 ([.d false [.sl none (v6.1.map eRt)], .d false [.sl none (v4.1.map eRt)]] ++ []) { vals := [.p (.bool v13)] }, (!true || List.all [.p (.bool v13)] simpleR) = true, (decide (v12.1 < 0)) = false, (decide (v12.1 < 0)) = false, (!v13) = true, (!v13) = true, (!v13) = true, (!v13) = true] (by kernel_rfl) ⟨ha3, ha3, ha3, (by simp only [eraL_enc (h := eRt) (era_P er_I er_I), eraL_enc (h := eRt) (era_P er_I er_I)]), (wk_laws_eqRatS hv13), (bt rfl), ha3, ha3, ha4, ha4, ha4, ha4, trivial⟩)
       ·replace hw14 := ite_f ha4 hw14
        have hw14 := Option.some.inj hw14
        subst hw14
        exact (r_go [(0, .d false [.sl none (a0.map ePt)]), (1, .p (.int .i64 a1)), (6, .ov false [.sl (some 25) (v4.1.map eRt)]), (7, .p (.bool v4.2)), (9, .ov false [.sl (some 25) (v6.1.map eRt)]), (65, .p (.bool (!(v6.2 == v4.2))))] [(3, {g := some false}), (4, {g := some false}), (5, {g := some false, call := some ([.d false [.sl none (v6.1.map eRt)], .d false [.sl none (v4.1.map eRt)]], [.p (.bool v13)], true)}), (6, {g := some false}), (7, {b := some false}), (9, {g := some false}), (10, {g := some false}), (11, {g := some false}), (12, {b := some false})] [(decide (v12.1 < 0)) = false, (decide (v12.1 < 0)) = false, (decide (v12.1 < 0)) = false, ([.d false [.sl none (eraL (v6.1.map eRt))], .d false [.sl none (eraL (v4.1.map eRt))]] : List Arg) = [.d false [.sl none (v6.1.map eRt)], .d false [.sl none (v4.1.map eRt)]], Meets Try.prog 42 ([.d false [.sl none (v6.1.map eRt)], .d false [.sl none (v4.1.map eRt)]] ++ []) { vals := [.p (.bool v13)] }, (!true || List.all [.p (.bool v13)] simpleR) = true, (decide (v12.1 < 0)) = false, (decide (v12.1 < 0)) = false, (!v13) = false, (!v13) = false, (!v13) = false, (!v13) = false] (by kernel_rfl) ⟨ha3, ha3, ha3, (by simp only [eraL_enc (h := eRt) (era_P er_I er_I), eraL_enc (h := eRt) (era_P er_I er_I)]), (wk_laws_eqRatS hv13), (bt rfl), ha3, ha3, ha4, ha4, ha4, ha4, trivial⟩)
     ·refine k_cond (b := w14) (by kernel_rfl) (fun hc2_14 => ?_) (fun hc2_14 => ?_)
      ·replace h := ite_t hc2_14 h
       refine k_sreg (r_go [(4, .p (.bool false))] [] [] (by kernel_rfl) trivial) ?_
       refine k_ret ?_
       refine q_r ?_
       obtain rfl := Option.some.inj h
       exact e_ret (ls := [(.p (.bool false), 4)]) (by kernel_rfl) rfl (by kernel_rfl) rfl
      ·replace h := ite_f hc2_14 h
       refine k_skip ?_
       refine q_n ?_
       refine k_sreg (r_go [(0, .d false [.sl none (a0.map ePt)]), (1, .p (.int .i64 a1)), (6, .ov false [.sl (some 25) (v4.1.map eRt)]), (7, .p (.bool v4.2)), (9, .ov false [.sl (some 25) (v6.1.map eRt)]), (12, .p (.int .i64 1))] [] [] (by kernel_rfl) trivial) ?_
       replace h := bind_some' h
       obtain ⟨v16, hv16, h⟩ := h
       refine k_sreg (r_go [(0, .d false [.sl none (a0.map ePt)]), (1, .p (.int .i64 a1)), (6, .ov false [.sl (some 25) (v4.1.map eRt)]), (7, .p (.bool v4.2)), (9, .ov false [.sl (some 25) (v16.2.map eRt)]), (12, .p (.int .i64 v16.1))] [(2, {lend := some ([.v (.int .i64 1)], [.p (.int .i64 v16.1)], .ov false [.sl (some 25) (v16.2.map eRt)], true)})] [([.v (.int .i64 1)] : List Arg) = [.v (.int .i64 1)], MeetsB Try.prog 43 (.ov false [.sl (some 25) (v6.1.map eRt)]) [.v (.int .i64 1)] [.p (.int .i64 v16.1)] (.ov false [.sl (some 25) (v16.2.map eRt)]), (!true || (List.all [.p (.int .i64 v16.1)] simpleR && wnS (.ov false [.sl (some 25) (v16.2.map eRt)]))) = true] (by kernel_rfl) ⟨rfl, (wk_laws_markRatS hv16), (bt (ls_t rfl (wnR1 (wnL_enc (wn_P wn_I wn_I)) rfl))), trivial⟩) ?_
       refine k_sreg (r_go [(0, .d false [.sl none (a0.map ePt)]), (1, .p (.int .i64 a1)), (6, .ov false [.sl (some 25) (v4.1.map eRt)]), (7, .p (.bool v4.2)), (9, .ov false [.sl (some 25) (v16.2.map eRt)]), (12, .p (.int .i64 v16.1)), (13, .p (.int .i64 1))] [] [] (by kernel_rfl) trivial) ?_
       replace h := bind_some' h
       obtain ⟨v17, hv17, h⟩ := h
       refine k_sreg (r_go [(0, .d false [.sl none (a0.map ePt)]), (1, .p (.int .i64 a1)), (6, .ov false [.sl (some 25) (v4.1.map eRt)]), (7, .p (.bool v4.2)), (9, .ov false [.sl (some 25) (v16.2.map eRt)]), (12, .p (.int .i64 v16.1)), (13, .p (.int .i64 v17))] [(2, {call := some ([.d false [.sl none (v16.2.map eRt)], .v (.int .i64 1)], [.p (.int .i64 v17)], true)})] [([.d false [.sl none (eraL (v16.2.map eRt))], .v (.int .i64 1)] : List Arg) = [.d false [.sl none (v16.2.map eRt)], .v (.int .i64 1)], Meets Try.prog 44 ([.d false [.sl none (v16.2.map eRt)], .v (.int .i64 1)] ++ []) { vals := [.p (.int .i64 v17)] }, (!true || List.all [.p (.int .i64 v17)] simpleR) = true] (by kernel_rfl) ⟨(by simp only [eraL_enc (h := eRt) (era_P er_I er_I)]), (wk_laws_heldRatS hv17), (bt rfl), trivial⟩) ?_
       refine k_seq ?_
       refine k_sreg (r_go [(0, .d false [.sl none (a0.map ePt)]), (1, .p (.int .i64 a1)), (6, .ov false [.sl (some 25) (v4.1.map eRt)]), (7, .p (.bool v4.2)), (9, .ov false [.sl (some 25) (v16.2.map eRt)]), (12, .p (.int .i64 v16.1)), (13, .p (.int .i64 v17)), (73, .p (.bool (decide (v17 < 0))))] [] [] (by kernel_rfl) trivial) ?_
       refine k_cond (b := (decide (v17 < 0))) (by kernel_rfl) (fun hc2_17 => ?_) (fun hc2_17 => ?_)
       ·replace h := ite_t hc2_17 h
        refine k_sreg (r_go [(4, .p (.bool false))] [] [] (by kernel_rfl) trivial) ?_
        refine k_ret ?_
        refine q_r ?_
        obtain rfl := Option.some.inj h
        exact e_ret (ls := [(.p (.bool false), 4)]) (by kernel_rfl) rfl (by kernel_rfl) rfl
       ·replace h := ite_f hc2_17 h
        refine k_skip ?_
        refine q_n ?_
        refine k_seq ?_
        refine k_sreg (r_go [(0, .d false [.sl none (a0.map ePt)]), (1, .p (.int .i64 a1)), (6, .ov false [.sl (some 25) (v4.1.map eRt)]), (7, .p (.bool v4.2)), (9, .ov false [.sl (some 25) (v16.2.map eRt)]), (12, .p (.int .i64 v16.1)), (76, .p (.bool (v17 != v16.1)))] [] [] (by kernel_rfl) trivial) ?_
        refine k_cond (b := (v17 != v16.1)) (by kernel_rfl) (fun hc2_18 => ?_) (fun hc2_18 => ?_)
        ·replace h := ite_t hc2_18 h
         refine k_sreg (r_go [(4, .p (.bool false))] [] [] (by kernel_rfl) trivial) ?_
         refine k_ret ?_
         refine q_r ?_
         obtain rfl := Option.some.inj h
         exact e_ret (ls := [(.p (.bool false), 4)]) (by kernel_rfl) rfl (by kernel_rfl) rfl
        ·replace h := ite_f hc2_18 h
         refine k_skip ?_
         refine q_n ?_
         replace h := bind_some' h
         obtain ⟨v20, hv20, h⟩ := h
         replace h := bind_some' h
         obtain ⟨v21, hv21, h⟩ := h
         refine k_sreg (r_go [(6, .ov false [.sl (some 25) (v4.1.map eRt)]), (7, .p (.bool v4.2)), (9, .ov false [.sl (some 25) (v16.2.map eRt)]), (12, .p (.int .i64 v16.1)), (14, .ov false [.sl (some 25) (v21.1.map eRt)]), (15, .p (.bool v21.2))] [(1, {call := some ([.d false [.sl none (a0.map ePt)]], [.ov false [.sl (some 62) (v20.map ePt)]], true)}), (3, {call := some ([.d false [.sl none (v20.map ePt)], .v (.int .i64 a1)], [.ov false [.sl (some 25) (v21.1.map eRt)], .p (.bool v21.2)], true)})] [([.d false [.sl none (a0.map ePt)]] : List Arg) = [.d false [.sl none (a0.map ePt)]], Meets Try.prog 16 ([.d false [.sl none (a0.map ePt)]] ++ []) { vals := [.ov false [.sl (some 62) (v20.map ePt)]] }, (!true || List.all [.ov false [.sl (some 62) (v20.map ePt)]] simpleR) = true, ([.d false [.sl none (eraL (v20.map ePt))], .v (.int .i64 a1)] : List Arg) = [.d false [.sl none (v20.map ePt)], .v (.int .i64 a1)], Meets Try.prog 41 ([.d false [.sl none (v20.map ePt)], .v (.int .i64 a1)] ++ []) { vals := [.ov false [.sl (some 25) (v21.1.map eRt)], .p (.bool v21.2)] }, (!true || List.all [.ov false [.sl (some 25) (v21.1.map eRt)], .p (.bool v21.2)] simpleR) = true] (by kernel_rfl) ⟨rfl, (wk_laws_toPointS hv20), (bt (sa_o (wnR1 (wnL_enc (wn_P (wn_P wn_I wn_I) (wn_P wn_I wn_I))) rfl) rfl)), (by simp only [eraL_enc (h := ePt) (era_P (era_P er_I er_I) (era_P er_I er_I))]), (wk_impl_EndValues hv21), (bt (sa_o (wnR1 (wnL_enc (wn_P wn_I wn_I)) rfl) (sa_p rfl))), trivial⟩) ?_
         refine k_seq ?_
         replace h := bind_some' h
         obtain ⟨v22, hv22, h⟩ := h
         refine k_sreg (l1 := [(9, .ov false [.sl (some 25) (v16.2.map eRt)]), (12, .p (.int .i64 v16.1)), (92, .p (.bool ((!v22) || (!(v21.2 == v4.2)))))]) ?_ ?_
         ·rcases Bool.eq_false_or_eq_true (!v22) with ha6 | ha6
          ·exact RegOk.of_eq (l2 := [(9, .ov false [.sl (some 25) (v16.2.map eRt)]), (12, .p (.int .i64 v16.1)), (92, .p (.bool ((!v22) || (!(v21.2 == v4.2)))))]) (r_go [(9, .ov false [.sl (some 25) (v16.2.map eRt)]), (12, .p (.int .i64 v16.1)), (92, .p (.bool true))] [(2, {call := some ([.d false [.sl none (v21.1.map eRt)], .d false [.sl none (v4.1.map eRt)]], [.p (.bool v22)], true)}), (5, {g := some true}), (6, {g := some true}), (7, {g := some true}), (8, {b := some true})] [([.d false [.sl none (eraL (v21.1.map eRt))], .d false [.sl none (eraL (v4.1.map eRt))]] : List Arg) = [.d false [.sl none (v21.1.map eRt)], .d false [.sl none (v4.1.map eRt)]], Meets Try.prog 42 ([.d false [.sl none (v21.1.map eRt)], .d false [.sl none (v4.1.map eRt)]] ++ []) { vals := [.p (.bool v22)] }, (!true || List.all [.p (.bool v22)] simpleR) = true, (!v22) = true, (!v22) = true, (!v22) = true, (!v22) = true] (by kernel_rfl) ⟨(by simp only [eraL_enc (h := eRt) (era_P er_I er_I), eraL_enc (h := eRt) (era_P er_I er_I)]), (wk_laws_eqRatS hv22), (bt rfl), ha6, ha6, ha6, ha6, trivial⟩) (by simp [ha6])
          ·exact RegOk.of_eq (l2 := [(9, .ov false [.sl (some 25) (v16.2.map eRt)]), (12, .p (.int .i64 v16.1)), (92, .p (.bool ((!v22) || (!(v21.2 == v4.2)))))]) (r_go [(9, .ov false [.sl (some 25) (v16.2.map eRt)]), (12, .p (.int .i64 v16.1)), (92, .p (.bool (!(v21.2 == v4.2))))] [(2, {call := some ([.d false [.sl none (v21.1.map eRt)], .d false [.sl none (v4.1.map eRt)]], [.p (.bool v22)], true)}), (5, {g := some false}), (6, {g := some false}), (7, {g := some false}), (8, {b := some false})] [([.d false [.sl none (eraL (v21.1.map eRt))], .d false [.sl none (eraL (v4.1.map eRt))]] : List Arg) = [.d false [.sl none (v21.1.map eRt)], .d false [.sl none (v4.1.map eRt)]], Meets Try.prog 42 ([.d false [.sl none (v21.1.map eRt)], .d false [.sl none (v4.1.map eRt)]] ++ []) { vals := [.p (.bool v22)] }, (!true || List.all [.p (.bool v22)] simpleR) = true, (!v22) = false, (!v22) = false, (!v22) = false, (!v22) = false] (by kernel_rfl) ⟨(by simp only [eraL_enc (h := eRt) (era_P er_I er_I), eraL_enc (h := eRt) (era_P er_I er_I)]), (wk_laws_eqRatS hv22), (bt rfl), ha6, ha6, ha6, ha6, trivial⟩) (by simp [ha6])
         ·refine k_cond (b := ((!v22) || (!(v21.2 == v4.2)))) (by kernel_rfl) (fun hc2_22 => ?_) (fun hc2_22 => ?_)
          ·replace h := ite_t hc2_22 h
           refine k_sreg (r_go [(4, .p (.bool false))] [] [] (by kernel_rfl) trivial) ?_
           refine k_ret ?_
           refine q_r ?_
           obtain rfl := Option.some.inj h
           exact e_ret (ls := [(.p (.bool false), 4)]) (by kernel_rfl) rfl (by kernel_rfl) rfl
          ·replace h := ite_f hc2_22 h
           refine k_skip ?_
           refine q_n ?_
           refine k_sreg (r_go [(9, .ov false [.sl (some 25) (v16.2.map eRt)]), (12, .p (.int .i64 v16.1)), (13, .p (.int .i64 1))] [] [] (by kernel_rfl) trivial) ?_
           replace h := bind_some' h
           obtain ⟨v24, hv24, h⟩ := h
           refine k_sreg (r_go [(12, .p (.int .i64 v16.1)), (13, .p (.int .i64 v24))] [(2, {call := some ([.d false [.sl none (v16.2.map eRt)], .v (.int .i64 1)], [.p (.int .i64 v24)], true)})] [([.d false [.sl none (eraL (v16.2.map eRt))], .v (.int .i64 1)] : List Arg) = [.d false [.sl none (v16.2.map eRt)], .v (.int .i64 1)], Meets Try.prog 44 ([.d false [.sl none (v16.2.map eRt)], .v (.int .i64 1)] ++ []) { vals := [.p (.int .i64 v24)] }, (!true || List.all [.p (.int .i64 v24)] simpleR) = true] (by kernel_rfl) ⟨(by simp only [eraL_enc (h := eRt) (era_P er_I er_I)]), (wk_laws_heldRatS hv24), (bt rfl), trivial⟩) ?_
           refine k_seq ?_
           refine k_sreg (r_go [(12, .p (.int .i64 v16.1)), (13, .p (.int .i64 v24)), (97, .p (.bool (decide (v24 < 0))))] [] [] (by kernel_rfl) trivial) ?_
           refine k_cond (b := (decide (v24 < 0))) (by kernel_rfl) (fun hc2_24 => ?_) (fun hc2_24 => ?_)
           ·replace h := ite_t hc2_24 h
            refine k_sreg (r_go [(4, .p (.bool false))] [] [] (by kernel_rfl) trivial) ?_
            refine k_ret ?_
            refine q_r ?_
            obtain rfl := Option.some.inj h
            exact e_ret (ls := [(.p (.bool false), 4)]) (by kernel_rfl) rfl (by kernel_rfl) rfl
           ·replace h := ite_f hc2_24 h
            refine k_skip ?_
            refine q_n ?_
            refine k_seq ?_
            refine k_sreg (r_go [(100, .p (.bool (v24 != v16.1)))] [] [] (by kernel_rfl) trivial) ?_
            refine k_cond (b := (v24 != v16.1)) (by kernel_rfl) (fun hc2_25 => ?_) (fun hc2_25 => ?_)
            ·replace h := ite_t hc2_25 h
             refine k_sreg (r_go [(4, .p (.bool false))] [] [] (by kernel_rfl) trivial) ?_
             refine k_ret ?_
             refine q_r ?_
             obtain rfl := Option.some.inj h
             exact e_ret (ls := [(.p (.bool false), 4)]) (by kernel_rfl) rfl (by kernel_rfl) rfl
            ·replace h := ite_f hc2_25 h
             refine k_skip ?_
             refine q_n ?_
             refine k_sreg (r_go [(4, .p (.bool true))] [] [] (by kernel_rfl) trivial) ?_
             refine k_ret ?_
             obtain rfl := Option.some.inj h
             exact e_ret (ls := [(.p (.bool true), 4)]) (by kernel_rfl) rfl (by kernel_rfl) rfl
end Go.PV

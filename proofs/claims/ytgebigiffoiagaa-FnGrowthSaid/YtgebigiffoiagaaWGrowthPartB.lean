/-
  Walks through the functions that the law reaches: each answers as its plain definition does.
  Conditions: none.
-/
import Derived.KernelRfl
import Derived.Test.YtgebigiffoiagaaWGrowthPartA
import Derived.Test.YtgebigiffoiagaaProg
open Go Go.PV Go.Proofs
set_option linter.all false
namespace Go.PV
attribute [local irreducible] pvC pvL pvD sOp seqQ blockQ Meets MeetsB Ok OkL RegOk agree endQ seqL blockL loopQ endL endLB
theorem wk_spec_raGood {a0 : Qr}  {r : Bool} (h : spec_raGood a0 = some r) : Meets Try.prog 108 [.v (vRt a0)] { vals := [.p (.bool r)] } := by
 refine Meets_ofL (by kernel_rfl) Try.func108 rfl (by kernel_rfl) (l0 := [(0, .p (vRt a0))]) (by kernel_rfl) ?_
 unfold spec_raGood at h
 refine k_sreg (r_go [(1, .box (eRt a0))] [] [] (by kernel_rfl) trivial) ?_
 replace h := bs' h
 obtain ⟨v1, hv1, h⟩ := h
 replace h := bs' h
 obtain ⟨w5, hw5, h⟩ := h
 refine k_sreg (l1 := [(2, .p (.bool w5))]) ?_ ?_
 ·clear h
  rcases ft v1 with ha0 | ha0
  ·replace hw5 := ite_t ha0 hw5
   replace hw5 := bs' hw5
   obtain ⟨v2, hv2, hw5⟩ := hw5
   rcases ft v2 with ha1 | ha1
   ·replace hw5 := ite_t ha1 hw5
    replace hw5 := bs' hw5
    obtain ⟨v3, hv3, hw5⟩ := hw5
    replace hw5 := bs' hw5
    obtain ⟨v4, hv4, hw5⟩ := hw5
    have hw5 := oi hw5
    subst hw5
    exact (r_draw Try_mixed 14 [] [(2, .p (.bool (v4 == 1)))] [(2, {call := some ([wI a0.2, wI 1, wI 1000000000], [.p (.bool v1)], true)}), (4, {g := some true}), (5, {g := some true}), (6, {g := some true, call := some ([wI a0.1, wI (-1000000000), wI 1000000000], [.p (.bool v2)], true)}), (7, {b := some true}), (9, {g := some true}), (10, {g := some true}), (11, {g := some true, call := some ([wI a0.1], [.p (iV v3)], true)}), (12, {g := some true}), (13, {g := some true}), (14, {g := some true, call := some ([wI v3, wI a0.2], [.p (iV v4)], true)}), (15, {g := some true}), (16, {b := some true})] [([wI a0.2, wI 1, wI 1000000000] : List Arg) = [wI a0.2, wI 1, wI 1000000000], Meets Try.prog 78 ([wI a0.2, wI 1, wI 1000000000] ++ []) { vals := [.p (.bool v1)] }, (!true || List.all [.p (.bool v1)] simpleR) = true, v1 = true, v1 = true, v1 = true, ([wI a0.1, wI (-1000000000), wI 1000000000] : List Arg) = [wI a0.1, wI (-1000000000), wI 1000000000], Meets Try.prog 78 ([wI a0.1, wI (-1000000000), wI 1000000000] ++ []) { vals := [.p (.bool v2)] }, (!true || List.all [.p (.bool v2)] simpleR) = true, v1 = true, v2 = true, v2 = true, v2 = true, ([wI a0.1] : List Arg) = [wI a0.1], Meets Try.prog 146 ([wI a0.1] ++ []) { vals := [.p (iV v3)] }, (!true || List.all [.p (iV v3)] simpleR) = true, v2 = true, v2 = true, v2 = true, ([wI v3, wI a0.2] : List Arg) = [wI v3, wI a0.2], Meets Try.prog 145 ([wI v3, wI a0.2] ++ []) { vals := [.p (iV v4)] }, (!true || List.all [.p (iV v4)] simpleR) = true, v2 = true, v2 = true] (by kernel_rfl) ⟨rfl, (wk_spec_l1In hv1), (bt rfl), ha0, ha0, ha0, rfl, (wk_spec_l1In hv2), (bt rfl), ha0, ha1, ha1, ha1, rfl, (wk_spec_l1Abs hv3), (bt rfl), ha1, ha1, ha1, rfl, (wk_spec_raCommon hv4), (bt rfl), ha1, ha1, trivial⟩)
   ·replace hw5 := ite_f ha1 hw5
    have hw5 := oi hw5
    subst hw5
    exact (r_draw Try_mixed 14 [] [(2, .p (.bool false))] [(2, {call := some ([wI a0.2, wI 1, wI 1000000000], [.p (.bool v1)], true)}), (4, {g := some true}), (5, {g := some true}), (6, {g := some true, call := some ([wI a0.1, wI (-1000000000), wI 1000000000], [.p (.bool v2)], true)}), (7, {b := some true}), (9, {g := some false}), (10, {g := some false}), (11, {g := some false}), (12, {g := some false}), (13, {g := some false}), (14, {g := some false}), (15, {g := some false}), (16, {b := some false})] [([wI a0.2, wI 1, wI 1000000000] : List Arg) = [wI a0.2, wI 1, wI 1000000000], Meets Try.prog 78 ([wI a0.2, wI 1, wI 1000000000] ++ []) { vals := [.p (.bool v1)] }, (!true || List.all [.p (.bool v1)] simpleR) = true, v1 = true, v1 = true, v1 = true, ([wI a0.1, wI (-1000000000), wI 1000000000] : List Arg) = [wI a0.1, wI (-1000000000), wI 1000000000], Meets Try.prog 78 ([wI a0.1, wI (-1000000000), wI 1000000000] ++ []) { vals := [.p (.bool v2)] }, (!true || List.all [.p (.bool v2)] simpleR) = true, v1 = true, v2 = false, v2 = false, v2 = false, v2 = false, v2 = false, v2 = false, v2 = false, v2 = false] (by kernel_rfl) ⟨rfl, (wk_spec_l1In hv1), (bt rfl), ha0, ha0, ha0, rfl, (wk_spec_l1In hv2), (bt rfl), ha0, ha1, ha1, ha1, ha1, ha1, ha1, ha1, ha1, trivial⟩)
  ·replace hw5 := ite_f ha0 hw5
   have hw5 := oi hw5
   subst hw5
   exact (r_draw Try_mixed 14 [] [(2, .p (.bool false))] [(2, {call := some ([wI a0.2, wI 1, wI 1000000000], [.p (.bool v1)], true)}), (4, {g := some false}), (5, {g := some false}), (6, {g := some false}), (7, {b := some false}), (9, {g := some false}), (10, {g := some false}), (11, {g := some false}), (12, {g := some false}), (13, {g := some false}), (14, {g := some false}), (15, {g := some false}), (16, {b := some false})] [([wI a0.2, wI 1, wI 1000000000] : List Arg) = [wI a0.2, wI 1, wI 1000000000], Meets Try.prog 78 ([wI a0.2, wI 1, wI 1000000000] ++ []) { vals := [.p (.bool v1)] }, (!true || List.all [.p (.bool v1)] simpleR) = true, v1 = false, v1 = false, v1 = false, v1 = false, false = false, false = false, false = false, false = false, false = false, false = false, false = false, false = false] (by kernel_rfl) ⟨rfl, (wk_spec_l1In hv1), (bt rfl), ha0, ha0, ha0, ha0, rfl, rfl, rfl, rfl, rfl, rfl, rfl, rfl, trivial⟩)
 ·refine k_ret ?_
  obtain rfl := oi h
  exact e_ret (ls := [(.p (.bool w5), 2)]) (by kernel_rfl) rfl (by kernel_rfl) rfl
theorem wk_spec_raMake {a0 : Int} {a1 : Int}  {r : (Qr × Bool)} (h : spec_raMake a0 a1 = some r) : Meets Try.prog 141 [wI a0, wI a1] { vals := [.p (vRt r.1), .p (.bool r.2)] } := by
 refine Meets_ofL (by kernel_rfl) Try.func141 rfl (by kernel_rfl) (l0 := [(0, .p (iV a0)), (1, .p (iV a1))]) (by kernel_rfl) ?_
 unfold spec_raMake at h
 refine k_sreg (r_go [(0, .p (iV a0)), (1, .p (iV a1)), (4, .box [rI 0, rI 0])] [] [] (by kernel_rfl) trivial) ?_
 refine k_seq ?_
 refine k_sreg (r_go [(0, .p (iV a0)), (1, .p (iV a1)), (4, .box [rI 0, rI 0]), (9, .p (.bool (a1 == 0)))] [] [] (by kernel_rfl) trivial) ?_
 refine k_cond (b := (a1 == 0)) (by kernel_rfl) (fun hc2_0 => ?_) (fun hc2_0 => ?_)
 ·replace h := ite_t hc2_0 h
  refine k_sreg (r_go [(4, .box [rI 0, rI 0]), (5, .p (.bool false))] [] [] (by kernel_rfl) trivial) ?_
  refine k_ret ?_
  refine q_r ?_
  obtain rfl := oi h
  exact e_ret (ls := [(.p (.agg #[.int .i64 0, .int .i64 0]), 4), (.p (.bool false), 5)]) (by kernel_rfl) rfl (by kernel_rfl) rfl
 ·replace h := ite_f hc2_0 h
  refine k_skip ?_
  refine q_n ?_
  replace h := bs' h
  obtain ⟨v2, hv2, h⟩ := h
  replace h := bs' h
  obtain ⟨v3, hv3, h⟩ := h
  replace h := bs' h
  obtain ⟨v4, hv4, h⟩ := h
  refine k_sreg (r_go [(0, .p (iV a0)), (1, .p (iV a1)), (4, .box [rI 0, rI 0]), (6, .p (iV v4))] [(1, {call := some ([wI a0], [.p (iV v2)], true)}), (3, {call := some ([wI a1], [.p (iV v3)], true)}), (4, {call := some ([wI v2, wI v3], [.p (iV v4)], true)})] [([wI a0] : List Arg) = [wI a0], Meets Try.prog 146 ([wI a0] ++ []) { vals := [.p (iV v2)] }, (!true || List.all [.p (iV v2)] simpleR) = true, ([wI a1] : List Arg) = [wI a1], Meets Try.prog 146 ([wI a1] ++ []) { vals := [.p (iV v3)] }, (!true || List.all [.p (iV v3)] simpleR) = true, ([wI v2, wI v3] : List Arg) = [wI v2, wI v3], Meets Try.prog 145 ([wI v2, wI v3] ++ []) { vals := [.p (iV v4)] }, (!true || List.all [.p (iV v4)] simpleR) = true] (by kernel_rfl) ⟨rfl, (wk_spec_l1Abs hv2), (bt rfl), rfl, (wk_spec_l1Abs hv3), (bt rfl), rfl, (wk_spec_raCommon hv4), (bt rfl), trivial⟩) ?_
  refine k_join (J := fun (x : Int) => [(0, .p (iV a0)), (1, .p (iV a1)), (4, .box [rI 0, rI 0]), (6, .p (iV x))]) (K := fun x => spec_raMake_k1 a0 a1 x = some r) (fun x5 h => ?_) ?_
  ·unfold spec_raMake_k1 at h
   replace h := bs' h
   obtain ⟨u6, hu6, h⟩ := h
   refine k_sreg (r_draw Try_mixed 8 [] [(4, .box [rI 0, rI 0]), (7, .box [rI (w64 (Int.tdiv a0 x5)), rI (w64 (Int.tdiv a1 x5))])] [] [x5 ≠ (0 : Int), x5 ≠ (0 : Int)] (by kernel_rfl) ⟨(guardO_some hu6), (guardO_some hu6), trivial⟩) ?_
   refine k_seq ?_
   replace h := bs' h
   obtain ⟨v7, hv7, h⟩ := h
   refine k_sreg (r_go [(4, .box [rI 0, rI 0]), (7, .box [rI (w64 (Int.tdiv a0 x5)), rI (w64 (Int.tdiv a1 x5))]), (29, .p (.bool (!v7)))] [(1, {call := some ([.v (.agg #[.int .i64 (w64 (Int.tdiv a0 x5)), .int .i64 (w64 (Int.tdiv a1 x5))])], [.p (.bool v7)], true)})] [([.v (.agg #[.int .i64 (w64 (Int.tdiv a0 x5)), .int .i64 (w64 (Int.tdiv a1 x5))])] : List Arg) = [.v (.agg #[.int .i64 (w64 (Int.tdiv a0 x5)), .int .i64 (w64 (Int.tdiv a1 x5))])], Meets Try.prog 108 ([.v (.agg #[.int .i64 (w64 (Int.tdiv a0 x5)), .int .i64 (w64 (Int.tdiv a1 x5))])] ++ []) { vals := [.p (.bool v7)] }, (!true || List.all [.p (.bool v7)] simpleR) = true] (by kernel_rfl) ⟨rfl, (wk_spec_raGood hv7), (bt rfl), trivial⟩) ?_
   refine k_cond (b := (!v7)) (by kernel_rfl) (fun hc2_7 => ?_) (fun hc2_7 => ?_)
   ·replace h := ite_t hc2_7 h
    refine k_sreg (r_go [(4, .box [rI 0, rI 0]), (5, .p (.bool false))] [] [] (by kernel_rfl) trivial) ?_
    refine k_ret ?_
    refine q_r ?_
    obtain rfl := oi h
    exact e_ret (ls := [(.p (.agg #[.int .i64 0, .int .i64 0]), 4), (.p (.bool false), 5)]) (by kernel_rfl) rfl (by kernel_rfl) rfl
   ·replace h := ite_f hc2_7 h
    refine k_skip ?_
    refine q_n ?_
    refine k_sreg (r_go [(4, .box [rI (w64 (Int.tdiv a0 x5)), rI (w64 (Int.tdiv a1 x5))]), (5, .p (.bool true))] [] [] (by kernel_rfl) trivial) ?_
    refine k_ret ?_
    obtain rfl := oi h
    exact e_ret (ls := [(.p (.agg #[.int .i64 (w64 (Int.tdiv a0 x5)), .int .i64 (w64 (Int.tdiv a1 x5))]), 4), (.p (.bool true), 5)]) (by kernel_rfl) rfl (by kernel_rfl) rfl
  ·refine k_sreg (r_go [(0, .p (iV a0)), (1, .p (iV a1)), (4, .box [rI 0, rI 0]), (6, .p (iV v4)), (17, .p (.bool (decide (a1 < 0))))] [] [] (by kernel_rfl) trivial) ?_
   refine k_cond (b := (decide (a1 < 0))) (by kernel_rfl) (fun hc2_8 => ?_) (fun hc2_8 => ?_)
   ·replace h := ite_t hc2_8 h
    refine k_reg (r_go [(0, .p (iV a0)), (1, .p (iV a1)), (4, .box [rI 0, rI 0]), (6, .p (iV (w64 (0 - v4))))] [] [] (by kernel_rfl) trivial) ?_
    refine q_n ?_
    exact ⟨(w64 (0 - v4)), h, (wk_of (by kernel_rfl) (by kernel_rfl))⟩
   ·replace h := ite_f hc2_8 h
    refine k_skip ?_
    refine q_n ?_
    exact ⟨v4, h, (wk_of (by kernel_rfl) (by kernel_rfl))⟩
theorem wk_spec_gwRatios {a0 : (List (List Int))} {a1 : (List Int)}  {r : (List Qr)} (h : spec_gwRatios a0 a1 = some r) : Meets Try.prog 134 [.d false [.sl none (a0.map (eF eI))], .d false [.sl none (a1.map eI)]] { vals := [.ov false [.sl (some 39) (r.map eRt)]] } := by
 refine Meets_ofL (by kernel_rfl) Try.func134 rfl (by kernel_rfl) (l0 := [(0, .d false [.sl none (a0.map (eF eI))]), (1, .d false [.sl none (a1.map eI)])]) (by kernel_rfl) ?_
 unfold spec_gwRatios at h
 refine k_sreg (r_go [(0, .d false [.sl none (a0.map (eF eI))]), (1, .d false [.sl none (a1.map eI)])] [] [] (by kernel_rfl) trivial) ?_
 refine k_sreg (r_go [(0, .d false [.sl none (a0.map (eF eI))]), (1, .d false [.sl none (a1.map eI)]), (5, .ov false [.sl (some 39) []])] [] [] (by kernel_rfl) trivial) ?_
 refine k_join (J := fun (x : (List Qr)) => [(5, .ov false [.sl (some 39) (x.map eRt)])]) (K := fun x => spec_gwRatios_k1 x = some r) (fun x1 h => ?_) ?_
 ·unfold spec_gwRatios_k1 at h
  refine k_sreg (r_go [(4, .ov false [.sl (some 39) (x1.map eRt)])] [] [] (by kernel_rfl) trivial) ?_
  refine k_ret ?_
  obtain rfl := oi h
  exact e_ret (ls := [(.ov false [.sl (some 39) (x1.map eRt)], 4)]) (by kernel_rfl) rfl (by kernel_rfl) rfl
 ·replace h := bs' h
  obtain ⟨v2, hv2, h⟩ := h
  refine k_sreg (r_go [(1, .d false [.sl none (a1.map eI)]), (5, .ov false [.sl (some 39) []]), (12, .ov false [.sl (some 3) (v2.map eI)]), (13, .p (iV (v2.length : Int))), (14, .p (iV 0))] [(2, {call := some ([.d false [.sl none (a0.map (eF eI))], .d false [.sl none (a1.map eI)]], [.ov false [.sl (some 3) (v2.map eI)]], true)}), (3, {n := some v2.length})] [([.d false [.sl none (a0.map (eF eI))], .d false [.sl none (a1.map eI)]] : List Arg) = [.d false [.sl none (a0.map (eF eI))], .d false [.sl none (a1.map eI)]], Meets Try.prog 111 ([.d false [.sl none (a0.map (eF eI))], .d false [.sl none (a1.map eI)]] ++ []) { vals := [.ov false [.sl (some 3) (v2.map eI)]] }, (!true || List.all [.ov false [.sl (some 3) (v2.map eI)]] simpleR) = true, (v2.map eI).length = v2.length] (by kernel_rfl) ⟨rfl, (wk_spec_gwTimes hv2), (bt (sa_o (wnR1 (wnL_enc wn_I) rfl) rfl)), (List.length_map ..), trivial⟩) ?_
  refine k_block ?_
  obtain ⟨y4, hl_x3, hk_x3⟩ := bs' h
  clear h
  refine k_loop (J := fun (x : ((List Qr) × Int)) => [(1, .d false [.sl none (a1.map eI)]), (5, .ov false [.sl (some 39) (x.1.map eRt)]), (12, .ov false [.sl (some 3) (v2.map eI)]), (13, .p (iV (v2.length : Int))), (14, .p (iV x.2))]) hl_x3 (wk_of (by kernel_rfl) (by kernel_rfl)) (fun x3 o_x3 h hy_x3 => ?_)
  unfold spec_gwRatios_b1 at h
  refine k_sreg (r_go [(1, .d false [.sl none (a1.map eI)]), (5, .ov false [.sl (some 39) (x3.1.map eRt)]), (12, .ov false [.sl (some 3) (v2.map eI)]), (13, .p (iV (v2.length : Int))), (14, .p (iV x3.2)), (15, .p (.bool (decide (x3.2 < (v2.length : Int)))))] [] [] (by kernel_rfl) trivial) ?_
  refine k_seq ?_
  refine k_cond (b := (decide (x3.2 < (v2.length : Int)))) (by kernel_rfl) (fun hc5_4 => ?_) (fun hc5_4 => ?_)
  ·replace h := ite_t hc5_4 h
   refine k_skip ?_
   refine q_n ?_
   refine k_seq ?_
   refine k_block ?_
   replace h := bs' h
   obtain ⟨v6, hv6, h⟩ := h
   refine k_sreg (r_go [(1, .d false [.sl none (a1.map eI)]), (5, .ov false [.sl (some 39) (x3.1.map eRt)]), (6, .p (iV x3.2)), (7, .p (iV v6)), (12, .ov false [.sl (some 3) (v2.map eI)]), (13, .p (iV (v2.length : Int))), (14, .p (iV x3.2))] [(1, {row := some (eI v6)}), (2, {row := some (eI v6)})] [0 ≤ x3.2, (v2.map eI)[(Int.toNat x3.2)]? = some (eI v6), getRow [[.sl (some 3) (v2.map eI)]] [(0, 0), ((Int.toNat x3.2), 0)] = some (eI v6)] (by kernel_rfl) ⟨(idxO_some hv6).1, (map_get eI (idxO_some hv6).2), ((gr0 rfl).trans (gre (map_get eI (idxO_some hv6).2))), trivial⟩) ?_
   replace h := bs' h
   obtain ⟨v7, hv7, h⟩ := h
   replace h := bs' h
   obtain ⟨v8, hv8, h⟩ := h
   refine k_sreg (r_go [(1, .d false [.sl none (a1.map eI)]), (5, .ov false [.sl (some 39) (x3.1.map eRt)]), (8, .box (eRt v8.1)), (12, .ov false [.sl (some 3) (v2.map eI)]), (13, .p (iV (v2.length : Int))), (14, .p (iV x3.2))] [(3, {row := some (eI v7)}), (5, {call := some ([wI v6, wI v7], [.p (vRt v8.1), .p (.bool v8.2)], true)})] [0 ≤ x3.2, (a1.map eI)[(Int.toNat x3.2)]? = some (eI v7), ([wI v6, wI v7] : List Arg) = [wI v6, wI v7], Meets Try.prog 141 ([wI v6, wI v7] ++ []) { vals := [.p (vRt v8.1), .p (.bool v8.2)] }, (!true || List.all [.p (vRt v8.1), .p (.bool v8.2)] simpleR) = true] (by kernel_rfl) ⟨(idxO_some hv7).1, (map_get eI (idxO_some hv7).2), rfl, (wk_spec_raMake hv8), (bt rfl), trivial⟩) ?_
   replace h := bs' h
   obtain ⟨u9, hu9, h⟩ := h
   refine k_reg (r_go [(1, .d false [.sl none (a1.map eI)]), (5, .ov false [.sl (some 39) ((x3.1 ++ [v8.1]).map eRt)]), (12, .ov false [.sl (some 3) (v2.map eI)]), (13, .p (iV (v2.length : Int))), (14, .p (iV x3.2))] [(3, {fix := some (31, .ov false [.sl (some 39) ((x3.1 ++ [v8.1]).map eRt)])})] [List.length ((x3.1.map eRt) : List (List C)) + List.length ((([v8.1]).map eRt) : List (List C)) ≤ 1099511627776, ∀ row ∈ ((([v8.1]).map eRt) : List (List C)), row.length = 2, (SV.ov false [.sl (some 39) ((x3.1.map eRt) ++ (([v8.1]).map eRt))] : SV) = .ov false [.sl (some 39) ((x3.1 ++ [v8.1]).map eRt)]] (by kernel_rfl) ⟨(by have hg := (guardO_some hu9); simpa using hg), (rows_len fun _ => rfl), (congrArg (fun z => SV.ov false [.sl (some 39) z]) (List.map_append ..).symm), trivial⟩) ?_
   refine b_n ?_
   refine q_n ?_
   refine k_reg (r_go [(1, .d false [.sl none (a1.map eI)]), (5, .ov false [.sl (some 39) ((x3.1 ++ [v8.1]).map eRt)]), (12, .ov false [.sl (some 3) (v2.map eI)]), (13, .p (iV (v2.length : Int))), (14, .p (iV (w64 (x3.2 + 1))))] [] [] (by kernel_rfl) trivial) ?_
   exact lq_n ((x3.1 ++ [v8.1]), (w64 (x3.2 + 1))) (oi h).symm (wk_of (by kernel_rfl) (by kernel_rfl))
  ·replace h := ite_f hc5_4 h
   refine k_exit ?_
   refine q_x ?_
   refine lq_x ?_
   refine b_x ?_
   have hyy := hy_x3 _ (oi h).symm
   subst hyy
   have h := hk_x3
   refine q_n ?_
   exact ⟨x3.1, h, (wk_of (by kernel_rfl) (by kernel_rfl))⟩
theorem wk_spec_l1Sign {a0 : Int}  {r : Int} (h : spec_l1Sign a0 = some r) : Meets Try.prog 157 [wI a0] { vals := [.p (iV r)] } := by
 refine Meets_ofL (by kernel_rfl) Try.func157 rfl (by kernel_rfl) (l0 := [(0, .p (iV a0))]) (by kernel_rfl) ?_
 unfold spec_l1Sign at h
 refine k_sreg (r_go [(0, .p (iV a0))] [] [] (by kernel_rfl) trivial) ?_
 refine k_seq ?_
 refine k_block ?_
 refine k_sreg (r_go [(0, .p (iV a0)), (3, .p (.bool (decide (a0 > 0))))] [] [] (by kernel_rfl) trivial) ?_
 refine k_cond (b := (decide (a0 > 0))) (by kernel_rfl) (fun hc3_0 => ?_) (fun hc3_0 => ?_)
 ·replace h := ite_t hc3_0 h
  refine k_sreg (r_go [(2, .p (iV 1))] [] [] (by kernel_rfl) trivial) ?_
  refine k_ret ?_
  refine b_r ?_
  refine q_r ?_
  obtain rfl := oi h
  exact e_ret (ls := [(.p (iV 1), 2)]) (by kernel_rfl) rfl (by kernel_rfl) rfl
 ·replace h := ite_f hc3_0 h
  refine k_sreg (r_go [(6, .p (.bool (decide (a0 < 0))))] [] [] (by kernel_rfl) trivial) ?_
  refine k_cond (b := (decide (a0 < 0))) (by kernel_rfl) (fun hc3_1 => ?_) (fun hc3_1 => ?_)
  ·replace h := ite_t hc3_1 h
   refine k_sreg (r_go [(2, .p (iV (-1)))] [] [] (by kernel_rfl) trivial) ?_
   refine k_ret ?_
   refine b_r ?_
   refine q_r ?_
   obtain rfl := oi h
   exact e_ret (ls := [(.p (iV (-1)), 2)]) (by kernel_rfl) rfl (by kernel_rfl) rfl
  ·replace h := ite_f hc3_1 h
   refine k_skip ?_
   refine b_n ?_
   refine q_n ?_
   refine k_sreg (r_go [(2, .p (iV 0))] [] [] (by kernel_rfl) trivial) ?_
   refine k_ret ?_
   obtain rfl := oi h
   exact e_ret (ls := [(.p (iV 0), 2)]) (by kernel_rfl) rfl (by kernel_rfl) rfl
theorem wk_spec_raCmp {a0 : Qr} {a1 : Qr}  {r : Int} (h : spec_raCmp a0 a1 = some r) : Meets Try.prog 147 [.v (vRt a0), .v (vRt a1)] { vals := [.p (iV r)] } := by
 refine Meets_ofL (by kernel_rfl) Try.func147 rfl (by kernel_rfl) (l0 := [(0, .p (vRt a0)), (1, .p (vRt a1))]) (by kernel_rfl) ?_
 unfold spec_raCmp at h
 refine k_sreg (r_go [(2, .box (eRt a0)), (3, .box (eRt a1))] [] [] (by kernel_rfl) trivial) ?_
 replace h := bs' h
 obtain ⟨v1, hv1, h⟩ := h
 refine k_sreg (r_go [(4, .p (iV v1))] [(11, {call := some ([wI (w64 ((w64 (a0.1 * a1.2)) - (w64 (a1.1 * a0.2))))], [.p (iV v1)], true)})] [([wI (w64 ((w64 (a0.1 * a1.2)) - (w64 (a1.1 * a0.2))))] : List Arg) = [wI (w64 ((w64 (a0.1 * a1.2)) - (w64 (a1.1 * a0.2))))], Meets Try.prog 157 ([wI (w64 ((w64 (a0.1 * a1.2)) - (w64 (a1.1 * a0.2))))] ++ []) { vals := [.p (iV v1)] }, (!true || List.all [.p (iV v1)] simpleR) = true] (by kernel_rfl) ⟨rfl, (wk_spec_l1Sign hv1), (bt rfl), trivial⟩) ?_
 refine k_ret ?_
 obtain rfl := oi h
 exact e_ret (ls := [(.p (iV v1), 4)]) (by kernel_rfl) rfl (by kernel_rfl) rfl
theorem wk_spec_ivLess {a0 : Qr} {a1 : Qr}  {r : Qr} (h : spec_ivLess a0 a1 = some r) : Meets Try.prog 135 [.v (vRt a0), .v (vRt a1)] { vals := [.p (vRt r)] } := by
 refine Meets_ofL (by kernel_rfl) Try.func135 rfl (by kernel_rfl) (l0 := [(0, .p (vRt a0)), (1, .p (vRt a1))]) (by kernel_rfl) ?_
 unfold spec_ivLess at h
 refine k_sreg (r_go [(2, .box (eRt a0)), (3, .box (eRt a1)), (4, .box [rI 0, rI 0])] [] [] (by kernel_rfl) trivial) ?_
 refine k_seq ?_
 replace h := bs' h
 obtain ⟨v1, hv1, h⟩ := h
 refine k_sreg (r_go [(2, .box (eRt a0)), (3, .box (eRt a1)), (4, .box [rI 0, rI 0]), (8, .p (.bool (decide (v1 < 0))))] [(2, {call := some ([.v (vRt a0), .v (vRt a1)], [.p (iV v1)], true)})] [([.v (vRt a0), .v (vRt a1)] : List Arg) = [.v (vRt a0), .v (vRt a1)], Meets Try.prog 147 ([.v (vRt a0), .v (vRt a1)] ++ []) { vals := [.p (iV v1)] }, (!true || List.all [.p (iV v1)] simpleR) = true] (by kernel_rfl) ⟨rfl, (wk_spec_raCmp hv1), (bt rfl), trivial⟩) ?_
 refine k_cond (b := (decide (v1 < 0))) (by kernel_rfl) (fun hc2_1 => ?_) (fun hc2_1 => ?_)
 ·replace h := ite_t hc2_1 h
  refine k_sreg (r_go [(4, .box (eRt a0))] [] [] (by kernel_rfl) trivial) ?_
  refine k_ret ?_
  refine q_r ?_
  obtain rfl := oi h
  exact e_ret (ls := [(.p (vRt a0), 4)]) (by kernel_rfl) rfl (by kernel_rfl) rfl
 ·replace h := ite_f hc2_1 h
  refine k_skip ?_
  refine q_n ?_
  refine k_sreg (r_go [(4, .box (eRt a1))] [] [] (by kernel_rfl) trivial) ?_
  refine k_ret ?_
  obtain rfl := oi h
  exact e_ret (ls := [(.p (vRt a1), 4)]) (by kernel_rfl) rfl (by kernel_rfl) rfl
theorem wk_spec_ivGreater {a0 : Qr} {a1 : Qr}  {r : Qr} (h : spec_ivGreater a0 a1 = some r) : Meets Try.prog 136 [.v (vRt a0), .v (vRt a1)] { vals := [.p (vRt r)] } := by
 refine Meets_ofL (by kernel_rfl) Try.func136 rfl (by kernel_rfl) (l0 := [(0, .p (vRt a0)), (1, .p (vRt a1))]) (by kernel_rfl) ?_
 unfold spec_ivGreater at h
 refine k_sreg (r_go [(2, .box (eRt a0)), (3, .box (eRt a1)), (4, .box [rI 0, rI 0])] [] [] (by kernel_rfl) trivial) ?_
 refine k_seq ?_
 replace h := bs' h
 obtain ⟨v1, hv1, h⟩ := h
 refine k_sreg (r_go [(2, .box (eRt a0)), (3, .box (eRt a1)), (4, .box [rI 0, rI 0]), (8, .p (.bool (decide (v1 < 0))))] [(2, {call := some ([.v (vRt a0), .v (vRt a1)], [.p (iV v1)], true)})] [([.v (vRt a0), .v (vRt a1)] : List Arg) = [.v (vRt a0), .v (vRt a1)], Meets Try.prog 147 ([.v (vRt a0), .v (vRt a1)] ++ []) { vals := [.p (iV v1)] }, (!true || List.all [.p (iV v1)] simpleR) = true] (by kernel_rfl) ⟨rfl, (wk_spec_raCmp hv1), (bt rfl), trivial⟩) ?_
 refine k_cond (b := (decide (v1 < 0))) (by kernel_rfl) (fun hc2_1 => ?_) (fun hc2_1 => ?_)
 ·replace h := ite_t hc2_1 h
  refine k_sreg (r_go [(4, .box (eRt a1))] [] [] (by kernel_rfl) trivial) ?_
  refine k_ret ?_
  refine q_r ?_
  obtain rfl := oi h
  exact e_ret (ls := [(.p (vRt a1), 4)]) (by kernel_rfl) rfl (by kernel_rfl) rfl
 ·replace h := ite_f hc2_1 h
  refine k_skip ?_
  refine q_n ?_
  refine k_sreg (r_go [(4, .box (eRt a0))] [] [] (by kernel_rfl) trivial) ?_
  refine k_ret ?_
  obtain rfl := oi h
  exact e_ret (ls := [(.p (vRt a0), 4)]) (by kernel_rfl) rfl (by kernel_rfl) rfl
theorem wk_spec_gwBounds {a0 : (List (List Int))} {a1 : (List Int)}  {r : Qp} (h : spec_gwBounds a0 a1 = some r) : Meets Try.prog 92 [.d false [.sl none (a0.map (eF eI))], .d false [.sl none (a1.map eI)]] { vals := [.p (vRt r.1), .p (vRt r.2)] } := by
 refine Meets_ofL (by kernel_rfl) Try.func92 rfl (by kernel_rfl) (l0 := [(0, .d false [.sl none (a0.map (eF eI))]), (1, .d false [.sl none (a1.map eI)])]) (by kernel_rfl) ?_
 unfold spec_gwBounds at h
 refine k_sreg (r_go [(0, .d false [.sl none (a0.map (eF eI))]), (1, .d false [.sl none (a1.map eI)]), (4, .box [rI 0, rI 0]), (5, .box [rI 0, rI 0])] [] [] (by kernel_rfl) trivial) ?_
 replace h := bs' h
 obtain ⟨v1, hv1, h⟩ := h
 refine k_sreg (r_go [(4, .box [rI 0, rI 0]), (5, .box [rI 0, rI 0]), (6, .ov false [.sl (some 39) (v1.map eRt)])] [(2, {call := some ([.d false [.sl none (a0.map (eF eI))], .d false [.sl none (a1.map eI)]], [.ov false [.sl (some 39) (v1.map eRt)]], true)})] [([.d false [.sl none (a0.map (eF eI))], .d false [.sl none (a1.map eI)]] : List Arg) = [.d false [.sl none (a0.map (eF eI))], .d false [.sl none (a1.map eI)]], Meets Try.prog 134 ([.d false [.sl none (a0.map (eF eI))], .d false [.sl none (a1.map eI)]] ++ []) { vals := [.ov false [.sl (some 39) (v1.map eRt)]] }, (!true || List.all [.ov false [.sl (some 39) (v1.map eRt)]] simpleR) = true] (by kernel_rfl) ⟨rfl, (wk_spec_gwRatios hv1), (bt (sa_o (wnR1 (wnL_enc (wn_P wn_I wn_I)) rfl) rfl)), trivial⟩) ?_
 replace h := bs' h
 obtain ⟨v2, hv2, h⟩ := h
 refine k_sreg (r_draw Try_mixed 9 [(8, 7)] [(4, .box [rI 0, rI 0]), (5, .box [rI 0, rI 0]), (6, .ov false [.sl (some 39) (v1.map eRt)]), (7, .box (eRt v2)), (8, .box (eRt v2))] [(1, {row := some (eRt v2)}), (2, {row := some (eRt v2)}), (4, {row := some (eRt v2)}), (5, {row := some (eRt v2)})] [0 ≤ 0, (v1.map eRt)[(Int.toNat 0)]? = some (eRt v2), getRow [[.sl (some 39) (v1.map eRt)]] [(0, 0), ((Int.toNat 0), 0)] = some (eRt v2), 0 ≤ 0, (v1.map eRt)[(Int.toNat 0)]? = some (eRt v2), getRow [[.sl (some 39) (v1.map eRt)]] [(0, 0), ((Int.toNat 0), 0)] = some (eRt v2)] (by kernel_rfl) ⟨(idxO_some hv2).1, (map_get eRt (idxO_some hv2).2), ((gr0 rfl).trans (gre (map_get eRt (idxO_some hv2).2))), (idxO_some hv2).1, (map_get eRt (idxO_some hv2).2), ((gr0 rfl).trans (gre (map_get eRt (idxO_some hv2).2))), trivial⟩) ?_
 refine k_join (J := fun (x : (Int × Int × Int × Int)) => [(4, .box [rI 0, rI 0]), (5, .box [rI 0, rI 0]), (7, .box [rI x.1, rI x.2.1]), (8, .box (eRt x.2.2))]) (K := fun x => spec_gwBounds_k1 x = some r) (fun x3 h => ?_) ?_
 ·unfold spec_gwBounds_k1 at h
  refine k_sreg (r_draw Try_mixed 3 [(2, 4)] [(4, .box [rI x3.1, rI x3.2.1]), (5, .box (eRt x3.2.2))] [] [] (by kernel_rfl) trivial) ?_
  refine k_ret ?_
  obtain rfl := oi h
  exact e_ret (ls := [(.p (.agg #[.int .i64 x3.1, .int .i64 x3.2.1]), 4), (.p (vRt x3.2.2), 5)]) (by kernel_rfl) rfl (by kernel_rfl) rfl
 ·refine k_sreg (r_go [(4, .box [rI 0, rI 0]), (5, .box [rI 0, rI 0]), (6, .ov false [.sl (some 39) (v1.map eRt)]), (7, .box (eRt v2)), (8, .box (eRt v2)), (20, .ref 6 [(0, 0)] none), (21, .p (iV (v1.length : Int))), (22, .p (iV 0))] [(1, {n := some v1.length})] [(v1.map eRt).length = v1.length] (by kernel_rfl) ⟨(List.length_map ..), trivial⟩) ?_
  refine k_block ?_
  obtain ⟨y5, hl_x4, hk_x4⟩ := bs' h
  clear h
  refine k_loop (J := fun (x : (Int × Int × Int × Int × Int)) => [(4, .box [rI 0, rI 0]), (5, .box [rI 0, rI 0]), (6, .ov false [.sl (some 39) (v1.map eRt)]), (7, .box [rI x.1, rI x.2.1]), (8, .box [rI x.2.2.1, rI x.2.2.2.1]), (20, .ref 6 [(0, 0)] none), (21, .p (iV (v1.length : Int))), (22, .p (iV x.2.2.2.2))]) hl_x4 (wk_of (by kernel_rfl) (by kernel_rfl)) (fun x4 o_x4 h hy_x4 => ?_)
  unfold spec_gwBounds_b1 at h
  refine k_sreg (r_go [(4, .box [rI 0, rI 0]), (5, .box [rI 0, rI 0]), (6, .ov false [.sl (some 39) (v1.map eRt)]), (7, .box [rI x4.1, rI x4.2.1]), (8, .box [rI x4.2.2.1, rI x4.2.2.2.1]), (20, .ref 6 [(0, 0)] none), (21, .p (iV (v1.length : Int))), (22, .p (iV x4.2.2.2.2)), (23, .p (.bool (decide (x4.2.2.2.2 < (v1.length : Int)))))] [] [] (by kernel_rfl) trivial) ?_
  refine k_seq ?_
  refine k_cond (b := (decide (x4.2.2.2.2 < (v1.length : Int)))) (by kernel_rfl) (fun hc5_5 => ?_) (fun hc5_5 => ?_)
  ·replace h := ite_t hc5_5 h
   refine k_skip ?_
   refine q_n ?_
   refine k_seq ?_
   refine k_block ?_
   replace h := bs' h
   obtain ⟨v7, hv7, h⟩ := h
   refine k_sreg (r_go [(4, .box [rI 0, rI 0]), (5, .box [rI 0, rI 0]), (6, .ov false [.sl (some 39) (v1.map eRt)]), (7, .box [rI x4.1, rI x4.2.1]), (8, .box [rI x4.2.2.1, rI x4.2.2.2.1]), (10, .box (eRt v7)), (20, .ref 6 [(0, 0)] none), (21, .p (iV (v1.length : Int))), (22, .p (iV x4.2.2.2.2))] [(0, {row := some (eRt v7)}), (1, {row := some (eRt v7)})] [0 ≤ x4.2.2.2.2, (v1.map eRt)[(Int.toNat x4.2.2.2.2)]? = some (eRt v7), getRow [[.sl (some 39) (v1.map eRt)]] [(0, 0), ((Int.toNat x4.2.2.2.2), 0)] = some (eRt v7)] (by kernel_rfl) ⟨(idxO_some hv7).1, (map_get eRt (idxO_some hv7).2), ((gr0 rfl).trans (gre (map_get eRt (idxO_some hv7).2))), trivial⟩) ?_
   replace h := bs' h
   obtain ⟨v8, hv8, h⟩ := h
   refine k_sreg (r_go [(4, .box [rI 0, rI 0]), (5, .box [rI 0, rI 0]), (6, .ov false [.sl (some 39) (v1.map eRt)]), (7, .box (eRt v8)), (8, .box [rI x4.2.2.1, rI x4.2.2.2.1]), (10, .box (eRt v7)), (20, .ref 6 [(0, 0)] none), (21, .p (iV (v1.length : Int))), (22, .p (iV x4.2.2.2.2))] [(2, {call := some ([.v (.agg #[.int .i64 x4.1, .int .i64 x4.2.1]), .v (vRt v7)], [.p (vRt v8)], true)})] [([.v (.agg #[.int .i64 x4.1, .int .i64 x4.2.1]), .v (vRt v7)] : List Arg) = [.v (.agg #[.int .i64 x4.1, .int .i64 x4.2.1]), .v (vRt v7)], Meets Try.prog 135 ([.v (.agg #[.int .i64 x4.1, .int .i64 x4.2.1]), .v (vRt v7)] ++ []) { vals := [.p (vRt v8)] }, (!true || List.all [.p (vRt v8)] simpleR) = true] (by kernel_rfl) ⟨rfl, (wk_spec_ivLess hv8), (bt rfl), trivial⟩) ?_
   replace h := bs' h
   obtain ⟨v9, hv9, h⟩ := h
   refine k_reg (r_go [(4, .box [rI 0, rI 0]), (5, .box [rI 0, rI 0]), (6, .ov false [.sl (some 39) (v1.map eRt)]), (7, .box (eRt v8)), (8, .box (eRt v9)), (20, .ref 6 [(0, 0)] none), (21, .p (iV (v1.length : Int))), (22, .p (iV x4.2.2.2.2))] [(2, {call := some ([.v (.agg #[.int .i64 x4.2.2.1, .int .i64 x4.2.2.2.1]), .v (vRt v7)], [.p (vRt v9)], true)})] [([.v (.agg #[.int .i64 x4.2.2.1, .int .i64 x4.2.2.2.1]), .v (vRt v7)] : List Arg) = [.v (.agg #[.int .i64 x4.2.2.1, .int .i64 x4.2.2.2.1]), .v (vRt v7)], Meets Try.prog 136 ([.v (.agg #[.int .i64 x4.2.2.1, .int .i64 x4.2.2.2.1]), .v (vRt v7)] ++ []) { vals := [.p (vRt v9)] }, (!true || List.all [.p (vRt v9)] simpleR) = true] (by kernel_rfl) ⟨rfl, (wk_spec_ivGreater hv9), (bt rfl), trivial⟩) ?_
   refine b_n ?_
   refine q_n ?_
   refine k_reg (r_go [(4, .box [rI 0, rI 0]), (5, .box [rI 0, rI 0]), (6, .ov false [.sl (some 39) (v1.map eRt)]), (7, .box (eRt v8)), (8, .box (eRt v9)), (20, .ref 6 [(0, 0)] none), (21, .p (iV (v1.length : Int))), (22, .p (iV (w64 (x4.2.2.2.2 + 1))))] [] [] (by kernel_rfl) trivial) ?_
   exact lq_n (v8.1, v8.2, v9.1, v9.2, (w64 (x4.2.2.2.2 + 1))) (oi h).symm (wk_of (by kernel_rfl) (by kernel_rfl))
  ·replace h := ite_f hc5_5 h
   refine k_exit ?_
   refine q_x ?_
   refine lq_x ?_
   refine b_x ?_
   have hyy := hy_x4 _ (oi h).symm
   subst hyy
   have h := hk_x4
   refine q_n ?_
   exact ⟨(x4.1, x4.2.1, x4.2.2.1, x4.2.2.2.1), h, (wk_of (by kernel_rfl) (by kernel_rfl))⟩
theorem wk_spec_GrowthBounds {a0 : (List (List Int))} {a1 : Int}  {r : (Qr × Qr × Bool)} (h : spec_GrowthBounds a0 a1 = some r) : Meets Try.prog 29 [.d false [.sl none (a0.map (eF eI))], wI a1] { vals := [.p (vRt r.1), .p (vRt r.2.1), .p (.bool r.2.2)] } := by
 refine Meets_ofL (by kernel_rfl) Try.func29 rfl (by kernel_rfl) (l0 := [(0, .d false [.sl none (a0.map (eF eI))]), (1, .p (iV a1))]) (by kernel_rfl) ?_
 unfold spec_GrowthBounds at h
 refine k_sreg (r_go [(0, .d false [.sl none (a0.map (eF eI))]), (1, .p (iV a1)), (4, .box [rI 0, rI 0]), (5, .box [rI 0, rI 0])] [] [] (by kernel_rfl) trivial) ?_
 refine k_seq ?_
 replace h := bs' h
 obtain ⟨v1, hv1, h⟩ := h
 replace h := bs' h
 obtain ⟨w3, hw3, h⟩ := h
 refine k_sreg (l1 := [(0, .d false [.sl none (a0.map (eF eI))]), (1, .p (iV a1)), (4, .box [rI 0, rI 0]), (5, .box [rI 0, rI 0]), (18, .p (.bool w3))]) ?_ ?_
 ·clear h
  rcases ft (!v1) with ha0 | ha0
  ·replace hw3 := ite_t ha0 hw3
   have hw3 := oi hw3
   subst hw3
   exact (r_go [(0, .d false [.sl none (a0.map (eF eI))]), (1, .p (iV a1)), (4, .box [rI 0, rI 0]), (5, .box [rI 0, rI 0]), (18, .p (.bool true))] [(1, {call := some ([.d false [.sl none (a0.map (eF eI))]], [.p (.bool v1)], true)}), (4, {g := some true}), (5, {g := some true}), (6, {g := some true}), (7, {b := some true})] [([.d false [.sl none (a0.map (eF eI))]] : List Arg) = [.d false [.sl none (a0.map (eF eI))]], Meets Try.prog 65 ([.d false [.sl none (a0.map (eF eI))]] ++ []) { vals := [.p (.bool v1)] }, (!true || List.all [.p (.bool v1)] simpleR) = true, (!v1) = true, (!v1) = true, (!v1) = true, (!v1) = true] (by kernel_rfl) ⟨rfl, (wk_spec_grGood hv1), (bt rfl), ha0, ha0, ha0, ha0, trivial⟩)
  ·replace hw3 := ite_f ha0 hw3
   replace hw3 := bs' hw3
   obtain ⟨v2, hv2, hw3⟩ := hw3
   have hw3 := oi hw3
   subst hw3
   exact (r_go [(0, .d false [.sl none (a0.map (eF eI))]), (1, .p (iV a1)), (4, .box [rI 0, rI 0]), (5, .box [rI 0, rI 0]), (18, .p (.bool (!v2)))] [(1, {call := some ([.d false [.sl none (a0.map (eF eI))]], [.p (.bool v1)], true)}), (4, {g := some false}), (5, {g := some false, call := some ([wI a1], [.p (.bool v2)], true)}), (6, {g := some false}), (7, {b := some false})] [([.d false [.sl none (a0.map (eF eI))]] : List Arg) = [.d false [.sl none (a0.map (eF eI))]], Meets Try.prog 65 ([.d false [.sl none (a0.map (eF eI))]] ++ []) { vals := [.p (.bool v1)] }, (!true || List.all [.p (.bool v1)] simpleR) = true, (!v1) = false, (!v1) = false, ([wI a1] : List Arg) = [wI a1], Meets Try.prog 90 ([wI a1] ++ []) { vals := [.p (.bool v2)] }, (!true || List.all [.p (.bool v2)] simpleR) = true, (!v1) = false, (!v1) = false] (by kernel_rfl) ⟨rfl, (wk_spec_grGood hv1), (bt rfl), ha0, ha0, rfl, (wk_spec_gwSteps hv2), (bt rfl), ha0, ha0, trivial⟩)
 ·refine k_cond (b := w3) (by kernel_rfl) (fun hc2_3 => ?_) (fun hc2_3 => ?_)
  ·replace h := ite_t hc2_3 h
   refine k_sreg (r_go [(4, .box [rI 0, rI 0]), (5, .box [rI 0, rI 0]), (6, .p (.bool false))] [] [] (by kernel_rfl) trivial) ?_
   refine k_ret ?_
   refine q_r ?_
   obtain rfl := oi h
   exact e_ret (ls := [(.p (.agg #[.int .i64 0, .int .i64 0]), 4), (.p (.agg #[.int .i64 0, .int .i64 0]), 5), (.p (.bool false), 6)]) (by kernel_rfl) rfl (by kernel_rfl) rfl
  ·replace h := ite_f hc2_3 h
   refine k_skip ?_
   refine q_n ?_
   replace h := bs' h
   obtain ⟨v5, hv5, h⟩ := h
   refine k_sreg (r_go [(0, .d false [.sl none (a0.map (eF eI))]), (4, .box [rI 0, rI 0]), (5, .box [rI 0, rI 0]), (7, .ov false [.sl (some 3) (v5.1.map eI)]), (8, .p (.bool v5.2))] [(2, {call := some ([.d false [.sl none (a0.map (eF eI))], wI a1], [.ov false [.sl (some 3) (v5.1.map eI)], .p (.bool v5.2)], true)})] [([.d false [.sl none (a0.map (eF eI))], wI a1] : List Arg) = [.d false [.sl none (a0.map (eF eI))], wI a1], Meets Try.prog 91 ([.d false [.sl none (a0.map (eF eI))], wI a1] ++ []) { vals := [.ov false [.sl (some 3) (v5.1.map eI)], .p (.bool v5.2)] }, (!true || List.all [.ov false [.sl (some 3) (v5.1.map eI)], .p (.bool v5.2)] simpleR) = true] (by kernel_rfl) ⟨rfl, (wk_spec_gwWalks hv5), (bt (sa_o (wnR1 (wnL_enc wn_I) rfl) (sa_p rfl))), trivial⟩) ?_
   refine k_seq ?_
   refine k_sreg (r_go [(0, .d false [.sl none (a0.map (eF eI))]), (4, .box [rI 0, rI 0]), (5, .box [rI 0, rI 0]), (7, .ov false [.sl (some 3) (v5.1.map eI)]), (28, .p (.bool (!v5.2)))] [] [] (by kernel_rfl) trivial) ?_
   refine k_cond (b := (!v5.2)) (by kernel_rfl) (fun hc2_5 => ?_) (fun hc2_5 => ?_)
   ·replace h := ite_t hc2_5 h
    refine k_sreg (r_go [(4, .box [rI 0, rI 0]), (5, .box [rI 0, rI 0]), (6, .p (.bool false))] [] [] (by kernel_rfl) trivial) ?_
    refine k_ret ?_
    refine q_r ?_
    obtain rfl := oi h
    exact e_ret (ls := [(.p (.agg #[.int .i64 0, .int .i64 0]), 4), (.p (.agg #[.int .i64 0, .int .i64 0]), 5), (.p (.bool false), 6)]) (by kernel_rfl) rfl (by kernel_rfl) rfl
   ·replace h := ite_f hc2_5 h
    refine k_skip ?_
    refine q_n ?_
    replace h := bs' h
    obtain ⟨v7, hv7, h⟩ := h
    refine k_sreg (r_go [(4, .box [rI 0, rI 0]), (5, .box [rI 0, rI 0]), (9, .box (eRt v7.1)), (10, .box (eRt v7.2))] [(2, {call := some ([.d false [.sl none (a0.map (eF eI))], .d false [.sl none (v5.1.map eI)]], [.p (vRt v7.1), .p (vRt v7.2)], true)})] [([.d false [.sl none (a0.map (eF eI))], .d false [.sl none (eraL (v5.1.map eI))]] : List Arg) = [.d false [.sl none (a0.map (eF eI))], .d false [.sl none (v5.1.map eI)]], Meets Try.prog 92 ([.d false [.sl none (a0.map (eF eI))], .d false [.sl none (v5.1.map eI)]] ++ []) { vals := [.p (vRt v7.1), .p (vRt v7.2)] }, (!true || List.all [.p (vRt v7.1), .p (vRt v7.2)] simpleR) = true] (by kernel_rfl) ⟨(by simp only [eraL_enc (h := eI) er_I]), (wk_spec_gwBounds hv7), (bt rfl), trivial⟩) ?_
    refine k_sreg (r_draw Try_mixed 3 [(2, 4)] [(4, .box (eRt v7.1)), (5, .box (eRt v7.2)), (6, .p (.bool true))] [] [] (by kernel_rfl) trivial) ?_
    refine k_ret ?_
    obtain rfl := oi h
    exact e_ret (ls := [(.p (vRt v7.1), 4), (.p (vRt v7.2), 5), (.p (.bool true), 6)]) (by kernel_rfl) rfl (by kernel_rfl) rfl
theorem wk_spec_WalkVector {a0 : (List (List Int))} {a1 : Int}  {r : ((List Int) × Bool)} (h : spec_WalkVector a0 a1 = some r) : Meets Try.prog 31 [.d false [.sl none (a0.map (eF eI))], wI a1] { vals := [.ov false [.sl (some 3) (r.1.map eI)], .p (.bool r.2)] } := by
 refine Meets_ofL (by kernel_rfl) Try.func31 rfl (by kernel_rfl) (l0 := [(0, .d false [.sl none (a0.map (eF eI))]), (1, .p (iV a1))]) (by kernel_rfl) ?_
 unfold spec_WalkVector at h
 refine k_sreg (r_go [(0, .d false [.sl none (a0.map (eF eI))]), (1, .p (iV a1))] [] [] (by kernel_rfl) trivial) ?_
 refine k_seq ?_
 replace h := bs' h
 obtain ⟨v1, hv1, h⟩ := h
 replace h := bs' h
 obtain ⟨w3, hw3, h⟩ := h
 refine k_sreg (l1 := [(0, .d false [.sl none (a0.map (eF eI))]), (1, .p (iV a1)), (13, .p (.bool w3))]) ?_ ?_
 ·clear h
  rcases ft (!v1) with ha0 | ha0
  ·replace hw3 := ite_t ha0 hw3
   have hw3 := oi hw3
   subst hw3
   exact (r_go [(0, .d false [.sl none (a0.map (eF eI))]), (1, .p (iV a1)), (13, .p (.bool true))] [(1, {call := some ([.d false [.sl none (a0.map (eF eI))]], [.p (.bool v1)], true)}), (4, {g := some true}), (5, {g := some true}), (6, {g := some true}), (7, {b := some true})] [([.d false [.sl none (a0.map (eF eI))]] : List Arg) = [.d false [.sl none (a0.map (eF eI))]], Meets Try.prog 65 ([.d false [.sl none (a0.map (eF eI))]] ++ []) { vals := [.p (.bool v1)] }, (!true || List.all [.p (.bool v1)] simpleR) = true, (!v1) = true, (!v1) = true, (!v1) = true, (!v1) = true] (by kernel_rfl) ⟨rfl, (wk_spec_grGood hv1), (bt rfl), ha0, ha0, ha0, ha0, trivial⟩)
  ·replace hw3 := ite_f ha0 hw3
   replace hw3 := bs' hw3
   obtain ⟨v2, hv2, hw3⟩ := hw3
   have hw3 := oi hw3
   subst hw3
   exact (r_go [(0, .d false [.sl none (a0.map (eF eI))]), (1, .p (iV a1)), (13, .p (.bool (!v2)))] [(1, {call := some ([.d false [.sl none (a0.map (eF eI))]], [.p (.bool v1)], true)}), (4, {g := some false}), (5, {g := some false, call := some ([wI a1], [.p (.bool v2)], true)}), (6, {g := some false}), (7, {b := some false})] [([.d false [.sl none (a0.map (eF eI))]] : List Arg) = [.d false [.sl none (a0.map (eF eI))]], Meets Try.prog 65 ([.d false [.sl none (a0.map (eF eI))]] ++ []) { vals := [.p (.bool v1)] }, (!true || List.all [.p (.bool v1)] simpleR) = true, (!v1) = false, (!v1) = false, ([wI a1] : List Arg) = [wI a1], Meets Try.prog 90 ([wI a1] ++ []) { vals := [.p (.bool v2)] }, (!true || List.all [.p (.bool v2)] simpleR) = true, (!v1) = false, (!v1) = false] (by kernel_rfl) ⟨rfl, (wk_spec_grGood hv1), (bt rfl), ha0, ha0, rfl, (wk_spec_gwSteps hv2), (bt rfl), ha0, ha0, trivial⟩)
 ·refine k_cond (b := w3) (by kernel_rfl) (fun hc2_3 => ?_) (fun hc2_3 => ?_)
  ·replace h := ite_t hc2_3 h
   refine k_sreg (r_go [(4, .ov false [.sl (some 3) []]), (5, .p (.bool false))] [] [] (by kernel_rfl) trivial) ?_
   refine k_ret ?_
   refine q_r ?_
   obtain rfl := oi h
   exact e_ret (ls := [(.ov false [.sl (some 3) []], 4), (.p (.bool false), 5)]) (by kernel_rfl) rfl (by kernel_rfl) rfl
  ·replace h := ite_f hc2_3 h
   refine k_skip ?_
   refine q_n ?_
   replace h := bs' h
   obtain ⟨v5, hv5, h⟩ := h
   refine k_sreg (r_go [(4, .ov false [.sl (some 3) (v5.1.map eI)]), (5, .p (.bool v5.2))] [(2, {call := some ([.d false [.sl none (a0.map (eF eI))], wI a1], [.ov false [.sl (some 3) (v5.1.map eI)], .p (.bool v5.2)], true)})] [([.d false [.sl none (a0.map (eF eI))], wI a1] : List Arg) = [.d false [.sl none (a0.map (eF eI))], wI a1], Meets Try.prog 91 ([.d false [.sl none (a0.map (eF eI))], wI a1] ++ []) { vals := [.ov false [.sl (some 3) (v5.1.map eI)], .p (.bool v5.2)] }, (!true || List.all [.ov false [.sl (some 3) (v5.1.map eI)], .p (.bool v5.2)] simpleR) = true] (by kernel_rfl) ⟨rfl, (wk_spec_gwWalks hv5), (bt (sa_o (wnR1 (wnL_enc wn_I) rfl) (sa_p rfl))), trivial⟩) ?_
   refine k_ret ?_
   obtain rfl := oi h
   exact e_ret (ls := [(.ov false [.sl (some 3) (v5.1.map eI)], 4), (.p (.bool v5.2), 5)]) (by kernel_rfl) rfl (by kernel_rfl) rfl
theorem wk_impl_BestGrowth {a0 : (List (List Int))}  {r : (Qr × Qr × Int × Bool)} (h : impl_BestGrowth a0 = some r) : Meets Try.prog 32 [.d false [.sl none (a0.map (eF eI))]] { vals := [.p (vRt r.1), .p (vRt r.2.1), .p (iV r.2.2.1), .p (.bool r.2.2.2)] } := by
 refine Meets_ofL (by kernel_rfl) Try.func32 rfl (by kernel_rfl) (l0 := [(0, .d false [.sl none (a0.map (eF eI))])]) (by kernel_rfl) ?_
 unfold impl_BestGrowth at h
 refine k_sreg (r_go [(0, .d false [.sl none (a0.map (eF eI))]), (2, .box [rI 0, rI 0]), (3, .box [rI 0, rI 0])] [] [] (by kernel_rfl) trivial) ?_
 refine k_seq ?_
 replace h := bs' h
 obtain ⟨v1, hv1, h⟩ := h
 refine k_sreg (r_go [(0, .d false [.sl none (a0.map (eF eI))]), (2, .box [rI 0, rI 0]), (3, .box [rI 0, rI 0]), (12, .p (.bool (!v1)))] [(1, {call := some ([.d false [.sl none (a0.map (eF eI))]], [.p (.bool v1)], true)})] [([.d false [.sl none (a0.map (eF eI))]] : List Arg) = [.d false [.sl none (a0.map (eF eI))]], Meets Try.prog 62 ([.d false [.sl none (a0.map (eF eI))]] ++ []) { vals := [.p (.bool v1)] }, (!true || List.all [.p (.bool v1)] simpleR) = true] (by kernel_rfl) ⟨rfl, (wk_impl_isGraph hv1), (bt rfl), trivial⟩) ?_
 refine k_cond (b := (!v1)) (by kernel_rfl) (fun hc2_1 => ?_) (fun hc2_1 => ?_)
 ·replace h := ite_t hc2_1 h
  refine k_sreg (r_go [(2, .box [rI 0, rI 0]), (3, .box [rI 0, rI 0]), (4, .p (iV 0)), (5, .p (.bool false))] [] [] (by kernel_rfl) trivial) ?_
  refine k_ret ?_
  refine q_r ?_
  obtain rfl := oi h
  exact e_ret (ls := [(.p (.agg #[.int .i64 0, .int .i64 0]), 2), (.p (.agg #[.int .i64 0, .int .i64 0]), 3), (.p (iV 0), 4), (.p (.bool false), 5)]) (by kernel_rfl) rfl (by kernel_rfl) rfl
 ·replace h := ite_f hc2_1 h
  refine k_skip ?_
  refine q_n ?_
  replace h := bs' h
  obtain ⟨v3, hv3, h⟩ := h
  refine k_sreg (r_go [(0, .d false [.sl none (a0.map (eF eI))]), (2, .box [rI 0, rI 0]), (3, .box [rI 0, rI 0]), (6, .ov false [.sl (some 26) (v3.map (eF eI))])] [(1, {call := some ([.d false [.sl none (a0.map (eF eI))], wI 20], [.ov false [.sl (some 26) (v3.map (eF eI))]], false)})] [([.d false [.sl none (a0.map (eF eI))], wI 20] : List Arg) = [.d false [.sl none (a0.map (eF eI))], wI 20], Meets Try.prog 93 ([.d false [.sl none (a0.map (eF eI))], wI 20] ++ []) { vals := [.ov false [.sl (some 26) (v3.map (eF eI))]] }, (!false || List.all [.ov false [.sl (some 26) (v3.map (eF eI))]] simpleR) = true] (by kernel_rfl) ⟨rfl, (wk_impl_walkVectors hv3), rfl, trivial⟩) ?_
  refine k_sreg (r_go [(0, .d false [.sl none (a0.map (eF eI))]), (2, .box [rI 0, rI 0]), (3, .box [rI 0, rI 0]), (6, .ov false [.sl (some 26) (v3.map (eF eI))]), (7, .p (iV (w64 ((v3.length : Int) - 1))))] [(1, {n := some v3.length})] [(v3.map (eF eI)).length = v3.length] (by kernel_rfl) ⟨(List.length_map ..), trivial⟩) ?_
  replace h := bs' h
  obtain ⟨v4, hv4, h⟩ := h
  replace h := bs' h
  obtain ⟨v5, hv5, h⟩ := h
  refine k_sreg (r_go [(2, .box [rI 0, rI 0]), (3, .box [rI 0, rI 0]), (7, .p (iV (w64 ((v3.length : Int) - 1)))), (8, .box (eRt v5.1)), (9, .box (eRt v5.2))] [(3, {row := some [.sl none (v4.map eI)]}), (4, {row := some [.sl none (v4.map eI)], b := some true}), (5, {call := some ([.d false [.sl none (a0.map (eF eI))], .d false [.sl none (v4.map eI)]], [.p (vRt v5.1), .p (vRt v5.2)], true)})] [0 ≤ (w64 ((v3.length : Int) - 1)), (v3.map (eF eI))[(Int.toNat (w64 ((v3.length : Int) - 1)))]? = some [.sl none (v4.map eI)], frR [.sl none (v4.map eI)] = true, getRow [[.sl (some 26) (v3.map (eF eI))]] [(0, 0), ((Int.toNat (w64 ((v3.length : Int) - 1))), 0)] = some [.sl none (v4.map eI)], ([.d false [.sl none (a0.map (eF eI))], .d false [.sl none (v4.map eI)]] : List Arg) = [.d false [.sl none (a0.map (eF eI))], .d false [.sl none (v4.map eI)]], Meets Try.prog 94 ([.d false [.sl none (a0.map (eF eI))], .d false [.sl none (v4.map eI)]] ++ []) { vals := [.p (vRt v5.1), .p (vRt v5.2)] }, (!true || List.all [.p (vRt v5.1), .p (vRt v5.2)] simpleR) = true] (by kernel_rfl) ⟨(idxO_some hv4).1, (map_get (eF eI) (idxO_some hv4).2), (frR1 (frL_enc fr_I) rfl), ((gr0 rfl).trans (gre (map_get (eF eI) (idxO_some hv4).2))), rfl, (wk_impl_ratioBounds hv5), (bt rfl), trivial⟩) ?_
  refine k_sreg (r_draw Try_mixed 5 [(3, 2), (4, 3)] [(2, .box (eRt v5.1)), (3, .box (eRt v5.2)), (4, .p (iV (w64 ((v3.length : Int) - 1)))), (5, .p (.bool true))] [] [] (by kernel_rfl) trivial) ?_
  refine k_ret ?_
  obtain rfl := oi h
  exact e_ret (ls := [(.p (vRt v5.1), 2), (.p (vRt v5.2), 3), (.p (iV (w64 ((v3.length : Int) - 1))), 4), (.p (.bool true), 5)]) (by kernel_rfl) rfl (by kernel_rfl) rfl
theorem wk_spec_gwBest {a0 : (List (List Int))}  {r : (Qr × Qr × Int)} (h : spec_gwBest a0 = some r) : Meets Try.prog 95 [.d false [.sl none (a0.map (eF eI))]] { vals := [.p (vRt r.1), .p (vRt r.2.1), .p (iV r.2.2)] } := by
 refine Meets_ofL (by kernel_rfl) Try.func95 rfl (by kernel_rfl) (l0 := [(0, .d false [.sl none (a0.map (eF eI))])]) (by kernel_rfl) ?_
 unfold spec_gwBest at h
 refine k_sreg (r_go [(0, .d false [.sl none (a0.map (eF eI))]), (2, .box [rI 0, rI 0]), (3, .box [rI 0, rI 0])] [] [] (by kernel_rfl) trivial) ?_
 refine k_sreg (r_go [(0, .d false [.sl none (a0.map (eF eI))]), (2, .box [rI 0, rI 0]), (3, .box [rI 0, rI 0]), (5, .p (iV 0))] [] [] (by kernel_rfl) trivial) ?_
 replace h := bs' h
 obtain ⟨v1, hv1, h⟩ := h
 refine k_sreg (r_go [(0, .d false [.sl none (a0.map (eF eI))]), (2, .box [rI 0, rI 0]), (3, .box [rI 0, rI 0]), (5, .p (iV 0)), (6, .ov false [.sl (some 3) (v1.1.map eI)])] [(1, {call := some ([.d false [.sl none (a0.map (eF eI))], wI 0], [.ov false [.sl (some 3) (v1.1.map eI)], .p (.bool v1.2)], true)})] [([.d false [.sl none (a0.map (eF eI))], wI 0] : List Arg) = [.d false [.sl none (a0.map (eF eI))], wI 0], Meets Try.prog 91 ([.d false [.sl none (a0.map (eF eI))], wI 0] ++ []) { vals := [.ov false [.sl (some 3) (v1.1.map eI)], .p (.bool v1.2)] }, (!true || List.all [.ov false [.sl (some 3) (v1.1.map eI)], .p (.bool v1.2)] simpleR) = true] (by kernel_rfl) ⟨rfl, (wk_spec_gwWalks hv1), (bt (sa_o (wnR1 (wnL_enc wn_I) rfl) (sa_p rfl))), trivial⟩) ?_
 refine k_join (J := fun (x : (Int × (List Int))) => [(0, .d false [.sl none (a0.map (eF eI))]), (2, .box [rI 0, rI 0]), (3, .box [rI 0, rI 0]), (5, .p (iV x.1)), (6, .ov false [.sl (some 3) (x.2.map eI)])]) (K := fun x => spec_gwBest_k1 a0 x = some r) (fun x2 h => ?_) ?_
 ·unfold spec_gwBest_k1 at h
  replace h := bs' h
  obtain ⟨v3, hv3, h⟩ := h
  refine k_sreg (r_go [(2, .box [rI 0, rI 0]), (3, .box [rI 0, rI 0]), (5, .p (iV x2.1)), (10, .box (eRt v3.1)), (11, .box (eRt v3.2))] [(2, {call := some ([.d false [.sl none (a0.map (eF eI))], .d false [.sl none (x2.2.map eI)]], [.p (vRt v3.1), .p (vRt v3.2)], true)})] [([.d false [.sl none (a0.map (eF eI))], .d false [.sl none (eraL (x2.2.map eI))]] : List Arg) = [.d false [.sl none (a0.map (eF eI))], .d false [.sl none (x2.2.map eI)]], Meets Try.prog 92 ([.d false [.sl none (a0.map (eF eI))], .d false [.sl none (x2.2.map eI)]] ++ []) { vals := [.p (vRt v3.1), .p (vRt v3.2)] }, (!true || List.all [.p (vRt v3.1), .p (vRt v3.2)] simpleR) = true] (by kernel_rfl) ⟨(by simp only [eraL_enc (h := eI) er_I]), (wk_spec_gwBounds hv3), (bt rfl), trivial⟩) ?_
  refine k_sreg (r_draw Try_mixed 5 [(3, 2), (4, 3)] [(2, .box (eRt v3.1)), (3, .box (eRt v3.2)), (4, .p (iV x2.1))] [] [] (by kernel_rfl) trivial) ?_
  refine k_ret ?_
  obtain rfl := oi h
  exact e_ret (ls := [(.p (vRt v3.1), 2), (.p (vRt v3.2), 3), (.p (iV x2.1), 4)]) (by kernel_rfl) rfl (by kernel_rfl) rfl
 ·refine k_block ?_
  obtain ⟨y5, hl_x4, hk_x4⟩ := bs' h
  clear h
  refine k_loop (J := fun (x : (Int × (List Int))) => [(0, .d false [.sl none (a0.map (eF eI))]), (2, .box [rI 0, rI 0]), (3, .box [rI 0, rI 0]), (5, .p (iV x.1)), (6, .ov false [.sl (some 3) (x.2.map eI)])]) hl_x4 (wk_of (by kernel_rfl) (by kernel_rfl)) (fun x4 o_x4 h hy_x4 => ?_)
  unfold spec_gwBest_b1 at h
  refine k_seq ?_
  refine k_sreg (r_go [(0, .d false [.sl none (a0.map (eF eI))]), (2, .box [rI 0, rI 0]), (3, .box [rI 0, rI 0]), (5, .p (iV x4.1)), (6, .ov false [.sl (some 3) (x4.2.map eI)]), (18, .p (.bool (decide (x4.1 < 20))))] [] [] (by kernel_rfl) trivial) ?_
  refine k_cond (b := (decide (x4.1 < 20))) (by kernel_rfl) (fun hc5_5 => ?_) (fun hc5_5 => ?_)
  ·replace h := ite_t hc5_5 h
   refine k_skip ?_
   refine q_n ?_
   refine k_block ?_
   replace h := bs' h
   obtain ⟨v7, hv7, h⟩ := h
   refine k_sreg (r_go [(0, .d false [.sl none (a0.map (eF eI))]), (2, .box [rI 0, rI 0]), (3, .box [rI 0, rI 0]), (5, .p (iV x4.1)), (6, .ov false [.sl (some 3) (x4.2.map eI)]), (8, .ov false [.sl (some 3) (v7.1.map eI)]), (9, .p (.bool v7.2))] [(3, {call := some ([.d false [.sl none (a0.map (eF eI))], wI (w64 (x4.1 + 1))], [.ov false [.sl (some 3) (v7.1.map eI)], .p (.bool v7.2)], true)})] [([.d false [.sl none (a0.map (eF eI))], wI (w64 (x4.1 + 1))] : List Arg) = [.d false [.sl none (a0.map (eF eI))], wI (w64 (x4.1 + 1))], Meets Try.prog 91 ([.d false [.sl none (a0.map (eF eI))], wI (w64 (x4.1 + 1))] ++ []) { vals := [.ov false [.sl (some 3) (v7.1.map eI)], .p (.bool v7.2)] }, (!true || List.all [.ov false [.sl (some 3) (v7.1.map eI)], .p (.bool v7.2)] simpleR) = true] (by kernel_rfl) ⟨rfl, (wk_spec_gwWalks hv7), (bt (sa_o (wnR1 (wnL_enc wn_I) rfl) (sa_p rfl))), trivial⟩) ?_
   refine k_seq ?_
   refine k_sreg (r_go [(0, .d false [.sl none (a0.map (eF eI))]), (2, .box [rI 0, rI 0]), (3, .box [rI 0, rI 0]), (5, .p (iV x4.1)), (6, .ov false [.sl (some 3) (x4.2.map eI)]), (8, .ov false [.sl (some 3) (v7.1.map eI)]), (27, .p (.bool (!v7.2)))] [] [] (by kernel_rfl) trivial) ?_
   refine k_cond (b := (!v7.2)) (by kernel_rfl) (fun hc6_7 => ?_) (fun hc6_7 => ?_)
   ·replace h := ite_t hc6_7 h
    refine k_exit ?_
    refine q_x ?_
    refine b_y rfl ?_
    refine lq_x ?_
    refine b_x ?_
    have hyy := hy_x4 _ (oi h).symm
    subst hyy
    have h := hk_x4
    refine q_n ?_
    exact ⟨x4, h, (wk_of (by kernel_rfl) (by kernel_rfl))⟩
   ·replace h := ite_f hc6_7 h
    refine k_skip ?_
    refine q_n ?_
    refine k_sreg (r_go [(0, .d false [.sl none (a0.map (eF eI))]), (2, .box [rI 0, rI 0]), (3, .box [rI 0, rI 0]), (5, .p (iV x4.1)), (6, .ov false [.sl (some 3) (v7.1.map eI)])] [] [] (by kernel_rfl) trivial) ?_
    refine k_reg (r_go [(0, .d false [.sl none (a0.map (eF eI))]), (2, .box [rI 0, rI 0]), (3, .box [rI 0, rI 0]), (5, .p (iV (w64 (x4.1 + 1)))), (6, .ov false [.sl (some 3) (v7.1.map eI)])] [] [] (by kernel_rfl) trivial) ?_
    refine b_n ?_
    exact lq_n ((w64 (x4.1 + 1)), v7.1) (oi h).symm (wk_of (by kernel_rfl) (by kernel_rfl))
  ·replace h := ite_f hc5_5 h
   refine k_exit ?_
   refine q_x ?_
   refine lq_x ?_
   refine b_x ?_
   have hyy := hy_x4 _ (oi h).symm
   subst hyy
   have h := hk_x4
   refine q_n ?_
   exact ⟨x4, h, (wk_of (by kernel_rfl) (by kernel_rfl))⟩
theorem wk_spec_BestGrowth {a0 : (List (List Int))}  {r : (Qr × Qr × Int × Bool)} (h : spec_BestGrowth a0 = some r) : Meets Try.prog 33 [.d false [.sl none (a0.map (eF eI))]] { vals := [.p (vRt r.1), .p (vRt r.2.1), .p (iV r.2.2.1), .p (.bool r.2.2.2)] } := by
 refine Meets_ofL (by kernel_rfl) Try.func33 rfl (by kernel_rfl) (l0 := [(0, .d false [.sl none (a0.map (eF eI))])]) (by kernel_rfl) ?_
 unfold spec_BestGrowth at h
 refine k_sreg (r_go [(0, .d false [.sl none (a0.map (eF eI))]), (2, .box [rI 0, rI 0]), (3, .box [rI 0, rI 0])] [] [] (by kernel_rfl) trivial) ?_
 refine k_seq ?_
 replace h := bs' h
 obtain ⟨v1, hv1, h⟩ := h
 refine k_sreg (r_go [(0, .d false [.sl none (a0.map (eF eI))]), (2, .box [rI 0, rI 0]), (3, .box [rI 0, rI 0]), (11, .p (.bool (!v1)))] [(1, {call := some ([.d false [.sl none (a0.map (eF eI))]], [.p (.bool v1)], true)})] [([.d false [.sl none (a0.map (eF eI))]] : List Arg) = [.d false [.sl none (a0.map (eF eI))]], Meets Try.prog 65 ([.d false [.sl none (a0.map (eF eI))]] ++ []) { vals := [.p (.bool v1)] }, (!true || List.all [.p (.bool v1)] simpleR) = true] (by kernel_rfl) ⟨rfl, (wk_spec_grGood hv1), (bt rfl), trivial⟩) ?_
 refine k_cond (b := (!v1)) (by kernel_rfl) (fun hc2_1 => ?_) (fun hc2_1 => ?_)
 ·replace h := ite_t hc2_1 h
  refine k_sreg (r_go [(2, .box [rI 0, rI 0]), (3, .box [rI 0, rI 0]), (4, .p (iV 0)), (5, .p (.bool false))] [] [] (by kernel_rfl) trivial) ?_
  refine k_ret ?_
  refine q_r ?_
  obtain rfl := oi h
  exact e_ret (ls := [(.p (.agg #[.int .i64 0, .int .i64 0]), 2), (.p (.agg #[.int .i64 0, .int .i64 0]), 3), (.p (iV 0), 4), (.p (.bool false), 5)]) (by kernel_rfl) rfl (by kernel_rfl) rfl
 ·replace h := ite_f hc2_1 h
  refine k_skip ?_
  refine q_n ?_
  replace h := bs' h
  obtain ⟨v3, hv3, h⟩ := h
  refine k_sreg (r_go [(2, .box [rI 0, rI 0]), (3, .box [rI 0, rI 0]), (6, .box (eRt v3.1)), (7, .box (eRt v3.2.1)), (8, .p (iV v3.2.2))] [(1, {call := some ([.d false [.sl none (a0.map (eF eI))]], [.p (vRt v3.1), .p (vRt v3.2.1), .p (iV v3.2.2)], true)})] [([.d false [.sl none (a0.map (eF eI))]] : List Arg) = [.d false [.sl none (a0.map (eF eI))]], Meets Try.prog 95 ([.d false [.sl none (a0.map (eF eI))]] ++ []) { vals := [.p (vRt v3.1), .p (vRt v3.2.1), .p (iV v3.2.2)] }, (!true || List.all [.p (vRt v3.1), .p (vRt v3.2.1), .p (iV v3.2.2)] simpleR) = true] (by kernel_rfl) ⟨rfl, (wk_spec_gwBest hv3), (bt rfl), trivial⟩) ?_
  refine k_sreg (r_draw Try_mixed 5 [(3, 2), (4, 3)] [(2, .box (eRt v3.1)), (3, .box (eRt v3.2.1)), (4, .p (iV v3.2.2)), (5, .p (.bool true))] [] [] (by kernel_rfl) trivial) ?_
  refine k_ret ?_
  obtain rfl := oi h
  exact e_ret (ls := [(.p (vRt v3.1), 2), (.p (vRt v3.2.1), 3), (.p (iV v3.2.2), 4), (.p (.bool true), 5)]) (by kernel_rfl) rfl (by kernel_rfl) rfl
theorem wk_spec_l1Cur_vectorFor {a0 : ((List Int) × Int × Int)} {a1 : (List (List Int))}  {r : ((List Int) × ((List Int) × Int × Int))} (h : spec_l1Cur_vectorFor a0 a1 = some r) : MeetsB Try.prog 97 (.box (eCu a0)) [.d false [.sl none (a1.map (eF eI))]] [.ov false [.sl (some 3) (r.1.map eI)]] (.box (eCu r.2)) := by
 refine MeetsB_ofL (by kernel_rfl) Try.func97 rfl (by kernel_rfl) rfl (l0 := [(0, .box (eCu a0)), (1, .d false [.sl none (a1.map (eF eI))])]) (by kernel_rfl) ?_
 unfold spec_l1Cur_vectorFor at h
 refine k_sreg (r_go [(0, .box (eCu a0)), (1, .d false [.sl none (a1.map (eF eI))])] [] [] (by kernel_rfl) trivial) ?_
 refine k_sreg (r_go [(0, .box (eCu a0)), (1, .d false [.sl none (a1.map (eF eI))]), (5, .ov false [.sl (some 3) []])] [] [] (by kernel_rfl) trivial) ?_
 refine k_join (J := fun (x : ((List Int) × Int × Int × (List Int))) => [(0, .box (eCu (x.1, x.2.1, x.2.2.1))), (1, .d false [.sl none (a1.map (eF eI))]), (5, .ov false [.sl (some 3) (x.2.2.2.map eI)])]) (K := fun x => spec_l1Cur_vectorFor_k1 a1 x = some r) (fun x1 h => ?_) ?_
 ·unfold spec_l1Cur_vectorFor_k1 at h
  refine k_join (J := fun (x : ((List Int) × Int × Int × (List Int))) => [(0, .box (eCu (x.1, x.2.1, x.2.2.1))), (5, .ov false [.sl (some 3) (x.2.2.2.map eI)])]) (K := fun x => spec_l1Cur_vectorFor_k2 x = some r) (fun x2 h => ?_) ?_
  ·unfold spec_l1Cur_vectorFor_k2 at h
   refine k_seq ?_
   replace h := bs' h
   obtain ⟨v3, hv3, h⟩ := h
   refine k_sreg (r_go [(0, .box (eCu v3.2)), (5, .ov false [.sl (some 3) (x2.2.2.2.map eI)]), (39, .p (iV v3.1))] [(1, {lend := some ([wI 24], [.p (iV v3.1)], .box (eCu v3.2), false)})] [([wI 24] : List Arg) = [wI 24], MeetsB Try.prog 101 (.box (eCu (x2.1, x2.2.1, x2.2.2.1))) [wI 24] [.p (iV v3.1)] (.box (eCu v3.2)), (!false || (List.all [.p (iV v3.1)] simpleR && wnS (.box (eCu v3.2)))) = true] (by kernel_rfl) ⟨rfl, (wk_spec_l1Cur_pick hv3), rfl, trivial⟩) ?_
   refine k_block ?_
   refine k_sreg (r_go [(0, .box (eCu v3.2)), (5, .ov false [.sl (some 3) (x2.2.2.2.map eI)]), (39, .p (iV v3.1)), (40, .p (.bool (v3.1 == 0)))] [] [] (by kernel_rfl) trivial) ?_
   refine k_cond (b := (v3.1 == 0)) (by kernel_rfl) (fun hc3_3 => ?_) (fun hc3_3 => ?_)
   ·replace h := ite_t hc3_3 h
    replace h := bs' h
    obtain ⟨u5, hu5, h⟩ := h
    refine k_reg (r_go [(0, .box (eCu v3.2)), (5, .ov false [.sl (some 3) ((x2.2.2.2 ++ [1]).map eI)])] [(2, {fix := some (44, .ov false [.sl (some 3) ((x2.2.2.2 ++ [1]).map eI)])})] [List.length ((x2.2.2.2.map eI) : List (List C)) + List.length ((([1]).map eI) : List (List C)) ≤ 1099511627776, ∀ row ∈ ((([1]).map eI) : List (List C)), row.length = 1, (SV.ov false [.sl (some 3) ((x2.2.2.2.map eI) ++ (([1]).map eI))] : SV) = .ov false [.sl (some 3) ((x2.2.2.2 ++ [1]).map eI)]] (by kernel_rfl) ⟨(by have hg := (guardO_some hu5); simpa using hg), (rows_len fun _ => rfl), (congrArg (fun z => SV.ov false [.sl (some 3) z]) (List.map_append ..).symm), trivial⟩) ?_
    refine b_n ?_
    refine q_n ?_
    refine k_sreg (r_go [(0, .box (eCu v3.2)), (4, .ov false [.sl (some 3) ((x2.2.2.2 ++ [1]).map eI)])] [] [] (by kernel_rfl) trivial) ?_
    refine k_ret ?_
    obtain rfl := oi h
    exact eb_ret (ls := [(.ov false [.sl (some 3) ((x2.2.2.2 ++ [1]).map eI)], 4)]) (by kernel_rfl) rfl rfl (by kernel_rfl) (by kernel_rfl)
   ·replace h := ite_f hc3_3 h
    refine k_sreg (r_go [(0, .box (eCu v3.2)), (5, .ov false [.sl (some 3) (x2.2.2.2.map eI)]), (45, .p (.bool (v3.1 == 1)))] [] [] (by kernel_rfl) trivial) ?_
    refine k_cond (b := (v3.1 == 1)) (by kernel_rfl) (fun hc3_5 => ?_) (fun hc3_5 => ?_)
    ·replace h := ite_t hc3_5 h
     refine k_sreg (r_go [(0, .box (eCu v3.2)), (5, .ov false [.sl (some 3) (x2.2.2.2.map eI)]), (49, .p (.bool (decide ((x2.2.2.2.length : Int) > 0))))] [(1, {n := some x2.2.2.2.length})] [(x2.2.2.2.map eI).length = x2.2.2.2.length] (by kernel_rfl) ⟨(List.length_map ..), trivial⟩) ?_
     refine k_cond (b := (decide ((x2.2.2.2.length : Int) > 0))) (by kernel_rfl) (fun hc3_6 => ?_) (fun hc3_6 => ?_)
     ·replace h := ite_t hc3_6 h
      replace h := bs' h
      obtain ⟨v8, hv8, h⟩ := h
      replace h := bs' h
      obtain ⟨v9, hv9, h⟩ := h
      refine k_reg (r_go [(0, .box (eCu v8.2)), (5, .ov false [.sl (some 3) ((x2.2.2.2.set (Int.toNat 0) v8.1).map eI)])] [(3, {lend := some ([.d false [.sl none (([0, (-1), 1000001]).map eI)]], [.p (iV v8.1)], .box (eCu v8.2), false), fix := some (52, .d false [.sl none (([0, (-1), 1000001]).map eI)])}), (4, {row := some (eI v9)}), (5, {row := some (eI v9), fix := some (5, .ov false [.sl (some 3) ((x2.2.2.2.set (Int.toNat 0) v8.1).map eI)])})] [([.d false [.sl none (eraL (([0, (-1), 1000001]).map eI))]] : List Arg) = [.d false [.sl none (([0, (-1), 1000001]).map eI)]], MeetsB Try.prog 121 (.box (eCu v3.2)) [.d false [.sl none (([0, (-1), 1000001]).map eI)]] [.p (iV v8.1)] (.box (eCu v8.2)), (!false || (List.all [.p (iV v8.1)] simpleR && wnS (.box (eCu v8.2)))) = true, (SV.d false (eraR [.sl (some 3) (([0, (-1), 1000001]).map eI)]) : SV) = .d false [.sl none (([0, (-1), 1000001]).map eI)], 0 ≤ 0, (x2.2.2.2.map eI)[(Int.toNat 0)]? = some (eI v9), getRow [[.sl (some 3) (x2.2.2.2.map eI)]] [(0, 0), ((Int.toNat 0), 0)] = some (eI v9), (SV.ov false [.sl (some 3) (setL (x2.2.2.2.map eI) [((Int.toNat 0), 0)] (eI v8.1))] : SV) = .ov false [.sl (some 3) ((x2.2.2.2.set (Int.toNat 0) v8.1).map eI)]] (by kernel_rfl) ⟨(by simp only [eraL_enc (h := eI) er_I]), (wk_spec_l1Cur_among hv8), rfl, (congrArg (fun z => SV.d false z) (erc_sl (eraL_enc er_I) rfl)), (idxO_some hv9).1, (map_get eI (idxO_some hv9).2), ((gr0 rfl).trans (gre (map_get eI (idxO_some hv9).2))), (congrArg (fun z => SV.ov false [.sl (some 3) z]) (set1 (f := eI) (y := v8.1) (idxO_some hv9).2 rfl)), trivial⟩) ?_
      refine b_n ?_
      refine q_n ?_
      refine k_sreg (r_go [(0, .box (eCu v8.2)), (4, .ov false [.sl (some 3) ((x2.2.2.2.set (Int.toNat 0) v8.1).map eI)])] [] [] (by kernel_rfl) trivial) ?_
      refine k_ret ?_
      obtain rfl := oi h
      exact eb_ret (ls := [(.ov false [.sl (some 3) ((x2.2.2.2.set (Int.toNat 0) v8.1).map eI)], 4)]) (by kernel_rfl) rfl rfl (by kernel_rfl) (by kernel_rfl)
     ·replace h := ite_f hc3_6 h
      refine k_skip ?_
      refine b_n ?_
      refine q_n ?_
      refine k_sreg (r_go [(0, .box (eCu v3.2)), (4, .ov false [.sl (some 3) (x2.2.2.2.map eI)])] [] [] (by kernel_rfl) trivial) ?_
      refine k_ret ?_
      obtain rfl := oi h
      exact eb_ret (ls := [(.ov false [.sl (some 3) (x2.2.2.2.map eI)], 4)]) (by kernel_rfl) rfl rfl (by kernel_rfl) (by kernel_rfl)
    ·replace h := ite_f hc3_5 h
     refine k_skip ?_
     refine b_n ?_
     refine q_n ?_
     refine k_sreg (r_go [(0, .box (eCu v3.2)), (4, .ov false [.sl (some 3) (x2.2.2.2.map eI)])] [] [] (by kernel_rfl) trivial) ?_
     refine k_ret ?_
     obtain rfl := oi h
     exact eb_ret (ls := [(.ov false [.sl (some 3) (x2.2.2.2.map eI)], 4)]) (by kernel_rfl) rfl rfl (by kernel_rfl) (by kernel_rfl)
  ·replace h := bs' h
   obtain ⟨v10, hv10, h⟩ := h
   replace h := bs' h
   obtain ⟨w12, hw12, h⟩ := h
   refine k_sreg (l1 := [(0, .box (eCu (w12.1, w12.2.1, w12.2.2.1))), (1, .d false [.sl none (a1.map (eF eI))]), (5, .ov false [.sl (some 3) (x1.2.2.2.map eI)]), (27, .p (.bool w12.2.2.2))]) ?_ ?_
   ·clear h
    rcases ft v10 with ha0 | ha0
    ·replace hw12 := ite_t ha0 hw12
     replace hw12 := bs' hw12
     obtain ⟨v11, hv11, hw12⟩ := hw12
     have hw12 := oi hw12
     subst hw12
     exact (r_go [(0, .box (eCu v11.2)), (1, .d false [.sl none (a1.map (eF eI))]), (5, .ov false [.sl (some 3) (x1.2.2.2.map eI)]), (27, .p (.bool v11.1))] [(1, {call := some ([.d false [.sl none (a1.map (eF eI))]], [.p (.bool v10)], true)}), (3, {g := some true}), (4, {g := some true, lend := some ([wI 3], [.p (.bool v11.1)], .box (eCu v11.2), false)}), (5, {b := some true})] [([.d false [.sl none (a1.map (eF eI))]] : List Arg) = [.d false [.sl none (a1.map (eF eI))]], Meets Try.prog 65 ([.d false [.sl none (a1.map (eF eI))]] ++ []) { vals := [.p (.bool v10)] }, (!true || List.all [.p (.bool v10)] simpleR) = true, v10 = true, v10 = true, ([wI 3] : List Arg) = [wI 3], MeetsB Try.prog 100 (.box (eCu (x1.1, x1.2.1, x1.2.2.1))) [wI 3] [.p (.bool v11.1)] (.box (eCu v11.2)), (!false || (List.all [.p (.bool v11.1)] simpleR && wnS (.box (eCu v11.2)))) = true, v10 = true] (by kernel_rfl) ⟨rfl, (wk_spec_grGood hv10), (bt rfl), ha0, ha0, rfl, (wk_spec_l1Cur_one hv11), rfl, ha0, trivial⟩)
    ·replace hw12 := ite_f ha0 hw12
     have hw12 := oi hw12
     subst hw12
     exact (r_go [(0, .box (eCu (x1.1, x1.2.1, x1.2.2.1))), (1, .d false [.sl none (a1.map (eF eI))]), (5, .ov false [.sl (some 3) (x1.2.2.2.map eI)]), (27, .p (.bool false))] [(1, {call := some ([.d false [.sl none (a1.map (eF eI))]], [.p (.bool v10)], true)}), (3, {g := some false}), (4, {g := some false}), (5, {b := some false})] [([.d false [.sl none (a1.map (eF eI))]] : List Arg) = [.d false [.sl none (a1.map (eF eI))]], Meets Try.prog 65 ([.d false [.sl none (a1.map (eF eI))]] ++ []) { vals := [.p (.bool v10)] }, (!true || List.all [.p (.bool v10)] simpleR) = true, v10 = false, v10 = false, v10 = false] (by kernel_rfl) ⟨rfl, (wk_spec_grGood hv10), (bt rfl), ha0, ha0, ha0, trivial⟩)
   ·refine k_cond (b := w12.2.2.2) (by kernel_rfl) (fun hc2_12 => ?_) (fun hc2_12 => ?_)
    ·replace h := ite_t hc2_12 h
     replace h := bs' h
     obtain ⟨v14, hv14, h⟩ := h
     replace h := bs' h
     obtain ⟨v15, hv15, h⟩ := h
     refine k_sreg (r_go [(0, .box (eCu v14.2)), (5, .ov false [.sl (some 3) (x1.2.2.2.map eI)]), (6, .ov false [.sl (some 3) (v15.1.map eI)]), (7, .p (.bool v15.2))] [(2, {lend := some ([wI 4], [.p (iV v14.1)], .box (eCu v14.2), false)}), (4, {call := some ([.d false [.sl none (a1.map (eF eI))], wI (w64 (1 + v14.1))], [.ov false [.sl (some 3) (v15.1.map eI)], .p (.bool v15.2)], true)})] [([wI 4] : List Arg) = [wI 4], MeetsB Try.prog 101 (.box (eCu (w12.1, w12.2.1, w12.2.2.1))) [wI 4] [.p (iV v14.1)] (.box (eCu v14.2)), (!false || (List.all [.p (iV v14.1)] simpleR && wnS (.box (eCu v14.2)))) = true, ([.d false [.sl none (a1.map (eF eI))], wI (w64 (1 + v14.1))] : List Arg) = [.d false [.sl none (a1.map (eF eI))], wI (w64 (1 + v14.1))], Meets Try.prog 91 ([.d false [.sl none (a1.map (eF eI))], wI (w64 (1 + v14.1))] ++ []) { vals := [.ov false [.sl (some 3) (v15.1.map eI)], .p (.bool v15.2)] }, (!true || List.all [.ov false [.sl (some 3) (v15.1.map eI)], .p (.bool v15.2)] simpleR) = true] (by kernel_rfl) ⟨rfl, (wk_spec_l1Cur_pick hv14), rfl, rfl, (wk_spec_gwWalks hv15), (bt (sa_o (wnR1 (wnL_enc wn_I) rfl) (sa_p rfl))), trivial⟩) ?_
     refine k_sreg (r_go [(0, .box (eCu v14.2)), (5, .ov false [.sl (some 3) (x1.2.2.2.map eI)]), (6, .ov false [.sl (some 3) (v15.1.map eI)]), (36, .p (.bool v15.2))] [] [] (by kernel_rfl) trivial) ?_
     refine k_cond (b := v15.2) (by kernel_rfl) (fun hc2_15 => ?_) (fun hc2_15 => ?_)
     ·replace h := ite_t hc2_15 h
      refine k_reg (r_go [(0, .box (eCu v14.2)), (5, .ov false [.sl (some 3) (v15.1.map eI)])] [] [] (by kernel_rfl) trivial) ?_
      refine q_n ?_
      exact ⟨(v14.2.1, v14.2.2.1, v14.2.2.2, v15.1), h, (wk_of (by kernel_rfl) (by kernel_rfl))⟩
     ·replace h := ite_f hc2_15 h
      refine k_skip ?_
      refine q_n ?_
      exact ⟨(v14.2.1, v14.2.2.1, v14.2.2.2, x1.2.2.2), h, (wk_of (by kernel_rfl) (by kernel_rfl))⟩
    ·replace h := ite_f hc2_12 h
     refine k_skip ?_
     refine q_n ?_
     exact ⟨(w12.1, w12.2.1, w12.2.2.1, x1.2.2.2), h, (wk_of (by kernel_rfl) (by kernel_rfl))⟩
 ·refine k_sreg (r_go [(0, .box (eCu a0)), (1, .d false [.sl none (a1.map (eF eI))]), (5, .ov false [.sl (some 3) []]), (9, .p (iV (a1.length : Int))), (10, .p (iV 0))] [(1, {n := some a1.length})] [(a1.map (eF eI)).length = a1.length] (by kernel_rfl) ⟨(List.length_map ..), trivial⟩) ?_
  refine k_block ?_
  obtain ⟨y18, hl_x17, hk_x17⟩ := bs' h
  clear h
  refine k_loop (J := fun (x : ((List Int) × Int × Int × (List Int) × Int)) => [(0, .box (eCu (x.1, x.2.1, x.2.2.1))), (1, .d false [.sl none (a1.map (eF eI))]), (5, .ov false [.sl (some 3) (x.2.2.2.1.map eI)]), (9, .p (iV (a1.length : Int))), (10, .p (iV x.2.2.2.2))]) hl_x17 (wk_of (by kernel_rfl) (by kernel_rfl)) (fun x17 o_x17 h hy_x17 => ?_)
  unfold spec_l1Cur_vectorFor_b1 at h
  refine k_sreg (r_go [(0, .box (eCu (x17.1, x17.2.1, x17.2.2.1))), (1, .d false [.sl none (a1.map (eF eI))]), (5, .ov false [.sl (some 3) (x17.2.2.2.1.map eI)]), (9, .p (iV (a1.length : Int))), (10, .p (iV x17.2.2.2.2)), (11, .p (.bool (decide (x17.2.2.2.2 < (a1.length : Int)))))] [] [] (by kernel_rfl) trivial) ?_
  refine k_seq ?_
  refine k_cond (b := (decide (x17.2.2.2.2 < (a1.length : Int)))) (by kernel_rfl) (fun hc5_18 => ?_) (fun hc5_18 => ?_)
  ·replace h := ite_t hc5_18 h
   refine k_skip ?_
   refine q_n ?_
   refine k_seq ?_
   refine k_block ?_
   replace h := bs' h
   obtain ⟨v20, hv20, h⟩ := h
   replace h := bs' h
   obtain ⟨v21, hv21, h⟩ := h
   replace h := bs' h
   obtain ⟨u22, hu22, h⟩ := h
   refine k_reg (r_go [(0, .box (eCu v21.2)), (1, .d false [.sl none (a1.map (eF eI))]), (5, .ov false [.sl (some 3) ((x17.2.2.2.1 ++ [v21.1]).map eI)]), (9, .p (iV (a1.length : Int))), (10, .p (iV x17.2.2.2.2))] [(4, {lend := some ([.d false [.sl none (([1000, 1000000]).map eI)]], [.p (iV v20.1)], .box (eCu v20.2), false), fix := some (15, .d false [.sl none (([1000, 1000000]).map eI)])}), (6, {lend := some ([.d false [.sl none (([1, 1, 2, 3, 5, v20.1]).map eI)]], [.p (iV v21.1)], .box (eCu v21.2), false), fix := some (17, .d false [.sl none (([1, 1, 2, 3, 5, v20.1]).map eI)])}), (8, {fix := some (20, .ov false [.sl (some 3) ((x17.2.2.2.1 ++ [v21.1]).map eI)])})] [([.d false [.sl none (eraL (([1000, 1000000]).map eI))]] : List Arg) = [.d false [.sl none (([1000, 1000000]).map eI)]], MeetsB Try.prog 121 (.box (eCu (x17.1, x17.2.1, x17.2.2.1))) [.d false [.sl none (([1000, 1000000]).map eI)]] [.p (iV v20.1)] (.box (eCu v20.2)), (!false || (List.all [.p (iV v20.1)] simpleR && wnS (.box (eCu v20.2)))) = true, (SV.d false (eraR [.sl (some 3) (([1000, 1000000]).map eI)]) : SV) = .d false [.sl none (([1000, 1000000]).map eI)], ([.d false [.sl none (eraL (([1, 1, 2, 3, 5, v20.1]).map eI))]] : List Arg) = [.d false [.sl none (([1, 1, 2, 3, 5, v20.1]).map eI)]], MeetsB Try.prog 121 (.box (eCu v20.2)) [.d false [.sl none (([1, 1, 2, 3, 5, v20.1]).map eI)]] [.p (iV v21.1)] (.box (eCu v21.2)), (!false || (List.all [.p (iV v21.1)] simpleR && wnS (.box (eCu v21.2)))) = true, (SV.d false (eraR [.sl (some 3) (([1, 1, 2, 3, 5, v20.1]).map eI)]) : SV) = .d false [.sl none (([1, 1, 2, 3, 5, v20.1]).map eI)], List.length ((x17.2.2.2.1.map eI) : List (List C)) + List.length ((([v21.1]).map eI) : List (List C)) ≤ 1099511627776, ∀ row ∈ ((([v21.1]).map eI) : List (List C)), row.length = 1, (SV.ov false [.sl (some 3) ((x17.2.2.2.1.map eI) ++ (([v21.1]).map eI))] : SV) = .ov false [.sl (some 3) ((x17.2.2.2.1 ++ [v21.1]).map eI)]] (by kernel_rfl) ⟨(by simp only [eraL_enc (h := eI) er_I]), (wk_spec_l1Cur_among hv20), rfl, (congrArg (fun z => SV.d false z) (erc_sl (eraL_enc er_I) rfl)), (by simp only [eraL_enc (h := eI) er_I]), (wk_spec_l1Cur_among hv21), rfl, (congrArg (fun z => SV.d false z) (erc_sl (eraL_enc er_I) rfl)), (by have hg := (guardO_some hu22); simpa using hg), (rows_len fun _ => rfl), (congrArg (fun z => SV.ov false [.sl (some 3) z]) (List.map_append ..).symm), trivial⟩) ?_
   refine b_n ?_
   refine q_n ?_
   refine k_reg (r_go [(0, .box (eCu v21.2)), (1, .d false [.sl none (a1.map (eF eI))]), (5, .ov false [.sl (some 3) ((x17.2.2.2.1 ++ [v21.1]).map eI)]), (9, .p (iV (a1.length : Int))), (10, .p (iV (w64 (x17.2.2.2.2 + 1))))] [] [] (by kernel_rfl) trivial) ?_
   exact lq_n (v21.2.1, v21.2.2.1, v21.2.2.2, (x17.2.2.2.1 ++ [v21.1]), (w64 (x17.2.2.2.2 + 1))) (oi h).symm (wk_of (by kernel_rfl) (by kernel_rfl))
  ·replace h := ite_f hc5_18 h
   refine k_exit ?_
   refine q_x ?_
   refine lq_x ?_
   refine b_x ?_
   have hyy := hy_x17 _ (oi h).symm
   subst hyy
   have h := hk_x17
   refine q_n ?_
   exact ⟨(x17.1, x17.2.1, x17.2.2.1, x17.2.2.2.1), h, (wk_of (by kernel_rfl) (by kernel_rfl))⟩
theorem wk_spec_raInt {a0 : Int}  {r : Qr} (h : spec_raInt a0 = some r) : Meets Try.prog 102 [wI a0] { vals := [.p (vRt r)] } := by
 refine Meets_ofL (by kernel_rfl) Try.func102 rfl (by kernel_rfl) (l0 := [(0, .p (iV a0))]) (by kernel_rfl) ?_
 unfold spec_raInt at h
 refine k_sreg (r_go [(0, .p (iV a0)), (2, .box [rI 0, rI 0])] [] [] (by kernel_rfl) trivial) ?_
 refine k_sreg (r_go [(2, .box [rI a0, rI 1])] [] [] (by kernel_rfl) trivial) ?_
 refine k_ret ?_
 obtain rfl := oi h
 exact e_ret (ls := [(.p (.agg #[.int .i64 a0, .int .i64 1]), 2)]) (by kernel_rfl) rfl (by kernel_rfl) rfl
theorem wk_spec_l1Cur_rat {a0 : ((List Int) × Int × Int)}  {r : (Qr × ((List Int) × Int × Int))} (h : spec_l1Cur_rat a0 = some r) : MeetsB Try.prog 98 (.box (eCu a0)) [] [.p (vRt r.1)] (.box (eCu r.2)) := by
 refine MeetsB_ofL (by kernel_rfl) Try.func98 rfl (by kernel_rfl) rfl (l0 := [(0, .box (eCu a0))]) (by kernel_rfl) ?_
 unfold spec_l1Cur_rat at h
 refine k_sreg (r_go [(0, .box (eCu a0)), (2, .box [rI 0, rI 0])] [] [] (by kernel_rfl) trivial) ?_
 replace h := bs' h
 obtain ⟨v1, hv1, h⟩ := h
 replace h := bs' h
 obtain ⟨v2, hv2, h⟩ := h
 replace h := bs' h
 obtain ⟨v3, hv3, h⟩ := h
 replace h := bs' h
 obtain ⟨v4, hv4, h⟩ := h
 replace h := bs' h
 obtain ⟨v5, hv5, h⟩ := h
 replace h := bs' h
 obtain ⟨v6, hv6, h⟩ := h
 replace h := bs' h
 obtain ⟨v7, hv7, h⟩ := h
 refine k_sreg (r_go [(0, .box (eCu v6.2)), (2, .box [rI 0, rI 0]), (3, .box (eRt v7.1)), (4, .p (.bool v7.2))] [(2, {lend := some ([wI 41], [.p (iV v1.1)], .box (eCu v1.2), false)}), (5, {lend := some ([wI 2001], [.p (iV v2.1)], .box (eCu v2.2), false)}), (8, {lend := some ([.d false [.sl none (([0, 1, 2, 3, (-1), (-5), (w64 (v1.1 - 20)), (w64 (v2.1 - 1000)), 1000000000, (-1000000000)]).map eI)]], [.p (iV v3.1)], .box (eCu v3.2), false), fix := some (13, .d false [.sl none (([0, 1, 2, 3, (-1), (-5), (w64 (v1.1 - 20)), (w64 (v2.1 - 1000)), 1000000000, (-1000000000)]).map eI)])}), (11, {lend := some ([wI 20], [.p (iV v4.1)], .box (eCu v4.2), false)}), (14, {lend := some ([wI 1000], [.p (iV v5.1)], .box (eCu v5.2), false)}), (17, {lend := some ([.d false [.sl none (([1, 2, 3, 4, 8, 7, (w64 (1 + v4.1)), (w64 (1 + v5.1)), 1000000000, 999999999]).map eI)]], [.p (iV v6.1)], .box (eCu v6.2), false), fix := some (22, .d false [.sl none (([1, 2, 3, 4, 8, 7, (w64 (1 + v4.1)), (w64 (1 + v5.1)), 1000000000, 999999999]).map eI)])}), (18, {call := some ([wI v3.1, wI v6.1], [.p (vRt v7.1), .p (.bool v7.2)], true)})] [([wI 41] : List Arg) = [wI 41], MeetsB Try.prog 101 (.box (eCu a0)) [wI 41] [.p (iV v1.1)] (.box (eCu v1.2)), (!false || (List.all [.p (iV v1.1)] simpleR && wnS (.box (eCu v1.2)))) = true, ([wI 2001] : List Arg) = [wI 2001], MeetsB Try.prog 101 (.box (eCu v1.2)) [wI 2001] [.p (iV v2.1)] (.box (eCu v2.2)), (!false || (List.all [.p (iV v2.1)] simpleR && wnS (.box (eCu v2.2)))) = true, ([.d false [.sl none (eraL (([0, 1, 2, 3, (-1), (-5), (w64 (v1.1 - 20)), (w64 (v2.1 - 1000)), 1000000000, (-1000000000)]).map eI))]] : List Arg) = [.d false [.sl none (([0, 1, 2, 3, (-1), (-5), (w64 (v1.1 - 20)), (w64 (v2.1 - 1000)), 1000000000, (-1000000000)]).map eI)]], MeetsB Try.prog 121 (.box (eCu v2.2)) [.d false [.sl none (([0, 1, 2, 3, (-1), (-5), (w64 (v1.1 - 20)), (w64 (v2.1 - 1000)), 1000000000, (-1000000000)]).map eI)]] [.p (iV v3.1)] (.box (eCu v3.2)), (!false || (List.all [.p (iV v3.1)] simpleR && wnS (.box (eCu v3.2)))) = true, (SV.d false (eraR [.sl (some 3) (([0, 1, 2, 3, (-1), (-5), (w64 (v1.1 - 20)), (w64 (v2.1 - 1000)), 1000000000, (-1000000000)]).map eI)]) : SV) = .d false [.sl none (([0, 1, 2, 3, (-1), (-5), (w64 (v1.1 - 20)), (w64 (v2.1 - 1000)), 1000000000, (-1000000000)]).map eI)], ([wI 20] : List Arg) = [wI 20], MeetsB Try.prog 101 (.box (eCu v3.2)) [wI 20] [.p (iV v4.1)] (.box (eCu v4.2)), (!false || (List.all [.p (iV v4.1)] simpleR && wnS (.box (eCu v4.2)))) = true, ([wI 1000] : List Arg) = [wI 1000], MeetsB Try.prog 101 (.box (eCu v4.2)) [wI 1000] [.p (iV v5.1)] (.box (eCu v5.2)), (!false || (List.all [.p (iV v5.1)] simpleR && wnS (.box (eCu v5.2)))) = true, ([.d false [.sl none (eraL (([1, 2, 3, 4, 8, 7, (w64 (1 + v4.1)), (w64 (1 + v5.1)), 1000000000, 999999999]).map eI))]] : List Arg) = [.d false [.sl none (([1, 2, 3, 4, 8, 7, (w64 (1 + v4.1)), (w64 (1 + v5.1)), 1000000000, 999999999]).map eI)]], MeetsB Try.prog 121 (.box (eCu v5.2)) [.d false [.sl none (([1, 2, 3, 4, 8, 7, (w64 (1 + v4.1)), (w64 (1 + v5.1)), 1000000000, 999999999]).map eI)]] [.p (iV v6.1)] (.box (eCu v6.2)), (!false || (List.all [.p (iV v6.1)] simpleR && wnS (.box (eCu v6.2)))) = true, (SV.d false (eraR [.sl (some 3) (([1, 2, 3, 4, 8, 7, (w64 (1 + v4.1)), (w64 (1 + v5.1)), 1000000000, 999999999]).map eI)]) : SV) = .d false [.sl none (([1, 2, 3, 4, 8, 7, (w64 (1 + v4.1)), (w64 (1 + v5.1)), 1000000000, 999999999]).map eI)], ([wI v3.1, wI v6.1] : List Arg) = [wI v3.1, wI v6.1], Meets Try.prog 141 ([wI v3.1, wI v6.1] ++ []) { vals := [.p (vRt v7.1), .p (.bool v7.2)] }, (!true || List.all [.p (vRt v7.1), .p (.bool v7.2)] simpleR) = true] (by kernel_rfl) ⟨rfl, (wk_spec_l1Cur_pick hv1), rfl, rfl, (wk_spec_l1Cur_pick hv2), rfl, (by simp only [eraL_enc (h := eI) er_I]), (wk_spec_l1Cur_among hv3), rfl, (congrArg (fun z => SV.d false z) (erc_sl (eraL_enc er_I) rfl)), rfl, (wk_spec_l1Cur_pick hv4), rfl, rfl, (wk_spec_l1Cur_pick hv5), rfl, (by simp only [eraL_enc (h := eI) er_I]), (wk_spec_l1Cur_among hv6), rfl, (congrArg (fun z => SV.d false z) (erc_sl (eraL_enc er_I) rfl)), rfl, (wk_spec_raMake hv7), (bt rfl), trivial⟩) ?_
 refine k_seq ?_
 refine k_sreg (r_go [(0, .box (eCu v6.2)), (2, .box [rI 0, rI 0]), (3, .box (eRt v7.1)), (28, .p (.bool (!v7.2)))] [] [] (by kernel_rfl) trivial) ?_
 refine k_cond (b := (!v7.2)) (by kernel_rfl) (fun hc2_7 => ?_) (fun hc2_7 => ?_)
 ·replace h := ite_t hc2_7 h
  replace h := bs' h
  obtain ⟨v9, hv9, h⟩ := h
  refine k_sreg (r_go [(0, .box (eCu v6.2)), (2, .box (eRt v9))] [(0, {call := some ([wI 1], [.p (vRt v9)], true)})] [([wI 1] : List Arg) = [wI 1], Meets Try.prog 102 ([wI 1] ++ []) { vals := [.p (vRt v9)] }, (!true || List.all [.p (vRt v9)] simpleR) = true] (by kernel_rfl) ⟨rfl, (wk_spec_raInt hv9), (bt rfl), trivial⟩) ?_
  refine k_ret ?_
  refine q_r ?_
  obtain rfl := oi h
  exact eb_ret (ls := [(.p (vRt v9), 2)]) (by kernel_rfl) rfl rfl (by kernel_rfl) (by kernel_rfl)
 ·replace h := ite_f hc2_7 h
  refine k_skip ?_
  refine q_n ?_
  refine k_sreg (r_go [(0, .box (eCu v6.2)), (2, .box (eRt v7.1))] [] [] (by kernel_rfl) trivial) ?_
  refine k_ret ?_
  obtain rfl := oi h
  exact eb_ret (ls := [(.p (vRt v7.1), 2)]) (by kernel_rfl) rfl rfl (by kernel_rfl) (by kernel_rfl)
theorem wk_spec_gwAsked {a0 : (List (List Int))} {a1 : (List Int)}  {r : Bool} (h : spec_gwAsked a0 a1 = some r) : Meets Try.prog 99 [.d false [.sl none (a0.map (eF eI))], .d false [.sl none (a1.map eI)]] { vals := [.p (.bool r)] } := by
 refine Meets_ofL (by kernel_rfl) Try.func99 rfl (by kernel_rfl) (l0 := [(0, .d false [.sl none (a0.map (eF eI))]), (1, .d false [.sl none (a1.map eI)])]) (by kernel_rfl) ?_
 unfold spec_gwAsked at h
 refine k_sreg (r_go [(0, .d false [.sl none (a0.map (eF eI))]), (1, .d false [.sl none (a1.map eI)])] [] [] (by kernel_rfl) trivial) ?_
 replace h := bs' h
 obtain ⟨v1, hv1, h⟩ := h
 replace h := bs' h
 obtain ⟨w3, hw3, h⟩ := h
 refine k_sreg (l1 := [(4, .p (.bool w3))]) ?_ ?_
 ·clear h
  rcases ft v1 with ha0 | ha0
  ·replace hw3 := ite_t ha0 hw3
   replace hw3 := bs' hw3
   obtain ⟨v2, hv2, hw3⟩ := hw3
   rcases ft v2 with ha1 | ha1
   ·replace hw3 := ite_t ha1 hw3
    have hw3 := oi hw3
    subst hw3
    exact (r_go [(4, .p (.bool ((a1.length : Int) == (a0.length : Int))))] [(1, {call := some ([.d false [.sl none (a0.map (eF eI))]], [.p (.bool v1)], true)}), (3, {g := some true}), (4, {g := some true, call := some ([.d false [.sl none (a1.map eI)]], [.p (.bool v2)], true)}), (5, {b := some true}), (7, {g := some true}), (8, {g := some true, n := some a1.length}), (9, {g := some true}), (10, {g := some true, n := some a0.length}), (11, {g := some true}), (12, {b := some true})] [([.d false [.sl none (a0.map (eF eI))]] : List Arg) = [.d false [.sl none (a0.map (eF eI))]], Meets Try.prog 65 ([.d false [.sl none (a0.map (eF eI))]] ++ []) { vals := [.p (.bool v1)] }, (!true || List.all [.p (.bool v1)] simpleR) = true, v1 = true, v1 = true, ([.d false [.sl none (a1.map eI)]] : List Arg) = [.d false [.sl none (a1.map eI)]], Meets Try.prog 113 ([.d false [.sl none (a1.map eI)]] ++ []) { vals := [.p (.bool v2)] }, (!true || List.all [.p (.bool v2)] simpleR) = true, v1 = true, v2 = true, v2 = true, (a1.map eI).length = a1.length, v2 = true, v2 = true, (a0.map (eF eI)).length = a0.length, v2 = true, v2 = true] (by kernel_rfl) ⟨rfl, (wk_spec_grGood hv1), (bt rfl), ha0, ha0, rfl, (wk_spec_gwVector hv2), (bt rfl), ha0, ha1, ha1, (List.length_map ..), ha1, ha1, (List.length_map ..), ha1, ha1, trivial⟩)
   ·replace hw3 := ite_f ha1 hw3
    have hw3 := oi hw3
    subst hw3
    exact (r_go [(4, .p (.bool false))] [(1, {call := some ([.d false [.sl none (a0.map (eF eI))]], [.p (.bool v1)], true)}), (3, {g := some true}), (4, {g := some true, call := some ([.d false [.sl none (a1.map eI)]], [.p (.bool v2)], true)}), (5, {b := some true}), (7, {g := some false}), (8, {g := some false}), (9, {g := some false}), (10, {g := some false}), (11, {g := some false}), (12, {b := some false})] [([.d false [.sl none (a0.map (eF eI))]] : List Arg) = [.d false [.sl none (a0.map (eF eI))]], Meets Try.prog 65 ([.d false [.sl none (a0.map (eF eI))]] ++ []) { vals := [.p (.bool v1)] }, (!true || List.all [.p (.bool v1)] simpleR) = true, v1 = true, v1 = true, ([.d false [.sl none (a1.map eI)]] : List Arg) = [.d false [.sl none (a1.map eI)]], Meets Try.prog 113 ([.d false [.sl none (a1.map eI)]] ++ []) { vals := [.p (.bool v2)] }, (!true || List.all [.p (.bool v2)] simpleR) = true, v1 = true, v2 = false, v2 = false, v2 = false, v2 = false, v2 = false, v2 = false] (by kernel_rfl) ⟨rfl, (wk_spec_grGood hv1), (bt rfl), ha0, ha0, rfl, (wk_spec_gwVector hv2), (bt rfl), ha0, ha1, ha1, ha1, ha1, ha1, ha1, trivial⟩)
  ·replace hw3 := ite_f ha0 hw3
   have hw3 := oi hw3
   subst hw3
   exact (r_go [(4, .p (.bool false))] [(1, {call := some ([.d false [.sl none (a0.map (eF eI))]], [.p (.bool v1)], true)}), (3, {g := some false}), (4, {g := some false}), (5, {b := some false}), (7, {g := some false}), (8, {g := some false}), (9, {g := some false}), (10, {g := some false}), (11, {g := some false}), (12, {b := some false})] [([.d false [.sl none (a0.map (eF eI))]] : List Arg) = [.d false [.sl none (a0.map (eF eI))]], Meets Try.prog 65 ([.d false [.sl none (a0.map (eF eI))]] ++ []) { vals := [.p (.bool v1)] }, (!true || List.all [.p (.bool v1)] simpleR) = true, v1 = false, v1 = false, v1 = false, false = false, false = false, false = false, false = false, false = false, false = false] (by kernel_rfl) ⟨rfl, (wk_spec_grGood hv1), (bt rfl), ha0, ha0, ha0, rfl, rfl, rfl, rfl, rfl, rfl, trivial⟩)
 ·refine k_ret ?_
  obtain rfl := oi h
  exact e_ret (ls := [(.p (.bool w3), 4)]) (by kernel_rfl) rfl (by kernel_rfl) rfl
theorem wk_spec_raDown {a0 : Int} {a1 : Int}  {r : Int} (h : spec_raDown a0 a1 = some r) : Meets Try.prog 143 [wI a0, wI a1] { vals := [.p (iV r)] } := by
 refine Meets_ofL (by kernel_rfl) Try.func143 rfl (by kernel_rfl) (l0 := [(0, .p (iV a0)), (1, .p (iV a1))]) (by kernel_rfl) ?_
 unfold spec_raDown at h
 refine k_sreg (r_go [(0, .p (iV a0)), (1, .p (iV a1))] [] [] (by kernel_rfl) trivial) ?_
 refine k_seq ?_
 refine k_sreg (r_go [(0, .p (iV a0)), (1, .p (iV a1)), (7, .p (.bool (a1 == 0)))] [] [] (by kernel_rfl) trivial) ?_
 refine k_cond (b := (a1 == 0)) (by kernel_rfl) (fun hc2_0 => ?_) (fun hc2_0 => ?_)
 ·replace h := ite_t hc2_0 h
  refine k_sreg (r_go [(4, .p (iV 0))] [] [] (by kernel_rfl) trivial) ?_
  refine k_ret ?_
  refine q_r ?_
  obtain rfl := oi h
  exact e_ret (ls := [(.p (iV 0), 4)]) (by kernel_rfl) rfl (by kernel_rfl) rfl
 ·replace h := ite_f hc2_0 h
  refine k_skip ?_
  refine q_n ?_
  replace h := bs' h
  obtain ⟨u2, hu2, h⟩ := h
  refine k_sreg (r_go [(0, .p (iV a0)), (1, .p (iV a1)), (5, .p (iV (w64 (Int.tdiv a0 a1))))] [] [a1 ≠ (0 : Int)] (by kernel_rfl) ⟨(guardO_some hu2), trivial⟩) ?_
  refine k_seq ?_
  refine k_sreg (r_go [(5, .p (iV (w64 (Int.tdiv a0 a1)))), (14, .p (.bool (decide ((Int.tmod a0 a1) < 0))))] [] [a1 ≠ (0 : Int)] (by kernel_rfl) ⟨(guardO_some hu2), trivial⟩) ?_
  refine k_cond (b := (decide ((Int.tmod a0 a1) < 0))) (by kernel_rfl) (fun hc2_2 => ?_) (fun hc2_2 => ?_)
  ·replace h := ite_t hc2_2 h
   refine k_reg (r_go [(5, .p (iV (w64 ((w64 (Int.tdiv a0 a1)) - 1))))] [] [] (by kernel_rfl) trivial) ?_
   refine q_n ?_
   refine k_sreg (r_go [(4, .p (iV (w64 ((w64 (Int.tdiv a0 a1)) - 1))))] [] [] (by kernel_rfl) trivial) ?_
   refine k_ret ?_
   obtain rfl := oi h
   exact e_ret (ls := [(.p (iV (w64 ((w64 (Int.tdiv a0 a1)) - 1))), 4)]) (by kernel_rfl) rfl (by kernel_rfl) rfl
  ·replace h := ite_f hc2_2 h
   refine k_skip ?_
   refine q_n ?_
   refine k_sreg (r_go [(4, .p (iV (w64 (Int.tdiv a0 a1))))] [] [] (by kernel_rfl) trivial) ?_
   refine k_ret ?_
   obtain rfl := oi h
   exact e_ret (ls := [(.p (iV (w64 (Int.tdiv a0 a1))), 4)]) (by kernel_rfl) rfl (by kernel_rfl) rfl
theorem wk_spec_raFloor {a0 : Qr}  {r : Int} (h : spec_raFloor a0 = some r) : Meets Try.prog 103 [.v (vRt a0)] { vals := [.p (iV r)] } := by
 refine Meets_ofL (by kernel_rfl) Try.func103 rfl (by kernel_rfl) (l0 := [(0, .p (vRt a0))]) (by kernel_rfl) ?_
 unfold spec_raFloor at h
 refine k_sreg (r_go [(1, .box (eRt a0))] [] [] (by kernel_rfl) trivial) ?_
 replace h := bs' h
 obtain ⟨v1, hv1, h⟩ := h
 refine k_sreg (r_go [(2, .p (iV v1))] [(4, {call := some ([wI a0.1, wI a0.2], [.p (iV v1)], true)})] [([wI a0.1, wI a0.2] : List Arg) = [wI a0.1, wI a0.2], Meets Try.prog 143 ([wI a0.1, wI a0.2] ++ []) { vals := [.p (iV v1)] }, (!true || List.all [.p (iV v1)] simpleR) = true] (by kernel_rfl) ⟨rfl, (wk_spec_raDown hv1), (bt rfl), trivial⟩) ?_
 refine k_ret ?_
 obtain rfl := oi h
 exact e_ret (ls := [(.p (iV v1), 2)]) (by kernel_rfl) rfl (by kernel_rfl) rfl
theorem wk_spec_l1Cur_anyRat {a0 : ((List Int) × Int × Int)}  {r : (Qr × ((List Int) × Int × Int))} (h : spec_l1Cur_anyRat a0 = some r) : MeetsB Try.prog 104 (.box (eCu a0)) [] [.p (vRt r.1)] (.box (eCu r.2)) := by
 refine MeetsB_ofL (by kernel_rfl) Try.func104 rfl (by kernel_rfl) rfl (l0 := [(0, .box (eCu a0))]) (by kernel_rfl) ?_
 unfold spec_l1Cur_anyRat at h
 refine k_sreg (r_go [(0, .box (eCu a0)), (2, .box [rI 0, rI 0])] [] [] (by kernel_rfl) trivial) ?_
 replace h := bs' h
 obtain ⟨v1, hv1, h⟩ := h
 refine k_sreg (r_go [(0, .box (eCu v1.2)), (2, .box [rI 0, rI 0]), (3, .box (eRt v1.1))] [(1, {lend := some ([], [.p (vRt v1.1)], .box (eCu v1.2), false)})] [([] : List Arg) = [], MeetsB Try.prog 98 (.box (eCu a0)) [] [.p (vRt v1.1)] (.box (eCu v1.2)), (!false || (List.all [.p (vRt v1.1)] simpleR && wnS (.box (eCu v1.2)))) = true] (by kernel_rfl) ⟨rfl, (wk_spec_l1Cur_rat hv1), rfl, trivial⟩) ?_
 refine k_seq ?_
 replace h := bs' h
 obtain ⟨v2, hv2, h⟩ := h
 refine k_sreg (r_go [(0, .box (eCu v2.2)), (2, .box [rI 0, rI 0]), (3, .box (eRt v1.1)), (7, .p (iV v2.1))] [(1, {lend := some ([wI 40], [.p (iV v2.1)], .box (eCu v2.2), false)})] [([wI 40] : List Arg) = [wI 40], MeetsB Try.prog 101 (.box (eCu v1.2)) [wI 40] [.p (iV v2.1)] (.box (eCu v2.2)), (!false || (List.all [.p (iV v2.1)] simpleR && wnS (.box (eCu v2.2)))) = true] (by kernel_rfl) ⟨rfl, (wk_spec_l1Cur_pick hv2), rfl, trivial⟩) ?_
 refine k_block ?_
 refine k_sreg (r_go [(0, .box (eCu v2.2)), (2, .box [rI 0, rI 0]), (3, .box (eRt v1.1)), (7, .p (iV v2.1)), (8, .p (.bool (v2.1 == 0)))] [] [] (by kernel_rfl) trivial) ?_
 refine k_cond (b := (v2.1 == 0)) (by kernel_rfl) (fun hc3_2 => ?_) (fun hc3_2 => ?_)
 ·replace h := ite_t hc3_2 h
  replace h := bs' h
  obtain ⟨v4, hv4, h⟩ := h
  refine k_reg (r_go [(0, .box (eCu v4.2)), (2, .box [rI 0, rI 0]), (3, .box [rI v1.1.1, rI v4.1])] [(2, {lend := some ([.d false [.sl none (([0, (-1), 1000000001]).map eI)]], [.p (iV v4.1)], .box (eCu v4.2), false), fix := some (11, .d false [.sl none (([0, (-1), 1000000001]).map eI)])})] [([.d false [.sl none (eraL (([0, (-1), 1000000001]).map eI))]] : List Arg) = [.d false [.sl none (([0, (-1), 1000000001]).map eI)]], MeetsB Try.prog 121 (.box (eCu v2.2)) [.d false [.sl none (([0, (-1), 1000000001]).map eI)]] [.p (iV v4.1)] (.box (eCu v4.2)), (!false || (List.all [.p (iV v4.1)] simpleR && wnS (.box (eCu v4.2)))) = true, (SV.d false (eraR [.sl (some 3) (([0, (-1), 1000000001]).map eI)]) : SV) = .d false [.sl none (([0, (-1), 1000000001]).map eI)]] (by kernel_rfl) ⟨(by simp only [eraL_enc (h := eI) er_I]), (wk_spec_l1Cur_among hv4), rfl, (congrArg (fun z => SV.d false z) (erc_sl (eraL_enc er_I) rfl)), trivial⟩) ?_
  refine b_n ?_
  refine q_n ?_
  refine k_sreg (r_go [(0, .box (eCu v4.2)), (2, .box [rI v1.1.1, rI v4.1])] [] [] (by kernel_rfl) trivial) ?_
  refine k_ret ?_
  obtain rfl := oi h
  exact eb_ret (ls := [(.p (.agg #[.int .i64 v1.1.1, .int .i64 v4.1]), 2)]) (by kernel_rfl) rfl rfl (by kernel_rfl) (by kernel_rfl)
 ·replace h := ite_f hc3_2 h
  refine k_sreg (r_go [(0, .box (eCu v2.2)), (2, .box [rI 0, rI 0]), (3, .box (eRt v1.1)), (7, .p (iV v2.1)), (14, .p (.bool (v2.1 == 1)))] [] [] (by kernel_rfl) trivial) ?_
  refine k_cond (b := (v2.1 == 1)) (by kernel_rfl) (fun hc3_4 => ?_) (fun hc3_4 => ?_)
  ·replace h := ite_t hc3_4 h
   replace h := bs' h
   obtain ⟨v6, hv6, h⟩ := h
   refine k_reg (r_go [(0, .box (eCu v6.2)), (2, .box [rI 0, rI 0]), (3, .box [rI v6.1, rI v1.1.2])] [(2, {lend := some ([.d false [.sl none (([1000000001, (-1000000001), (-9223372036854775808)]).map eI)]], [.p (iV v6.1)], .box (eCu v6.2), false), fix := some (17, .d false [.sl none (([1000000001, (-1000000001), (-9223372036854775808)]).map eI)])})] [([.d false [.sl none (eraL (([1000000001, (-1000000001), (-9223372036854775808)]).map eI))]] : List Arg) = [.d false [.sl none (([1000000001, (-1000000001), (-9223372036854775808)]).map eI)]], MeetsB Try.prog 121 (.box (eCu v2.2)) [.d false [.sl none (([1000000001, (-1000000001), (-9223372036854775808)]).map eI)]] [.p (iV v6.1)] (.box (eCu v6.2)), (!false || (List.all [.p (iV v6.1)] simpleR && wnS (.box (eCu v6.2)))) = true, (SV.d false (eraR [.sl (some 3) (([1000000001, (-1000000001), (-9223372036854775808)]).map eI)]) : SV) = .d false [.sl none (([1000000001, (-1000000001), (-9223372036854775808)]).map eI)]] (by kernel_rfl) ⟨(by simp only [eraL_enc (h := eI) er_I]), (wk_spec_l1Cur_among hv6), rfl, (congrArg (fun z => SV.d false z) (erc_sl (eraL_enc er_I) rfl)), trivial⟩) ?_
   refine b_n ?_
   refine q_n ?_
   refine k_sreg (r_go [(0, .box (eCu v6.2)), (2, .box [rI v6.1, rI v1.1.2])] [] [] (by kernel_rfl) trivial) ?_
   refine k_ret ?_
   obtain rfl := oi h
   exact eb_ret (ls := [(.p (.agg #[.int .i64 v6.1, .int .i64 v1.1.2]), 2)]) (by kernel_rfl) rfl rfl (by kernel_rfl) (by kernel_rfl)
  ·replace h := ite_f hc3_4 h
   refine k_sreg (r_go [(0, .box (eCu v2.2)), (2, .box [rI 0, rI 0]), (3, .box (eRt v1.1)), (20, .p (.bool (v2.1 == 2)))] [] [] (by kernel_rfl) trivial) ?_
   refine k_cond (b := (v2.1 == 2)) (by kernel_rfl) (fun hc3_6 => ?_) (fun hc3_6 => ?_)
   ·replace h := ite_t hc3_6 h
    replace h := bs' h
    obtain ⟨v8, hv8, h⟩ := h
    replace h := bs' h
    obtain ⟨v9, hv9, h⟩ := h
    refine k_reg (r_go [(0, .box (eCu v9.2)), (2, .box [rI 0, rI 0]), (3, .box [rI v8.1, rI v9.1])] [(2, {lend := some ([.d false [.sl none (([2, 0, (-4)]).map eI)]], [.p (iV v8.1)], .box (eCu v8.2), false), fix := some (23, .d false [.sl none (([2, 0, (-4)]).map eI)])}), (5, {lend := some ([.d false [.sl none (([2, 4, 6]).map eI)]], [.p (iV v9.1)], .box (eCu v9.2), false), fix := some (26, .d false [.sl none (([2, 4, 6]).map eI)])})] [([.d false [.sl none (eraL (([2, 0, (-4)]).map eI))]] : List Arg) = [.d false [.sl none (([2, 0, (-4)]).map eI)]], MeetsB Try.prog 121 (.box (eCu v2.2)) [.d false [.sl none (([2, 0, (-4)]).map eI)]] [.p (iV v8.1)] (.box (eCu v8.2)), (!false || (List.all [.p (iV v8.1)] simpleR && wnS (.box (eCu v8.2)))) = true, (SV.d false (eraR [.sl (some 3) (([2, 0, (-4)]).map eI)]) : SV) = .d false [.sl none (([2, 0, (-4)]).map eI)], ([.d false [.sl none (eraL (([2, 4, 6]).map eI))]] : List Arg) = [.d false [.sl none (([2, 4, 6]).map eI)]], MeetsB Try.prog 121 (.box (eCu v8.2)) [.d false [.sl none (([2, 4, 6]).map eI)]] [.p (iV v9.1)] (.box (eCu v9.2)), (!false || (List.all [.p (iV v9.1)] simpleR && wnS (.box (eCu v9.2)))) = true, (SV.d false (eraR [.sl (some 3) (([2, 4, 6]).map eI)]) : SV) = .d false [.sl none (([2, 4, 6]).map eI)]] (by kernel_rfl) ⟨(by simp only [eraL_enc (h := eI) er_I]), (wk_spec_l1Cur_among hv8), rfl, (congrArg (fun z => SV.d false z) (erc_sl (eraL_enc er_I) rfl)), (by simp only [eraL_enc (h := eI) er_I]), (wk_spec_l1Cur_among hv9), rfl, (congrArg (fun z => SV.d false z) (erc_sl (eraL_enc er_I) rfl)), trivial⟩) ?_
    refine b_n ?_
    refine q_n ?_
    refine k_sreg (r_go [(0, .box (eCu v9.2)), (2, .box [rI v8.1, rI v9.1])] [] [] (by kernel_rfl) trivial) ?_
    refine k_ret ?_
    obtain rfl := oi h
    exact eb_ret (ls := [(.p (.agg #[.int .i64 v8.1, .int .i64 v9.1]), 2)]) (by kernel_rfl) rfl rfl (by kernel_rfl) (by kernel_rfl)
   ·replace h := ite_f hc3_6 h
    refine k_skip ?_
    refine b_n ?_
    refine q_n ?_
    refine k_sreg (r_go [(0, .box (eCu v2.2)), (2, .box (eRt v1.1))] [] [] (by kernel_rfl) trivial) ?_
    refine k_ret ?_
    obtain rfl := oi h
    exact eb_ret (ls := [(.p (vRt v1.1), 2)]) (by kernel_rfl) rfl rfl (by kernel_rfl) (by kernel_rfl)
theorem wk_spec_DrawIsGrowthBound {a0 : (List Int)}  {r : ((List (List Int)) × (List Int) × Qr × Qr)} (h : spec_DrawIsGrowthBound a0 = some r) : Meets Try.prog 34 [.d false [.sl none (a0.map (eU .u8))]] { vals := [.d false [.sl none (r.1.map (eF eI))], .d false [.sl none (r.2.1.map eI)], .p (vRt r.2.2.1), .p (vRt r.2.2.2)] } := by
 refine Meets_ofL (by kernel_rfl) Try.func34 rfl (by kernel_rfl) (l0 := [(0, .d false [.sl none (a0.map (eU .u8))])]) (by kernel_rfl) ?_
 unfold spec_DrawIsGrowthBound at h
 refine k_sreg (r_go [(0, .d false [.sl none (a0.map (eU .u8))]), (4, .box [rI 0, rI 0]), (5, .box [rI 0, rI 0])] [] [] (by kernel_rfl) trivial) ?_
 refine k_sreg (r_go [(4, .box [rI 0, rI 0]), (5, .box [rI 0, rI 0]), (6, .addr 13 [(0, 0)]), (13, .box (eCu (a0, 0, 0)))] [] [] (by kernel_rfl) trivial) ?_
 replace h := bs' h
 obtain ⟨v1, hv1, h⟩ := h
 refine k_sreg (r_go [(4, .box [rI 0, rI 0]), (5, .box [rI 0, rI 0]), (6, .addr 13 [(0, 0)]), (7, .ov false [.sl (some 26) (v1.1.map (eO 3 eI))]), (13, .box (eCu v1.2))] [(1, {lend := some ([], [.ov false [.sl (some 26) (v1.1.map (eO 3 eI))]], .box (eCu v1.2), false)})] [([] : List Arg) = [], MeetsB Try.prog 96 (.box (eCu (a0, 0, 0))) [] [.ov false [.sl (some 26) (v1.1.map (eO 3 eI))]] (.box (eCu v1.2)), (!false || (List.all [.ov false [.sl (some 26) (v1.1.map (eO 3 eI))]] simpleR && wnS (.box (eCu v1.2)))) = true] (by kernel_rfl) ⟨rfl, (wk_spec_l1Cur_anyGraph hv1), rfl, trivial⟩) ?_
 replace h := bs' h
 obtain ⟨v2, hv2, h⟩ := h
 refine k_sreg (r_go [(4, .box [rI 0, rI 0]), (5, .box [rI 0, rI 0]), (6, .addr 13 [(0, 0)]), (7, .d false [.sl none (v1.1.map (eF eI))]), (8, .d false [.sl none (v2.1.map eI)]), (13, .box (eCu v2.2))] [(2, {lend := some ([.d false [.sl none (v1.1.map (eF eI))]], [.ov false [.sl (some 3) (v2.1.map eI)]], .box (eCu v2.2), false), fix := some (7, .d false [.sl none (v1.1.map (eF eI))])}), (3, {pre := some (18, .d false [.sl none (v2.1.map eI)])})] [([.d false [.sl none (eraL (v1.1.map (eO 3 eI)))]] : List Arg) = [.d false [.sl none (v1.1.map (eF eI))]], MeetsB Try.prog 97 (.box (eCu v1.2)) [.d false [.sl none (v1.1.map (eF eI))]] [.ov false [.sl (some 3) (v2.1.map eI)]] (.box (eCu v2.2)), (!false || (List.all [.ov false [.sl (some 3) (v2.1.map eI)]] simpleR && wnS (.box (eCu v2.2)))) = true, (SV.d false (eraR [.sl (some 26) (v1.1.map (eO 3 eI))]) : SV) = .d false [.sl none (v1.1.map (eF eI))], (SV.d false (eraR [.sl (some 3) (v2.1.map eI)]) : SV) = .d false [.sl none (v2.1.map eI)]] (by kernel_rfl) ⟨(by simp only [eraL_enc (h := (eF eI)) (era_O er_I)]), (wk_spec_l1Cur_vectorFor hv2), rfl, (congrArg (fun z => SV.d false z) (erc_sl (eraL_enc (era_O er_I)) rfl)), (congrArg (fun z => SV.d false z) (erc_sl (eraL_enc er_I) rfl)), trivial⟩) ?_
 replace h := bs' h
 obtain ⟨v3, hv3, h⟩ := h
 replace h := bs' h
 obtain ⟨v4, hv4, h⟩ := h
 refine k_sreg (r_go [(4, .box [rI 0, rI 0]), (5, .box [rI 0, rI 0]), (6, .addr 13 [(0, 0)]), (7, .d false [.sl none (v1.1.map (eF eI))]), (8, .d false [.sl none (v2.1.map eI)]), (9, .box (eRt v3.1)), (10, .box (eRt v4.1)), (13, .box (eCu v4.2))] [(1, {lend := some ([], [.p (vRt v3.1)], .box (eCu v3.2), false)}), (3, {lend := some ([], [.p (vRt v4.1)], .box (eCu v4.2), false)})] [([] : List Arg) = [], MeetsB Try.prog 98 (.box (eCu v2.2)) [] [.p (vRt v3.1)] (.box (eCu v3.2)), (!false || (List.all [.p (vRt v3.1)] simpleR && wnS (.box (eCu v3.2)))) = true, ([] : List Arg) = [], MeetsB Try.prog 98 (.box (eCu v3.2)) [] [.p (vRt v4.1)] (.box (eCu v4.2)), (!false || (List.all [.p (vRt v4.1)] simpleR && wnS (.box (eCu v4.2)))) = true] (by kernel_rfl) ⟨rfl, (wk_spec_l1Cur_rat hv3), rfl, rfl, (wk_spec_l1Cur_rat hv4), rfl, trivial⟩) ?_
 refine k_join (J := fun (x : (Int × Int × Int × Int × (List Int) × Int × Int)) => [(4, .box [rI 0, rI 0]), (5, .box [rI 0, rI 0]), (6, .addr 13 [(0, 0)]), (7, .d false [.sl none (v1.1.map (eF eI))]), (8, .d false [.sl none (v2.1.map eI)]), (9, .box [rI x.1, rI x.2.1]), (10, .box [rI x.2.2.1, rI x.2.2.2.1]), (13, .box (eCu x.2.2.2.2))]) (K := fun x => spec_DrawIsGrowthBound_k1 v1 v2 x = some r) (fun x5 h => ?_) ?_
 ·unfold spec_DrawIsGrowthBound_k1 at h
  refine k_join (J := fun (x : Qr) => [(4, .box [rI 0, rI 0]), (5, .box [rI 0, rI 0]), (7, .d false [.sl none (v1.1.map (eF eI))]), (8, .d false [.sl none (v2.1.map eI)]), (9, .box (eRt x)), (10, .box [rI x5.2.2.1, rI x5.2.2.2.1])]) (K := fun x => spec_DrawIsGrowthBound_k2 v1 v2 x5 x = some r) (fun x6 h => ?_) ?_
  ·unfold spec_DrawIsGrowthBound_k2 at h
   refine k_sreg (r_draw Try_mixed 7 [(6, 4)] [(2, .d false [.sl none (v1.1.map (eF eI))]), (3, .d false [.sl none (v2.1.map eI)]), (4, .box (eRt x6)), (5, .box [rI x5.2.2.1, rI x5.2.2.2.1])] [] [] (by kernel_rfl) trivial) ?_
   refine k_ret ?_
   obtain rfl := oi h
   exact e_ret (ls := [(.d false [.sl none (v1.1.map (eF eI))], 2), (.d false [.sl none (v2.1.map eI)], 3), (.p (vRt x6), 4), (.p (.agg #[.int .i64 x5.2.2.1, .int .i64 x5.2.2.2.1]), 5)]) (by kernel_rfl) rfl (by kernel_rfl) rfl
  ·replace h := bs' h
   obtain ⟨v7, hv7, h⟩ := h
   refine k_sreg (r_go [(4, .box [rI 0, rI 0]), (5, .box [rI 0, rI 0]), (6, .addr 13 [(0, 0)]), (7, .d false [.sl none (v1.1.map (eF eI))]), (8, .d false [.sl none (v2.1.map eI)]), (9, .box [rI x5.1, rI x5.2.1]), (10, .box [rI x5.2.2.1, rI x5.2.2.2.1]), (13, .box (eCu v7.2)), (50, .p (.bool v7.1))] [(1, {lend := some ([wI 16], [.p (.bool v7.1)], .box (eCu v7.2), false)})] [([wI 16] : List Arg) = [wI 16], MeetsB Try.prog 100 (.box (eCu x5.2.2.2.2)) [wI 16] [.p (.bool v7.1)] (.box (eCu v7.2)), (!false || (List.all [.p (.bool v7.1)] simpleR && wnS (.box (eCu v7.2)))) = true] (by kernel_rfl) ⟨rfl, (wk_spec_l1Cur_one hv7), rfl, trivial⟩) ?_
   refine k_cond (b := v7.1) (by kernel_rfl) (fun hc2_7 => ?_) (fun hc2_7 => ?_)
   ·replace h := ite_t hc2_7 h
    replace h := bs' h
    obtain ⟨v9, hv9, h⟩ := h
    refine k_reg (r_go [(4, .box [rI 0, rI 0]), (5, .box [rI 0, rI 0]), (7, .d false [.sl none (v1.1.map (eF eI))]), (8, .d false [.sl none (v2.1.map eI)]), (9, .box (eRt v9.1)), (10, .box [rI x5.2.2.1, rI x5.2.2.2.1])] [(1, {lend := some ([], [.p (vRt v9.1)], .box (eCu v9.2), false)})] [([] : List Arg) = [], MeetsB Try.prog 104 (.box (eCu v7.2)) [] [.p (vRt v9.1)] (.box (eCu v9.2)), (!false || (List.all [.p (vRt v9.1)] simpleR && wnS (.box (eCu v9.2)))) = true] (by kernel_rfl) ⟨rfl, (wk_spec_l1Cur_anyRat hv9), rfl, trivial⟩) ?_
    refine q_n ?_
    exact ⟨v9.1, h, (wk_of (by kernel_rfl) (by kernel_rfl))⟩
   ·replace h := ite_f hc2_7 h
    refine k_skip ?_
    refine q_n ?_
    exact ⟨(x5.1, x5.2.1), h, (wk_of (by kernel_rfl) (by kernel_rfl))⟩
 ·replace h := bs' h
  obtain ⟨v10, hv10, h⟩ := h
  replace h := bs' h
  obtain ⟨w12, hw12, h⟩ := h
  refine k_sreg (l1 := [(4, .box [rI 0, rI 0]), (5, .box [rI 0, rI 0]), (6, .addr 13 [(0, 0)]), (7, .d false [.sl none (v1.1.map (eF eI))]), (8, .d false [.sl none (v2.1.map eI)]), (9, .box (eRt v3.1)), (10, .box (eRt v4.1)), (13, .box (eCu (w12.1, w12.2.1, w12.2.2.1))), (30, .p (.bool w12.2.2.2))]) ?_ ?_
  ·clear h
   rcases ft v10 with ha0 | ha0
   ·replace hw12 := ite_t ha0 hw12
    replace hw12 := bs' hw12
    obtain ⟨v11, hv11, hw12⟩ := hw12
    have hw12 := oi hw12
    subst hw12
    exact (r_go [(4, .box [rI 0, rI 0]), (5, .box [rI 0, rI 0]), (6, .addr 13 [(0, 0)]), (7, .d false [.sl none (v1.1.map (eF eI))]), (8, .d false [.sl none (v2.1.map eI)]), (9, .box (eRt v3.1)), (10, .box (eRt v4.1)), (13, .box (eCu v11.2)), (30, .p (.bool (!v11.1)))] [(2, {call := some ([.d false [.sl none (v1.1.map (eF eI))], .d false [.sl none (v2.1.map eI)]], [.p (.bool v10)], true)}), (4, {g := some true}), (5, {g := some true, lend := some ([wI 4], [.p (.bool v11.1)], .box (eCu v11.2), false)}), (6, {g := some true}), (7, {b := some true})] [([.d false [.sl none (v1.1.map (eF eI))], .d false [.sl none (v2.1.map eI)]] : List Arg) = [.d false [.sl none (v1.1.map (eF eI))], .d false [.sl none (v2.1.map eI)]], Meets Try.prog 99 ([.d false [.sl none (v1.1.map (eF eI))], .d false [.sl none (v2.1.map eI)]] ++ []) { vals := [.p (.bool v10)] }, (!true || List.all [.p (.bool v10)] simpleR) = true, v10 = true, v10 = true, ([wI 4] : List Arg) = [wI 4], MeetsB Try.prog 100 (.box (eCu v4.2)) [wI 4] [.p (.bool v11.1)] (.box (eCu v11.2)), (!false || (List.all [.p (.bool v11.1)] simpleR && wnS (.box (eCu v11.2)))) = true, v10 = true, v10 = true] (by kernel_rfl) ⟨rfl, (wk_spec_gwAsked hv10), (bt rfl), ha0, ha0, rfl, (wk_spec_l1Cur_one hv11), rfl, ha0, ha0, trivial⟩)
   ·replace hw12 := ite_f ha0 hw12
    have hw12 := oi hw12
    subst hw12
    exact (r_go [(4, .box [rI 0, rI 0]), (5, .box [rI 0, rI 0]), (6, .addr 13 [(0, 0)]), (7, .d false [.sl none (v1.1.map (eF eI))]), (8, .d false [.sl none (v2.1.map eI)]), (9, .box (eRt v3.1)), (10, .box (eRt v4.1)), (13, .box (eCu v4.2)), (30, .p (.bool false))] [(2, {call := some ([.d false [.sl none (v1.1.map (eF eI))], .d false [.sl none (v2.1.map eI)]], [.p (.bool v10)], true)}), (4, {g := some false}), (5, {g := some false}), (6, {g := some false}), (7, {b := some false})] [([.d false [.sl none (v1.1.map (eF eI))], .d false [.sl none (v2.1.map eI)]] : List Arg) = [.d false [.sl none (v1.1.map (eF eI))], .d false [.sl none (v2.1.map eI)]], Meets Try.prog 99 ([.d false [.sl none (v1.1.map (eF eI))], .d false [.sl none (v2.1.map eI)]] ++ []) { vals := [.p (.bool v10)] }, (!true || List.all [.p (.bool v10)] simpleR) = true, v10 = false, v10 = false, v10 = false, v10 = false] (by kernel_rfl) ⟨rfl, (wk_spec_gwAsked hv10), (bt rfl), ha0, ha0, ha0, ha0, trivial⟩)
  ·refine k_cond (b := w12.2.2.2) (by kernel_rfl) (fun hc2_12 => ?_) (fun hc2_12 => ?_)
   ·replace h := ite_t hc2_12 h
    replace h := bs' h
    obtain ⟨v14, hv14, h⟩ := h
    refine k_sreg (r_go [(4, .box [rI 0, rI 0]), (5, .box [rI 0, rI 0]), (6, .addr 13 [(0, 0)]), (7, .d false [.sl none (v1.1.map (eF eI))]), (8, .d false [.sl none (v2.1.map eI)]), (9, .box (eRt v14.1)), (10, .box (eRt v14.2)), (13, .box (eCu (w12.1, w12.2.1, w12.2.2.1)))] [(2, {call := some ([.d false [.sl none (v1.1.map (eF eI))], .d false [.sl none (v2.1.map eI)]], [.p (vRt v14.1), .p (vRt v14.2)], true)})] [([.d false [.sl none (v1.1.map (eF eI))], .d false [.sl none (v2.1.map eI)]] : List Arg) = [.d false [.sl none (v1.1.map (eF eI))], .d false [.sl none (v2.1.map eI)]], Meets Try.prog 92 ([.d false [.sl none (v1.1.map (eF eI))], .d false [.sl none (v2.1.map eI)]] ++ []) { vals := [.p (vRt v14.1), .p (vRt v14.2)] }, (!true || List.all [.p (vRt v14.1), .p (vRt v14.2)] simpleR) = true] (by kernel_rfl) ⟨rfl, (wk_spec_gwBounds hv14), (bt rfl), trivial⟩) ?_
    replace h := bs' h
    obtain ⟨v15, hv15, h⟩ := h
    refine k_sreg (r_go [(4, .box [rI 0, rI 0]), (5, .box [rI 0, rI 0]), (6, .addr 13 [(0, 0)]), (7, .d false [.sl none (v1.1.map (eF eI))]), (8, .d false [.sl none (v2.1.map eI)]), (9, .box (eRt v14.1)), (10, .box (eRt v14.2)), (13, .box (eCu v15.2)), (38, .p (iV v15.1))] [(1, {lend := some ([wI 4], [.p (iV v15.1)], .box (eCu v15.2), false)})] [([wI 4] : List Arg) = [wI 4], MeetsB Try.prog 101 (.box (eCu (w12.1, w12.2.1, w12.2.2.1))) [wI 4] [.p (iV v15.1)] (.box (eCu v15.2)), (!false || (List.all [.p (iV v15.1)] simpleR && wnS (.box (eCu v15.2)))) = true] (by kernel_rfl) ⟨rfl, (wk_spec_l1Cur_pick hv15), rfl, trivial⟩) ?_
    refine k_block ?_
    refine k_sreg (r_go [(4, .box [rI 0, rI 0]), (5, .box [rI 0, rI 0]), (6, .addr 13 [(0, 0)]), (7, .d false [.sl none (v1.1.map (eF eI))]), (8, .d false [.sl none (v2.1.map eI)]), (9, .box (eRt v14.1)), (10, .box (eRt v14.2)), (13, .box (eCu v15.2)), (38, .p (iV v15.1)), (39, .p (.bool (v15.1 == 0)))] [] [] (by kernel_rfl) trivial) ?_
    refine k_cond (b := (v15.1 == 0)) (by kernel_rfl) (fun hc3_15 => ?_) (fun hc3_15 => ?_)
    ·replace h := ite_t hc3_15 h
     replace h := bs' h
     obtain ⟨v17, hv17, h⟩ := h
     replace h := bs' h
     obtain ⟨v18, hv18, h⟩ := h
     refine k_reg (r_go [(4, .box [rI 0, rI 0]), (5, .box [rI 0, rI 0]), (6, .addr 13 [(0, 0)]), (7, .d false [.sl none (v1.1.map (eF eI))]), (8, .d false [.sl none (v2.1.map eI)]), (9, .box (eRt v18)), (10, .box (eRt v14.2)), (13, .box (eCu v15.2))] [(1, {call := some ([.v (vRt v14.1)], [.p (iV v17)], true)}), (2, {call := some ([wI v17], [.p (vRt v18)], true)})] [([.v (vRt v14.1)] : List Arg) = [.v (vRt v14.1)], Meets Try.prog 103 ([.v (vRt v14.1)] ++ []) { vals := [.p (iV v17)] }, (!true || List.all [.p (iV v17)] simpleR) = true, ([wI v17] : List Arg) = [wI v17], Meets Try.prog 102 ([wI v17] ++ []) { vals := [.p (vRt v18)] }, (!true || List.all [.p (vRt v18)] simpleR) = true] (by kernel_rfl) ⟨rfl, (wk_spec_raFloor hv17), (bt rfl), rfl, (wk_spec_raInt hv18), (bt rfl), trivial⟩) ?_
     refine b_n ?_
     refine q_n ?_
     exact ⟨(v18.1, v18.2, v14.2.1, v14.2.2, v15.2.1, v15.2.2.1, v15.2.2.2), h, (wk_of (by kernel_rfl) (by kernel_rfl))⟩
    ·replace h := ite_f hc3_15 h
     refine k_sreg (r_go [(4, .box [rI 0, rI 0]), (5, .box [rI 0, rI 0]), (6, .addr 13 [(0, 0)]), (7, .d false [.sl none (v1.1.map (eF eI))]), (8, .d false [.sl none (v2.1.map eI)]), (9, .box (eRt v14.1)), (10, .box (eRt v14.2)), (13, .box (eCu v15.2)), (44, .p (.bool (v15.1 == 1)))] [] [] (by kernel_rfl) trivial) ?_
     refine k_cond (b := (v15.1 == 1)) (by kernel_rfl) (fun hc3_18 => ?_) (fun hc3_18 => ?_)
     ·replace h := ite_t hc3_18 h
      replace h := bs' h
      obtain ⟨v20, hv20, h⟩ := h
      replace h := bs' h
      obtain ⟨v21, hv21, h⟩ := h
      refine k_reg (r_go [(4, .box [rI 0, rI 0]), (5, .box [rI 0, rI 0]), (6, .addr 13 [(0, 0)]), (7, .d false [.sl none (v1.1.map (eF eI))]), (8, .d false [.sl none (v2.1.map eI)]), (9, .box (eRt v14.1)), (10, .box (eRt v21)), (13, .box (eCu v15.2))] [(1, {call := some ([.v (vRt v14.2)], [.p (iV v20)], true)}), (2, {call := some ([wI v20], [.p (vRt v21)], true)})] [([.v (vRt v14.2)] : List Arg) = [.v (vRt v14.2)], Meets Try.prog 103 ([.v (vRt v14.2)] ++ []) { vals := [.p (iV v20)] }, (!true || List.all [.p (iV v20)] simpleR) = true, ([wI v20] : List Arg) = [wI v20], Meets Try.prog 102 ([wI v20] ++ []) { vals := [.p (vRt v21)] }, (!true || List.all [.p (vRt v21)] simpleR) = true] (by kernel_rfl) ⟨rfl, (wk_spec_raFloor hv20), (bt rfl), rfl, (wk_spec_raInt hv21), (bt rfl), trivial⟩) ?_
      refine b_n ?_
      refine q_n ?_
      exact ⟨(v14.1.1, v14.1.2, v21.1, v21.2, v15.2.1, v15.2.2.1, v15.2.2.2), h, (wk_of (by kernel_rfl) (by kernel_rfl))⟩
     ·replace h := ite_f hc3_18 h
      refine k_skip ?_
      refine b_n ?_
      refine q_n ?_
      exact ⟨(v14.1.1, v14.1.2, v14.2.1, v14.2.2, v15.2.1, v15.2.2.1, v15.2.2.2), h, (wk_of (by kernel_rfl) (by kernel_rfl))⟩
   ·replace h := ite_f hc2_12 h
    refine k_skip ?_
    refine q_n ?_
    exact ⟨(v3.1.1, v3.1.2, v4.1.1, v4.1.2, w12.1, w12.2.1, w12.2.2.1), h, (wk_of (by kernel_rfl) (by kernel_rfl))⟩
theorem wk_impl_areRats {a0 : (List Qr)}  {r : Bool} (h : impl_areRats a0 = some r) : Meets Try.prog 106 [.d false [.sl none (a0.map eRt)]] { vals := [.p (.bool r)] } := by
 refine Meets_ofL (by kernel_rfl) Try.func106 rfl (by kernel_rfl) (l0 := [(0, .d false [.sl none (a0.map eRt)])]) (by kernel_rfl) ?_
 unfold impl_areRats at h
 refine k_sreg (r_go [(0, .d false [.sl none (a0.map eRt)])] [] [] (by kernel_rfl) trivial) ?_
 refine k_join (J := fun (x : Unit) => []) (K := fun x => impl_areRats_k1 x = some r) (fun x1 h => ?_) ?_
 ·unfold impl_areRats_k1 at h
  refine k_sreg (r_go [(2, .p (.bool true))] [] [] (by kernel_rfl) trivial) ?_
  refine k_ret ?_
  obtain rfl := oi h
  exact e_ret (ls := [(.p (.bool true), 2)]) (by kernel_rfl) rfl (by kernel_rfl) rfl
 ·refine k_sreg (r_go [(5, .d false [.sl none (a0.map eRt)]), (6, .p (iV (a0.length : Int))), (7, .p (iV 0))] [(1, {n := some a0.length})] [(a0.map eRt).length = a0.length] (by kernel_rfl) ⟨(List.length_map ..), trivial⟩) ?_
  refine k_block ?_
  obtain ⟨y3, hl_x2, hk_x2⟩ := bs' h
  clear h
  refine k_loop (J := fun (x : Int) => [(5, .d false [.sl none (a0.map eRt)]), (6, .p (iV (a0.length : Int))), (7, .p (iV x))]) hl_x2 (wk_of (by kernel_rfl) (by kernel_rfl)) (fun x2 o_x2 h hy_x2 => ?_)
  unfold impl_areRats_b1 at h
  refine k_sreg (r_go [(5, .d false [.sl none (a0.map eRt)]), (6, .p (iV (a0.length : Int))), (7, .p (iV x2)), (8, .p (.bool (decide (x2 < (a0.length : Int)))))] [] [] (by kernel_rfl) trivial) ?_
  refine k_seq ?_
  refine k_cond (b := (decide (x2 < (a0.length : Int)))) (by kernel_rfl) (fun hc5_3 => ?_) (fun hc5_3 => ?_)
  ·replace h := ite_t hc5_3 h
   refine k_skip ?_
   refine q_n ?_
   refine k_seq ?_
   refine k_block ?_
   replace h := bs' h
   obtain ⟨v5, hv5, h⟩ := h
   refine k_sreg (r_go [(4, .box (eRt v5)), (5, .d false [.sl none (a0.map eRt)]), (6, .p (iV (a0.length : Int))), (7, .p (iV x2))] [(0, {row := some (eRt v5)})] [0 ≤ x2, (a0.map eRt)[(Int.toNat x2)]? = some (eRt v5)] (by kernel_rfl) ⟨(idxO_some hv5).1, (map_get eRt (idxO_some hv5).2), trivial⟩) ?_
   replace h := bs' h
   obtain ⟨v6, hv6, h⟩ := h
   refine k_sreg (r_go [(5, .d false [.sl none (a0.map eRt)]), (6, .p (iV (a0.length : Int))), (7, .p (iV x2)), (13, .p (.bool (!v6)))] [(1, {call := some ([.v (vRt v5)], [.p (.bool v6)], true)})] [([.v (vRt v5)] : List Arg) = [.v (vRt v5)], Meets Try.prog 144 ([.v (vRt v5)] ++ []) { vals := [.p (.bool v6)] }, (!true || List.all [.p (.bool v6)] simpleR) = true] (by kernel_rfl) ⟨rfl, (wk_impl_isRat hv6), (bt rfl), trivial⟩) ?_
   refine k_cond (b := (!v6)) (by kernel_rfl) (fun hc6_6 => ?_) (fun hc6_6 => ?_)
   ·replace h := ite_t hc6_6 h
    refine k_sreg (r_go [(2, .p (.bool false))] [] [] (by kernel_rfl) trivial) ?_
    refine k_ret ?_
    refine b_r ?_
    refine q_r ?_
    refine lq_r ?_
    refine b_r ?_
    refine q_r ?_
    have hyy := hy_x2 _ (oi h).symm
    subst hyy
    have h := hk_x2
    dsimp only [Sum.elim] at h
    obtain rfl := oi h
    exact e_ret (ls := [(.p (.bool false), 2)]) (by kernel_rfl) rfl (by kernel_rfl) rfl
   ·replace h := ite_f hc6_6 h
    refine k_skip ?_
    refine b_n ?_
    refine q_n ?_
    refine k_reg (r_go [(5, .d false [.sl none (a0.map eRt)]), (6, .p (iV (a0.length : Int))), (7, .p (iV (w64 (x2 + 1))))] [] [] (by kernel_rfl) trivial) ?_
    exact lq_n (w64 (x2 + 1)) (oi h).symm (wk_of (by kernel_rfl) (by kernel_rfl))
  ·replace h := ite_f hc5_3 h
   refine k_exit ?_
   refine q_x ?_
   refine lq_x ?_
   refine b_x ?_
   have hyy := hy_x2 _ (oi h).symm
   subst hyy
   have h := hk_x2
   dsimp only [Sum.elim] at h
   refine q_n ?_
   exact ⟨(), h, (wk_of (by kernel_rfl) (by kernel_rfl))⟩
theorem wk_impl_less {a0 : Qr} {a1 : Qr}  {r : Bool} (h : impl_less a0 a1 = some r) : Meets Try.prog 107 [.v (vRt a0), .v (vRt a1)] { vals := [.p (.bool r)] } := by
 refine Meets_ofL (by kernel_rfl) Try.func107 rfl (by kernel_rfl) (l0 := [(0, .p (vRt a0)), (1, .p (vRt a1))]) (by kernel_rfl) ?_
 unfold impl_less at h
 refine k_sreg (r_go [(2, .box (eRt a0)), (3, .box (eRt a1))] [] [] (by kernel_rfl) trivial) ?_
 replace h := bs' h
 obtain ⟨v1, hv1, h⟩ := h
 refine k_sreg (r_go [(4, .p (.bool (decide (v1 < 0))))] [(2, {call := some ([.v (vRt a0), .v (vRt a1)], [.p (iV v1)], true)})] [([.v (vRt a0), .v (vRt a1)] : List Arg) = [.v (vRt a0), .v (vRt a1)], Meets Try.prog 139 ([.v (vRt a0), .v (vRt a1)] ++ []) { vals := [.p (iV v1)] }, (!true || List.all [.p (iV v1)] simpleR) = true] (by kernel_rfl) ⟨rfl, (wk_impl_compare hv1), (bt rfl), trivial⟩) ?_
 refine k_ret ?_
 obtain rfl := oi h
 exact e_ret (ls := [(.p (.bool (decide (v1 < 0))), 4)]) (by kernel_rfl) rfl (by kernel_rfl) rfl
theorem wk_impl_IsGrowthBound {a0 : (List (List Int))} {a1 : (List Int)} {a2 : Qr} {a3 : Qr}  {r : (Bool × Bool)} (h : impl_IsGrowthBound a0 a1 a2 a3 = some r) : Meets Try.prog 35 [.d false [.sl none (a0.map (eF eI))], .d false [.sl none (a1.map eI)], .v (vRt a2), .v (vRt a3)] { vals := [.p (.bool r.1), .p (.bool r.2)] } := by
 refine Meets_ofL (by kernel_rfl) Try.func35 rfl (by kernel_rfl) (l0 := [(0, .d false [.sl none (a0.map (eF eI))]), (1, .d false [.sl none (a1.map eI)]), (2, .p (vRt a2)), (3, .p (vRt a3))]) (by kernel_rfl) ?_
 unfold impl_IsGrowthBound at h
 refine k_sreg (r_go [(0, .d false [.sl none (a0.map (eF eI))]), (1, .d false [.sl none (a1.map eI)]), (6, .box (eRt a2)), (7, .box (eRt a3))] [] [] (by kernel_rfl) trivial) ?_
 refine k_seq ?_
 replace h := bs' h
 obtain ⟨v1, hv1, h⟩ := h
 replace h := bs' h
 obtain ⟨w3, hw3, h⟩ := h
 refine k_sreg (l1 := [(0, .d false [.sl none (a0.map (eF eI))]), (1, .d false [.sl none (a1.map eI)]), (6, .box (eRt a2)), (7, .box (eRt a3)), (22, .p (.bool w3))]) ?_ ?_
 ·clear h
  rcases ft (!v1) with ha0 | ha0
  ·replace hw3 := ite_t ha0 hw3
   have hw3 := oi hw3
   subst hw3
   exact (r_go [(0, .d false [.sl none (a0.map (eF eI))]), (1, .d false [.sl none (a1.map eI)]), (6, .box (eRt a2)), (7, .box (eRt a3)), (22, .p (.bool true))] [(2, {call := some ([.d false [.sl none (a0.map (eF eI))], .d false [.sl none (a1.map eI)]], [.p (.bool v1)], true)}), (5, {g := some true}), (6, {g := some true}), (7, {g := some true}), (8, {g := some true}), (9, {g := some true}), (10, {b := some true})] [([.d false [.sl none (a0.map (eF eI))], .d false [.sl none (a1.map eI)]] : List Arg) = [.d false [.sl none (a0.map (eF eI))], .d false [.sl none (a1.map eI)]], Meets Try.prog 105 ([.d false [.sl none (a0.map (eF eI))], .d false [.sl none (a1.map eI)]] ++ []) { vals := [.p (.bool v1)] }, (!true || List.all [.p (.bool v1)] simpleR) = true, (!v1) = true, (!v1) = true, (!v1) = true, (!v1) = true, (!v1) = true, (!v1) = true] (by kernel_rfl) ⟨rfl, (wk_impl_isVectorOf hv1), (bt rfl), ha0, ha0, ha0, ha0, ha0, ha0, trivial⟩)
  ·replace hw3 := ite_f ha0 hw3
   replace hw3 := bs' hw3
   obtain ⟨v2, hv2, hw3⟩ := hw3
   have hw3 := oi hw3
   subst hw3
   exact (r_go [(0, .d false [.sl none (a0.map (eF eI))]), (1, .d false [.sl none (a1.map eI)]), (6, .box (eRt a2)), (7, .box (eRt a3)), (22, .p (.bool (!v2)))] [(2, {call := some ([.d false [.sl none (a0.map (eF eI))], .d false [.sl none (a1.map eI)]], [.p (.bool v1)], true)}), (5, {g := some false}), (6, {g := some false}), (7, {g := some false}), (8, {g := some false, call := some ([.d false [.sl none (([a2, a3]).map eRt)]], [.p (.bool v2)], true)}), (9, {g := some false}), (10, {b := some false})] [([.d false [.sl none (a0.map (eF eI))], .d false [.sl none (a1.map eI)]] : List Arg) = [.d false [.sl none (a0.map (eF eI))], .d false [.sl none (a1.map eI)]], Meets Try.prog 105 ([.d false [.sl none (a0.map (eF eI))], .d false [.sl none (a1.map eI)]] ++ []) { vals := [.p (.bool v1)] }, (!true || List.all [.p (.bool v1)] simpleR) = true, (!v1) = false, (!v1) = false, (!v1) = false, (!v1) = false, ([.d false [.sl none (eraL (([a2, a3]).map eRt))]] : List Arg) = [.d false [.sl none (([a2, a3]).map eRt)]], Meets Try.prog 106 ([.d false [.sl none (([a2, a3]).map eRt)]] ++ []) { vals := [.p (.bool v2)] }, (!true || List.all [.p (.bool v2)] simpleR) = true, (!v1) = false, (!v1) = false] (by kernel_rfl) ⟨rfl, (wk_impl_isVectorOf hv1), (bt rfl), ha0, ha0, ha0, ha0, (by simp only [eraL_enc (h := eRt) (era_P er_I er_I)]), (wk_impl_areRats hv2), (bt rfl), ha0, ha0, trivial⟩)
 ·refine k_cond (b := w3) (by kernel_rfl) (fun hc2_3 => ?_) (fun hc2_3 => ?_)
  ·replace h := ite_t hc2_3 h
   refine k_sreg (r_go [(8, .p (.bool false)), (9, .p (.bool false))] [] [] (by kernel_rfl) trivial) ?_
   refine k_ret ?_
   refine q_r ?_
   obtain rfl := oi h
   exact e_ret (ls := [(.p (.bool false), 8), (.p (.bool false), 9)]) (by kernel_rfl) rfl (by kernel_rfl) rfl
  ·replace h := ite_f hc2_3 h
   refine k_skip ?_
   refine q_n ?_
   replace h := bs' h
   obtain ⟨v5, hv5, h⟩ := h
   refine k_sreg (r_go [(6, .box (eRt a2)), (7, .box (eRt a3)), (10, .box (eRt v5.1)), (11, .box (eRt v5.2))] [(2, {call := some ([.d false [.sl none (a0.map (eF eI))], .d false [.sl none (a1.map eI)]], [.p (vRt v5.1), .p (vRt v5.2)], true)})] [([.d false [.sl none (a0.map (eF eI))], .d false [.sl none (a1.map eI)]] : List Arg) = [.d false [.sl none (a0.map (eF eI))], .d false [.sl none (a1.map eI)]], Meets Try.prog 94 ([.d false [.sl none (a0.map (eF eI))], .d false [.sl none (a1.map eI)]] ++ []) { vals := [.p (vRt v5.1), .p (vRt v5.2)] }, (!true || List.all [.p (vRt v5.1), .p (vRt v5.2)] simpleR) = true] (by kernel_rfl) ⟨rfl, (wk_impl_ratioBounds hv5), (bt rfl), trivial⟩) ?_
   replace h := bs' h
   obtain ⟨v6, hv6, h⟩ := h
   replace h := bs' h
   obtain ⟨w8, hw8, h⟩ := h
   refine k_sreg (l1 := [(8, .p (.bool w8)), (9, .p (.bool true))]) ?_ ?_
   ·clear h
    rcases ft (!v6) with ha1 | ha1
    ·replace hw8 := ite_t ha1 hw8
     replace hw8 := bs' hw8
     obtain ⟨v7, hv7, hw8⟩ := hw8
     have hw8 := oi hw8
     subst hw8
     exact (r_go [(8, .p (.bool (!v7))), (9, .p (.bool true))] [(2, {call := some ([.v (vRt v5.1), .v (vRt a2)], [.p (.bool v6)], true)}), (5, {g := some true}), (6, {g := some true}), (7, {g := some true, call := some ([.v (vRt a3), .v (vRt v5.2)], [.p (.bool v7)], true)}), (8, {g := some true}), (9, {b := some true})] [([.v (vRt v5.1), .v (vRt a2)] : List Arg) = [.v (vRt v5.1), .v (vRt a2)], Meets Try.prog 107 ([.v (vRt v5.1), .v (vRt a2)] ++ []) { vals := [.p (.bool v6)] }, (!true || List.all [.p (.bool v6)] simpleR) = true, (!v6) = true, (!v6) = true, (!v6) = true, ([.v (vRt a3), .v (vRt v5.2)] : List Arg) = [.v (vRt a3), .v (vRt v5.2)], Meets Try.prog 107 ([.v (vRt a3), .v (vRt v5.2)] ++ []) { vals := [.p (.bool v7)] }, (!true || List.all [.p (.bool v7)] simpleR) = true, (!v6) = true, (!v6) = true] (by kernel_rfl) ⟨rfl, (wk_impl_less hv6), (bt rfl), ha1, ha1, ha1, rfl, (wk_impl_less hv7), (bt rfl), ha1, ha1, trivial⟩)
    ·replace hw8 := ite_f ha1 hw8
     have hw8 := oi hw8
     subst hw8
     exact (r_go [(8, .p (.bool false)), (9, .p (.bool true))] [(2, {call := some ([.v (vRt v5.1), .v (vRt a2)], [.p (.bool v6)], true)}), (5, {g := some false}), (6, {g := some false}), (7, {g := some false}), (8, {g := some false}), (9, {b := some false})] [([.v (vRt v5.1), .v (vRt a2)] : List Arg) = [.v (vRt v5.1), .v (vRt a2)], Meets Try.prog 107 ([.v (vRt v5.1), .v (vRt a2)] ++ []) { vals := [.p (.bool v6)] }, (!true || List.all [.p (.bool v6)] simpleR) = true, (!v6) = false, (!v6) = false, (!v6) = false, (!v6) = false, (!v6) = false] (by kernel_rfl) ⟨rfl, (wk_impl_less hv6), (bt rfl), ha1, ha1, ha1, ha1, ha1, trivial⟩)
   ·refine k_ret ?_
    obtain rfl := oi h
    exact e_ret (ls := [(.p (.bool w8), 8), (.p (.bool true), 9)]) (by kernel_rfl) rfl (by kernel_rfl) rfl
theorem wk_spec_gwWithin {a0 : (List (List Int))} {a1 : (List Int)} {a2 : Qr} {a3 : Qr}  {r : Bool} (h : spec_gwWithin a0 a1 a2 a3 = some r) : Meets Try.prog 109 [.d false [.sl none (a0.map (eF eI))], .d false [.sl none (a1.map eI)], .v (vRt a2), .v (vRt a3)] { vals := [.p (.bool r)] } := by
 refine Meets_ofL (by kernel_rfl) Try.func109 rfl (by kernel_rfl) (l0 := [(0, .d false [.sl none (a0.map (eF eI))]), (1, .d false [.sl none (a1.map eI)]), (2, .p (vRt a2)), (3, .p (vRt a3))]) (by kernel_rfl) ?_
 unfold spec_gwWithin at h
 refine k_sreg (r_go [(0, .d false [.sl none (a0.map (eF eI))]), (1, .d false [.sl none (a1.map eI)]), (6, .box (eRt a2)), (7, .box (eRt a3))] [] [] (by kernel_rfl) trivial) ?_
 replace h := bs' h
 obtain ⟨v1, hv1, h⟩ := h
 refine k_sreg (r_go [(6, .box (eRt a2)), (7, .box (eRt a3)), (9, .box (eRt v1.1)), (10, .box (eRt v1.2))] [(2, {call := some ([.d false [.sl none (a0.map (eF eI))], .d false [.sl none (a1.map eI)]], [.p (vRt v1.1), .p (vRt v1.2)], true)})] [([.d false [.sl none (a0.map (eF eI))], .d false [.sl none (a1.map eI)]] : List Arg) = [.d false [.sl none (a0.map (eF eI))], .d false [.sl none (a1.map eI)]], Meets Try.prog 92 ([.d false [.sl none (a0.map (eF eI))], .d false [.sl none (a1.map eI)]] ++ []) { vals := [.p (vRt v1.1), .p (vRt v1.2)] }, (!true || List.all [.p (vRt v1.1), .p (vRt v1.2)] simpleR) = true] (by kernel_rfl) ⟨rfl, (wk_spec_gwBounds hv1), (bt rfl), trivial⟩) ?_
 replace h := bs' h
 obtain ⟨v2, hv2, h⟩ := h
 replace h := bs' h
 obtain ⟨w4, hw4, h⟩ := h
 refine k_sreg (l1 := [(8, .p (.bool w4))]) ?_ ?_
 ·clear h
  rcases ft (decide (v2 ≤ 0)) with ha0 | ha0
  ·replace hw4 := ite_t ha0 hw4
   replace hw4 := bs' hw4
   obtain ⟨v3, hv3, hw4⟩ := hw4
   have hw4 := oi hw4
   subst hw4
   exact (r_go [(8, .p (.bool (decide (v3 ≤ 0))))] [(2, {call := some ([.v (vRt a2), .v (vRt v1.1)], [.p (iV v2)], true)}), (5, {g := some true}), (6, {g := some true}), (7, {g := some true, call := some ([.v (vRt v1.2), .v (vRt a3)], [.p (iV v3)], true)}), (8, {g := some true}), (9, {b := some true})] [([.v (vRt a2), .v (vRt v1.1)] : List Arg) = [.v (vRt a2), .v (vRt v1.1)], Meets Try.prog 147 ([.v (vRt a2), .v (vRt v1.1)] ++ []) { vals := [.p (iV v2)] }, (!true || List.all [.p (iV v2)] simpleR) = true, (decide (v2 ≤ 0)) = true, (decide (v2 ≤ 0)) = true, (decide (v2 ≤ 0)) = true, ([.v (vRt v1.2), .v (vRt a3)] : List Arg) = [.v (vRt v1.2), .v (vRt a3)], Meets Try.prog 147 ([.v (vRt v1.2), .v (vRt a3)] ++ []) { vals := [.p (iV v3)] }, (!true || List.all [.p (iV v3)] simpleR) = true, (decide (v2 ≤ 0)) = true, (decide (v2 ≤ 0)) = true] (by kernel_rfl) ⟨rfl, (wk_spec_raCmp hv2), (bt rfl), ha0, ha0, ha0, rfl, (wk_spec_raCmp hv3), (bt rfl), ha0, ha0, trivial⟩)
  ·replace hw4 := ite_f ha0 hw4
   have hw4 := oi hw4
   subst hw4
   exact (r_go [(8, .p (.bool false))] [(2, {call := some ([.v (vRt a2), .v (vRt v1.1)], [.p (iV v2)], true)}), (5, {g := some false}), (6, {g := some false}), (7, {g := some false}), (8, {g := some false}), (9, {b := some false})] [([.v (vRt a2), .v (vRt v1.1)] : List Arg) = [.v (vRt a2), .v (vRt v1.1)], Meets Try.prog 147 ([.v (vRt a2), .v (vRt v1.1)] ++ []) { vals := [.p (iV v2)] }, (!true || List.all [.p (iV v2)] simpleR) = true, (decide (v2 ≤ 0)) = false, (decide (v2 ≤ 0)) = false, (decide (v2 ≤ 0)) = false, (decide (v2 ≤ 0)) = false, (decide (v2 ≤ 0)) = false] (by kernel_rfl) ⟨rfl, (wk_spec_raCmp hv2), (bt rfl), ha0, ha0, ha0, ha0, ha0, trivial⟩)
 ·refine k_ret ?_
  obtain rfl := oi h
  exact e_ret (ls := [(.p (.bool w4), 8)]) (by kernel_rfl) rfl (by kernel_rfl) rfl
theorem wk_spec_IsGrowthBound {a0 : (List (List Int))} {a1 : (List Int)} {a2 : Qr} {a3 : Qr}  {r : (Bool × Bool)} (h : spec_IsGrowthBound a0 a1 a2 a3 = some r) : Meets Try.prog 36 [.d false [.sl none (a0.map (eF eI))], .d false [.sl none (a1.map eI)], .v (vRt a2), .v (vRt a3)] { vals := [.p (.bool r.1), .p (.bool r.2)] } := by
 refine Meets_ofL (by kernel_rfl) Try.func36 rfl (by kernel_rfl) (l0 := [(0, .d false [.sl none (a0.map (eF eI))]), (1, .d false [.sl none (a1.map eI)]), (2, .p (vRt a2)), (3, .p (vRt a3))]) (by kernel_rfl) ?_
 unfold spec_IsGrowthBound at h
 refine k_sreg (r_go [(0, .d false [.sl none (a0.map (eF eI))]), (1, .d false [.sl none (a1.map eI)]), (6, .box (eRt a2)), (7, .box (eRt a3))] [] [] (by kernel_rfl) trivial) ?_
 refine k_seq ?_
 replace h := bs' h
 obtain ⟨v1, hv1, h⟩ := h
 replace h := bs' h
 obtain ⟨w4, hw4, h⟩ := h
 refine k_sreg (l1 := [(0, .d false [.sl none (a0.map (eF eI))]), (1, .d false [.sl none (a1.map eI)]), (6, .box (eRt a2)), (7, .box (eRt a3)), (23, .p (.bool w4))]) ?_ ?_
 ·clear h
  rcases ft (!v1) with ha0 | ha0
  ·replace hw4 := ite_t ha0 hw4
   have hw4 := oi hw4
   subst hw4
   exact (r_go [(0, .d false [.sl none (a0.map (eF eI))]), (1, .d false [.sl none (a1.map eI)]), (6, .box (eRt a2)), (7, .box (eRt a3)), (23, .p (.bool true))] [(2, {call := some ([.d false [.sl none (a0.map (eF eI))], .d false [.sl none (a1.map eI)]], [.p (.bool v1)], true)}), (5, {g := some true}), (6, {g := some true}), (7, {g := some true}), (8, {b := some true}), (10, {g := some true}), (11, {g := some true}), (12, {g := some true}), (13, {b := some true})] [([.d false [.sl none (a0.map (eF eI))], .d false [.sl none (a1.map eI)]] : List Arg) = [.d false [.sl none (a0.map (eF eI))], .d false [.sl none (a1.map eI)]], Meets Try.prog 99 ([.d false [.sl none (a0.map (eF eI))], .d false [.sl none (a1.map eI)]] ++ []) { vals := [.p (.bool v1)] }, (!true || List.all [.p (.bool v1)] simpleR) = true, (!v1) = true, (!v1) = true, (!v1) = true, (!v1) = true, true = true, true = true, true = true, true = true] (by kernel_rfl) ⟨rfl, (wk_spec_gwAsked hv1), (bt rfl), ha0, ha0, ha0, ha0, rfl, rfl, rfl, rfl, trivial⟩)
  ·replace hw4 := ite_f ha0 hw4
   replace hw4 := bs' hw4
   obtain ⟨v2, hv2, hw4⟩ := hw4
   rcases ft (!v2) with ha1 | ha1
   ·replace hw4 := ite_t ha1 hw4
    have hw4 := oi hw4
    subst hw4
    exact (r_go [(0, .d false [.sl none (a0.map (eF eI))]), (1, .d false [.sl none (a1.map eI)]), (6, .box (eRt a2)), (7, .box (eRt a3)), (23, .p (.bool true))] [(2, {call := some ([.d false [.sl none (a0.map (eF eI))], .d false [.sl none (a1.map eI)]], [.p (.bool v1)], true)}), (5, {g := some false}), (6, {g := some false, call := some ([.v (vRt a2)], [.p (.bool v2)], true)}), (7, {g := some false}), (8, {b := some false}), (10, {g := some true}), (11, {g := some true}), (12, {g := some true}), (13, {b := some true})] [([.d false [.sl none (a0.map (eF eI))], .d false [.sl none (a1.map eI)]] : List Arg) = [.d false [.sl none (a0.map (eF eI))], .d false [.sl none (a1.map eI)]], Meets Try.prog 99 ([.d false [.sl none (a0.map (eF eI))], .d false [.sl none (a1.map eI)]] ++ []) { vals := [.p (.bool v1)] }, (!true || List.all [.p (.bool v1)] simpleR) = true, (!v1) = false, (!v1) = false, ([.v (vRt a2)] : List Arg) = [.v (vRt a2)], Meets Try.prog 108 ([.v (vRt a2)] ++ []) { vals := [.p (.bool v2)] }, (!true || List.all [.p (.bool v2)] simpleR) = true, (!v1) = false, (!v1) = false, (!v2) = true, (!v2) = true, (!v2) = true, (!v2) = true] (by kernel_rfl) ⟨rfl, (wk_spec_gwAsked hv1), (bt rfl), ha0, ha0, rfl, (wk_spec_raGood hv2), (bt rfl), ha0, ha0, ha1, ha1, ha1, ha1, trivial⟩)
   ·replace hw4 := ite_f ha1 hw4
    replace hw4 := bs' hw4
    obtain ⟨v3, hv3, hw4⟩ := hw4
    have hw4 := oi hw4
    subst hw4
    exact (r_go [(0, .d false [.sl none (a0.map (eF eI))]), (1, .d false [.sl none (a1.map eI)]), (6, .box (eRt a2)), (7, .box (eRt a3)), (23, .p (.bool (!v3)))] [(2, {call := some ([.d false [.sl none (a0.map (eF eI))], .d false [.sl none (a1.map eI)]], [.p (.bool v1)], true)}), (5, {g := some false}), (6, {g := some false, call := some ([.v (vRt a2)], [.p (.bool v2)], true)}), (7, {g := some false}), (8, {b := some false}), (10, {g := some false}), (11, {g := some false, call := some ([.v (vRt a3)], [.p (.bool v3)], true)}), (12, {g := some false}), (13, {b := some false})] [([.d false [.sl none (a0.map (eF eI))], .d false [.sl none (a1.map eI)]] : List Arg) = [.d false [.sl none (a0.map (eF eI))], .d false [.sl none (a1.map eI)]], Meets Try.prog 99 ([.d false [.sl none (a0.map (eF eI))], .d false [.sl none (a1.map eI)]] ++ []) { vals := [.p (.bool v1)] }, (!true || List.all [.p (.bool v1)] simpleR) = true, (!v1) = false, (!v1) = false, ([.v (vRt a2)] : List Arg) = [.v (vRt a2)], Meets Try.prog 108 ([.v (vRt a2)] ++ []) { vals := [.p (.bool v2)] }, (!true || List.all [.p (.bool v2)] simpleR) = true, (!v1) = false, (!v1) = false, (!v2) = false, (!v2) = false, ([.v (vRt a3)] : List Arg) = [.v (vRt a3)], Meets Try.prog 108 ([.v (vRt a3)] ++ []) { vals := [.p (.bool v3)] }, (!true || List.all [.p (.bool v3)] simpleR) = true, (!v2) = false, (!v2) = false] (by kernel_rfl) ⟨rfl, (wk_spec_gwAsked hv1), (bt rfl), ha0, ha0, rfl, (wk_spec_raGood hv2), (bt rfl), ha0, ha0, ha1, ha1, rfl, (wk_spec_raGood hv3), (bt rfl), ha1, ha1, trivial⟩)
 ·refine k_cond (b := w4) (by kernel_rfl) (fun hc2_4 => ?_) (fun hc2_4 => ?_)
  ·replace h := ite_t hc2_4 h
   refine k_sreg (r_go [(8, .p (.bool false)), (9, .p (.bool false))] [] [] (by kernel_rfl) trivial) ?_
   refine k_ret ?_
   refine q_r ?_
   obtain rfl := oi h
   exact e_ret (ls := [(.p (.bool false), 8), (.p (.bool false), 9)]) (by kernel_rfl) rfl (by kernel_rfl) rfl
  ·replace h := ite_f hc2_4 h
   refine k_skip ?_
   refine q_n ?_
   replace h := bs' h
   obtain ⟨v6, hv6, h⟩ := h
   refine k_sreg (r_go [(8, .p (.bool v6)), (9, .p (.bool true))] [(4, {call := some ([.d false [.sl none (a0.map (eF eI))], .d false [.sl none (a1.map eI)], .v (vRt a2), .v (vRt a3)], [.p (.bool v6)], true)})] [([.d false [.sl none (a0.map (eF eI))], .d false [.sl none (a1.map eI)], .v (vRt a2), .v (vRt a3)] : List Arg) = [.d false [.sl none (a0.map (eF eI))], .d false [.sl none (a1.map eI)], .v (vRt a2), .v (vRt a3)], Meets Try.prog 109 ([.d false [.sl none (a0.map (eF eI))], .d false [.sl none (a1.map eI)], .v (vRt a2), .v (vRt a3)] ++ []) { vals := [.p (.bool v6)] }, (!true || List.all [.p (.bool v6)] simpleR) = true] (by kernel_rfl) ⟨rfl, (wk_spec_gwWithin hv6), (bt rfl), trivial⟩) ?_
   refine k_ret ?_
   obtain rfl := oi h
   exact e_ret (ls := [(.p (.bool v6), 8), (.p (.bool true), 9)]) (by kernel_rfl) rfl (by kernel_rfl) rfl
theorem wk_spec_RatioBounds {a0 : (List (List Int))} {a1 : (List Int)}  {r : (Qr × Qr × Bool)} (h : spec_RatioBounds a0 a1 = some r) : Meets Try.prog 38 [.d false [.sl none (a0.map (eF eI))], .d false [.sl none (a1.map eI)]] { vals := [.p (vRt r.1), .p (vRt r.2.1), .p (.bool r.2.2)] } := by
 refine Meets_ofL (by kernel_rfl) Try.func38 rfl (by kernel_rfl) (l0 := [(0, .d false [.sl none (a0.map (eF eI))]), (1, .d false [.sl none (a1.map eI)])]) (by kernel_rfl) ?_
 unfold spec_RatioBounds at h
 refine k_sreg (r_go [(0, .d false [.sl none (a0.map (eF eI))]), (1, .d false [.sl none (a1.map eI)]), (4, .box [rI 0, rI 0]), (5, .box [rI 0, rI 0])] [] [] (by kernel_rfl) trivial) ?_
 refine k_seq ?_
 replace h := bs' h
 obtain ⟨v1, hv1, h⟩ := h
 refine k_sreg (r_go [(0, .d false [.sl none (a0.map (eF eI))]), (1, .d false [.sl none (a1.map eI)]), (4, .box [rI 0, rI 0]), (5, .box [rI 0, rI 0]), (12, .p (.bool (!v1)))] [(2, {call := some ([.d false [.sl none (a0.map (eF eI))], .d false [.sl none (a1.map eI)]], [.p (.bool v1)], true)})] [([.d false [.sl none (a0.map (eF eI))], .d false [.sl none (a1.map eI)]] : List Arg) = [.d false [.sl none (a0.map (eF eI))], .d false [.sl none (a1.map eI)]], Meets Try.prog 99 ([.d false [.sl none (a0.map (eF eI))], .d false [.sl none (a1.map eI)]] ++ []) { vals := [.p (.bool v1)] }, (!true || List.all [.p (.bool v1)] simpleR) = true] (by kernel_rfl) ⟨rfl, (wk_spec_gwAsked hv1), (bt rfl), trivial⟩) ?_
 refine k_cond (b := (!v1)) (by kernel_rfl) (fun hc2_1 => ?_) (fun hc2_1 => ?_)
 ·replace h := ite_t hc2_1 h
  refine k_sreg (r_go [(4, .box [rI 0, rI 0]), (5, .box [rI 0, rI 0]), (6, .p (.bool false))] [] [] (by kernel_rfl) trivial) ?_
  refine k_ret ?_
  refine q_r ?_
  obtain rfl := oi h
  exact e_ret (ls := [(.p (.agg #[.int .i64 0, .int .i64 0]), 4), (.p (.agg #[.int .i64 0, .int .i64 0]), 5), (.p (.bool false), 6)]) (by kernel_rfl) rfl (by kernel_rfl) rfl
 ·replace h := ite_f hc2_1 h
  refine k_skip ?_
  refine q_n ?_
  replace h := bs' h
  obtain ⟨v3, hv3, h⟩ := h
  refine k_sreg (r_go [(4, .box [rI 0, rI 0]), (5, .box [rI 0, rI 0]), (7, .box (eRt v3.1)), (8, .box (eRt v3.2))] [(2, {call := some ([.d false [.sl none (a0.map (eF eI))], .d false [.sl none (a1.map eI)]], [.p (vRt v3.1), .p (vRt v3.2)], true)})] [([.d false [.sl none (a0.map (eF eI))], .d false [.sl none (a1.map eI)]] : List Arg) = [.d false [.sl none (a0.map (eF eI))], .d false [.sl none (a1.map eI)]], Meets Try.prog 92 ([.d false [.sl none (a0.map (eF eI))], .d false [.sl none (a1.map eI)]] ++ []) { vals := [.p (vRt v3.1), .p (vRt v3.2)] }, (!true || List.all [.p (vRt v3.1), .p (vRt v3.2)] simpleR) = true] (by kernel_rfl) ⟨rfl, (wk_spec_gwBounds hv3), (bt rfl), trivial⟩) ?_
  refine k_sreg (r_draw Try_mixed 3 [(2, 4)] [(4, .box (eRt v3.1)), (5, .box (eRt v3.2)), (6, .p (.bool true))] [] [] (by kernel_rfl) trivial) ?_
  refine k_ret ?_
  obtain rfl := oi h
  exact e_ret (ls := [(.p (vRt v3.1), 4), (.p (vRt v3.2), 5), (.p (.bool true), 6)]) (by kernel_rfl) rfl (by kernel_rfl) rfl
theorem wk_impl_TimesVector {a0 : (List (List Int))} {a1 : (List Int)}  {r : ((List Int) × Bool)} (h : impl_TimesVector a0 a1 = some r) : Meets Try.prog 39 [.d false [.sl none (a0.map (eF eI))], .d false [.sl none (a1.map eI)]] { vals := [.ov false [.sl (some 3) (r.1.map eI)], .p (.bool r.2)] } := by
 refine Meets_ofL (by kernel_rfl) Try.func39 rfl (by kernel_rfl) (l0 := [(0, .d false [.sl none (a0.map (eF eI))]), (1, .d false [.sl none (a1.map eI)])]) (by kernel_rfl) ?_
 unfold impl_TimesVector at h
 refine k_sreg (r_go [(0, .d false [.sl none (a0.map (eF eI))]), (1, .d false [.sl none (a1.map eI)])] [] [] (by kernel_rfl) trivial) ?_
 refine k_seq ?_
 replace h := bs' h
 obtain ⟨v1, hv1, h⟩ := h
 refine k_sreg (r_go [(0, .d false [.sl none (a0.map (eF eI))]), (1, .d false [.sl none (a1.map eI)]), (9, .p (.bool (!v1)))] [(2, {call := some ([.d false [.sl none (a0.map (eF eI))], .d false [.sl none (a1.map eI)]], [.p (.bool v1)], true)})] [([.d false [.sl none (a0.map (eF eI))], .d false [.sl none (a1.map eI)]] : List Arg) = [.d false [.sl none (a0.map (eF eI))], .d false [.sl none (a1.map eI)]], Meets Try.prog 105 ([.d false [.sl none (a0.map (eF eI))], .d false [.sl none (a1.map eI)]] ++ []) { vals := [.p (.bool v1)] }, (!true || List.all [.p (.bool v1)] simpleR) = true] (by kernel_rfl) ⟨rfl, (wk_impl_isVectorOf hv1), (bt rfl), trivial⟩) ?_
 refine k_cond (b := (!v1)) (by kernel_rfl) (fun hc2_1 => ?_) (fun hc2_1 => ?_)
 ·replace h := ite_t hc2_1 h
  refine k_sreg (r_go [(4, .ov false [.sl (some 3) []]), (5, .p (.bool false))] [] [] (by kernel_rfl) trivial) ?_
  refine k_ret ?_
  refine q_r ?_
  obtain rfl := oi h
  exact e_ret (ls := [(.ov false [.sl (some 3) []], 4), (.p (.bool false), 5)]) (by kernel_rfl) rfl (by kernel_rfl) rfl
 ·replace h := ite_f hc2_1 h
  refine k_skip ?_
  refine q_n ?_
  replace h := bs' h
  obtain ⟨v3, hv3, h⟩ := h
  refine k_sreg (r_go [(4, .ov false [.sl (some 3) (v3.map eI)]), (5, .p (.bool true))] [(2, {call := some ([.d false [.sl none (a0.map (eF eI))], .d false [.sl none (a1.map eI)]], [.ov false [.sl (some 3) (v3.map eI)]], true)})] [([.d false [.sl none (a0.map (eF eI))], .d false [.sl none (a1.map eI)]] : List Arg) = [.d false [.sl none (a0.map (eF eI))], .d false [.sl none (a1.map eI)]], Meets Try.prog 110 ([.d false [.sl none (a0.map (eF eI))], .d false [.sl none (a1.map eI)]] ++ []) { vals := [.ov false [.sl (some 3) (v3.map eI)]] }, (!true || List.all [.ov false [.sl (some 3) (v3.map eI)]] simpleR) = true] (by kernel_rfl) ⟨rfl, (wk_impl_times hv3), (bt (sa_o (wnR1 (wnL_enc wn_I) rfl) rfl)), trivial⟩) ?_
  refine k_ret ?_
  obtain rfl := oi h
  exact e_ret (ls := [(.ov false [.sl (some 3) (v3.map eI)], 4), (.p (.bool true), 5)]) (by kernel_rfl) rfl (by kernel_rfl) rfl
theorem wk_spec_TimesVector {a0 : (List (List Int))} {a1 : (List Int)}  {r : ((List Int) × Bool)} (h : spec_TimesVector a0 a1 = some r) : Meets Try.prog 40 [.d false [.sl none (a0.map (eF eI))], .d false [.sl none (a1.map eI)]] { vals := [.ov false [.sl (some 3) (r.1.map eI)], .p (.bool r.2)] } := by
 refine Meets_ofL (by kernel_rfl) Try.func40 rfl (by kernel_rfl) (l0 := [(0, .d false [.sl none (a0.map (eF eI))]), (1, .d false [.sl none (a1.map eI)])]) (by kernel_rfl) ?_
 unfold spec_TimesVector at h
 refine k_sreg (r_go [(0, .d false [.sl none (a0.map (eF eI))]), (1, .d false [.sl none (a1.map eI)])] [] [] (by kernel_rfl) trivial) ?_
 refine k_seq ?_
 replace h := bs' h
 obtain ⟨v1, hv1, h⟩ := h
 refine k_sreg (r_go [(0, .d false [.sl none (a0.map (eF eI))]), (1, .d false [.sl none (a1.map eI)]), (9, .p (.bool (!v1)))] [(2, {call := some ([.d false [.sl none (a0.map (eF eI))], .d false [.sl none (a1.map eI)]], [.p (.bool v1)], true)})] [([.d false [.sl none (a0.map (eF eI))], .d false [.sl none (a1.map eI)]] : List Arg) = [.d false [.sl none (a0.map (eF eI))], .d false [.sl none (a1.map eI)]], Meets Try.prog 99 ([.d false [.sl none (a0.map (eF eI))], .d false [.sl none (a1.map eI)]] ++ []) { vals := [.p (.bool v1)] }, (!true || List.all [.p (.bool v1)] simpleR) = true] (by kernel_rfl) ⟨rfl, (wk_spec_gwAsked hv1), (bt rfl), trivial⟩) ?_
 refine k_cond (b := (!v1)) (by kernel_rfl) (fun hc2_1 => ?_) (fun hc2_1 => ?_)
 ·replace h := ite_t hc2_1 h
  refine k_sreg (r_go [(4, .ov false [.sl (some 3) []]), (5, .p (.bool false))] [] [] (by kernel_rfl) trivial) ?_
  refine k_ret ?_
  refine q_r ?_
  obtain rfl := oi h
  exact e_ret (ls := [(.ov false [.sl (some 3) []], 4), (.p (.bool false), 5)]) (by kernel_rfl) rfl (by kernel_rfl) rfl
 ·replace h := ite_f hc2_1 h
  refine k_skip ?_
  refine q_n ?_
  replace h := bs' h
  obtain ⟨v3, hv3, h⟩ := h
  refine k_sreg (r_go [(4, .ov false [.sl (some 3) (v3.map eI)]), (5, .p (.bool true))] [(2, {call := some ([.d false [.sl none (a0.map (eF eI))], .d false [.sl none (a1.map eI)]], [.ov false [.sl (some 3) (v3.map eI)]], true)})] [([.d false [.sl none (a0.map (eF eI))], .d false [.sl none (a1.map eI)]] : List Arg) = [.d false [.sl none (a0.map (eF eI))], .d false [.sl none (a1.map eI)]], Meets Try.prog 111 ([.d false [.sl none (a0.map (eF eI))], .d false [.sl none (a1.map eI)]] ++ []) { vals := [.ov false [.sl (some 3) (v3.map eI)]] }, (!true || List.all [.ov false [.sl (some 3) (v3.map eI)]] simpleR) = true] (by kernel_rfl) ⟨rfl, (wk_spec_gwTimes hv3), (bt (sa_o (wnR1 (wnL_enc wn_I) rfl) rfl)), trivial⟩) ?_
  refine k_ret ?_
  obtain rfl := oi h
  exact e_ret (ls := [(.ov false [.sl (some 3) (v3.map eI)], 4), (.p (.bool true), 5)]) (by kernel_rfl) rfl (by kernel_rfl) rfl
theorem wk_laws_qInts {a0 : (List Int)} {a1 : (List Int)}  {r : Bool} (h : laws_qInts a0 a1 = some r) : Meets Try.prog 41 [.d false [.sl none (a0.map eI)], .d false [.sl none (a1.map eI)]] { vals := [.p (.bool r)] } := by
 refine Meets_ofL (by kernel_rfl) Try.func41 rfl (by kernel_rfl) (l0 := [(0, .d false [.sl none (a0.map eI)]), (1, .d false [.sl none (a1.map eI)])]) (by kernel_rfl) ?_
 unfold laws_qInts at h
 refine k_sreg (r_go [(0, .d false [.sl none (a0.map eI)]), (1, .d false [.sl none (a1.map eI)])] [] [] (by kernel_rfl) trivial) ?_
 refine k_seq ?_
 refine k_sreg (r_go [(0, .d false [.sl none (a0.map eI)]), (1, .d false [.sl none (a1.map eI)]), (10, .p (.bool ((a0.length : Int) != (a1.length : Int))))] [(1, {n := some a0.length}), (3, {n := some a1.length})] [(a0.map eI).length = a0.length, (a1.map eI).length = a1.length] (by kernel_rfl) ⟨(List.length_map ..), (List.length_map ..), trivial⟩) ?_
 refine k_cond (b := ((a0.length : Int) != (a1.length : Int))) (by kernel_rfl) (fun hc2_0 => ?_) (fun hc2_0 => ?_)
 ·replace h := ite_t hc2_0 h
  refine k_sreg (r_go [(4, .p (.bool false))] [] [] (by kernel_rfl) trivial) ?_
  refine k_ret ?_
  refine q_r ?_
  obtain rfl := oi h
  exact e_ret (ls := [(.p (.bool false), 4)]) (by kernel_rfl) rfl (by kernel_rfl) rfl
 ·replace h := ite_f hc2_0 h
  refine k_skip ?_
  refine q_n ?_
  refine k_join (J := fun (x : Unit) => []) (K := fun x => laws_qInts_k1 x = some r) (fun x2 h => ?_) ?_
  ·unfold laws_qInts_k1 at h
   refine k_sreg (r_go [(4, .p (.bool true))] [] [] (by kernel_rfl) trivial) ?_
   refine k_ret ?_
   obtain rfl := oi h
   exact e_ret (ls := [(.p (.bool true), 4)]) (by kernel_rfl) rfl (by kernel_rfl) rfl
  ·refine k_sreg (r_go [(0, .d false [.sl none (a0.map eI)]), (1, .d false [.sl none (a1.map eI)]), (12, .p (iV (a0.length : Int))), (13, .p (iV 0))] [(1, {n := some a0.length})] [(a0.map eI).length = a0.length] (by kernel_rfl) ⟨(List.length_map ..), trivial⟩) ?_
   refine k_block ?_
   obtain ⟨y4, hl_x3, hk_x3⟩ := bs' h
   clear h
   refine k_loop (J := fun (x : Int) => [(0, .d false [.sl none (a0.map eI)]), (1, .d false [.sl none (a1.map eI)]), (12, .p (iV (a0.length : Int))), (13, .p (iV x))]) hl_x3 (wk_of (by kernel_rfl) (by kernel_rfl)) (fun x3 o_x3 h hy_x3 => ?_)
   unfold laws_qInts_b1 at h
   refine k_sreg (r_go [(0, .d false [.sl none (a0.map eI)]), (1, .d false [.sl none (a1.map eI)]), (12, .p (iV (a0.length : Int))), (13, .p (iV x3)), (14, .p (.bool (decide (x3 < (a0.length : Int)))))] [] [] (by kernel_rfl) trivial) ?_
   refine k_seq ?_
   refine k_cond (b := (decide (x3 < (a0.length : Int)))) (by kernel_rfl) (fun hc5_4 => ?_) (fun hc5_4 => ?_)
   ·replace h := ite_t hc5_4 h
    refine k_skip ?_
    refine q_n ?_
    refine k_seq ?_
    refine k_block ?_
    refine k_sreg (r_go [(0, .d false [.sl none (a0.map eI)]), (1, .d false [.sl none (a1.map eI)]), (5, .p (iV x3)), (12, .p (iV (a0.length : Int))), (13, .p (iV x3))] [] [] (by kernel_rfl) trivial) ?_
    replace h := bs' h
    obtain ⟨v6, hv6, h⟩ := h
    replace h := bs' h
    obtain ⟨v7, hv7, h⟩ := h
    refine k_sreg (r_draw Try_mixed 8 [] [(0, .d false [.sl none (a0.map eI)]), (1, .d false [.sl none (a1.map eI)]), (12, .p (iV (a0.length : Int))), (13, .p (iV x3)), (24, .p (.bool (v6 != v7)))] [(2, {row := some (eI v6)}), (6, {row := some (eI v7)})] [0 ≤ x3, (a0.map eI)[(Int.toNat x3)]? = some (eI v6), 0 ≤ x3, (a1.map eI)[(Int.toNat x3)]? = some (eI v7)] (by kernel_rfl) ⟨(idxO_some hv6).1, (map_get eI (idxO_some hv6).2), (idxO_some hv7).1, (map_get eI (idxO_some hv7).2), trivial⟩) ?_
    refine k_cond (b := (v6 != v7)) (by kernel_rfl) (fun hc6_7 => ?_) (fun hc6_7 => ?_)
    ·replace h := ite_t hc6_7 h
     refine k_sreg (r_go [(4, .p (.bool false))] [] [] (by kernel_rfl) trivial) ?_
     refine k_ret ?_
     refine b_r ?_
     refine q_r ?_
     refine lq_r ?_
     refine b_r ?_
     refine q_r ?_
     have hyy := hy_x3 _ (oi h).symm
     subst hyy
     have h := hk_x3
     dsimp only [Sum.elim] at h
     obtain rfl := oi h
     exact e_ret (ls := [(.p (.bool false), 4)]) (by kernel_rfl) rfl (by kernel_rfl) rfl
    ·replace h := ite_f hc6_7 h
     refine k_skip ?_
     refine b_n ?_
     refine q_n ?_
     refine k_reg (r_go [(0, .d false [.sl none (a0.map eI)]), (1, .d false [.sl none (a1.map eI)]), (12, .p (iV (a0.length : Int))), (13, .p (iV (w64 (x3 + 1))))] [] [] (by kernel_rfl) trivial) ?_
     exact lq_n (w64 (x3 + 1)) (oi h).symm (wk_of (by kernel_rfl) (by kernel_rfl))
   ·replace h := ite_f hc5_4 h
    refine k_exit ?_
    refine q_x ?_
    refine lq_x ?_
    refine b_x ?_
    have hyy := hy_x3 _ (oi h).symm
    subst hyy
    have h := hk_x3
    dsimp only [Sum.elim] at h
    refine q_n ?_
    exact ⟨(), h, (wk_of (by kernel_rfl) (by kernel_rfl))⟩
theorem wk_impl_IsVector {a0 : (List Int)}  {r : Bool} (h : impl_IsVector a0 = some r) : Meets Try.prog 42 [.d false [.sl none (a0.map eI)]] { vals := [.p (.bool r)] } := by
 refine Meets_ofL (by kernel_rfl) Try.func42 rfl (by kernel_rfl) (l0 := [(0, .d false [.sl none (a0.map eI)])]) (by kernel_rfl) ?_
 unfold impl_IsVector at h
 refine k_sreg (r_go [(0, .d false [.sl none (a0.map eI)])] [] [] (by kernel_rfl) trivial) ?_
 replace h := bs' h
 obtain ⟨v1, hv1, h⟩ := h
 refine k_sreg (r_go [(2, .p (.bool v1))] [(1, {call := some ([.d false [.sl none (a0.map eI)]], [.p (.bool v1)], true)})] [([.d false [.sl none (a0.map eI)]] : List Arg) = [.d false [.sl none (a0.map eI)]], Meets Try.prog 112 ([.d false [.sl none (a0.map eI)]] ++ []) { vals := [.p (.bool v1)] }, (!true || List.all [.p (.bool v1)] simpleR) = true] (by kernel_rfl) ⟨rfl, (wk_impl_isVector hv1), (bt rfl), trivial⟩) ?_
 refine k_ret ?_
 obtain rfl := oi h
 exact e_ret (ls := [(.p (.bool v1), 2)]) (by kernel_rfl) rfl (by kernel_rfl) rfl
theorem wk_spec_IsVector {a0 : (List Int)}  {r : Bool} (h : spec_IsVector a0 = some r) : Meets Try.prog 43 [.d false [.sl none (a0.map eI)]] { vals := [.p (.bool r)] } := by
 refine Meets_ofL (by kernel_rfl) Try.func43 rfl (by kernel_rfl) (l0 := [(0, .d false [.sl none (a0.map eI)])]) (by kernel_rfl) ?_
 unfold spec_IsVector at h
 refine k_sreg (r_go [(0, .d false [.sl none (a0.map eI)])] [] [] (by kernel_rfl) trivial) ?_
 replace h := bs' h
 obtain ⟨v1, hv1, h⟩ := h
 refine k_sreg (r_go [(2, .p (.bool v1))] [(1, {call := some ([.d false [.sl none (a0.map eI)]], [.p (.bool v1)], true)})] [([.d false [.sl none (a0.map eI)]] : List Arg) = [.d false [.sl none (a0.map eI)]], Meets Try.prog 113 ([.d false [.sl none (a0.map eI)]] ++ []) { vals := [.p (.bool v1)] }, (!true || List.all [.p (.bool v1)] simpleR) = true] (by kernel_rfl) ⟨rfl, (wk_spec_gwVector hv1), (bt rfl), trivial⟩) ?_
 refine k_ret ?_
 obtain rfl := oi h
 exact e_ret (ls := [(.p (.bool v1), 2)]) (by kernel_rfl) rfl (by kernel_rfl) rfl
theorem wk_laws_qUp {a0 : Qr} {a1 : Qr}  {r : Int} (h : laws_qUp a0 a1 = some r) : Meets Try.prog 44 [.v (vRt a0), .v (vRt a1)] { vals := [.p (iV r)] } := by
 refine Meets_ofL (by kernel_rfl) Try.func44 rfl (by kernel_rfl) (l0 := [(0, .p (vRt a0)), (1, .p (vRt a1))]) (by kernel_rfl) ?_
 unfold laws_qUp at h
 refine k_sreg (r_go [(2, .box (eRt a0)), (3, .box (eRt a1))] [] [] (by kernel_rfl) trivial) ?_
 refine k_sreg (r_go [(5, .p (iV (w64 ((w64 (a0.1 * a1.2)) - (w64 (a1.1 * a0.2))))))] [] [] (by kernel_rfl) trivial) ?_
 refine k_seq ?_
 refine k_block ?_
 refine k_sreg (r_go [(5, .p (iV (w64 ((w64 (a0.1 * a1.2)) - (w64 (a1.1 * a0.2)))))), (17, .p (.bool (decide ((w64 ((w64 (a0.1 * a1.2)) - (w64 (a1.1 * a0.2)))) < 0))))] [] [] (by kernel_rfl) trivial) ?_
 refine k_cond (b := (decide ((w64 ((w64 (a0.1 * a1.2)) - (w64 (a1.1 * a0.2)))) < 0))) (by kernel_rfl) (fun hc3_0 => ?_) (fun hc3_0 => ?_)
 ·replace h := ite_t hc3_0 h
  refine k_sreg (r_go [(4, .p (iV (-1)))] [] [] (by kernel_rfl) trivial) ?_
  refine k_ret ?_
  refine b_r ?_
  refine q_r ?_
  obtain rfl := oi h
  exact e_ret (ls := [(.p (iV (-1)), 4)]) (by kernel_rfl) rfl (by kernel_rfl) rfl
 ·replace h := ite_f hc3_0 h
  refine k_sreg (r_go [(20, .p (.bool (decide ((w64 ((w64 (a0.1 * a1.2)) - (w64 (a1.1 * a0.2)))) > 0))))] [] [] (by kernel_rfl) trivial) ?_
  refine k_cond (b := (decide ((w64 ((w64 (a0.1 * a1.2)) - (w64 (a1.1 * a0.2)))) > 0))) (by kernel_rfl) (fun hc3_1 => ?_) (fun hc3_1 => ?_)
  ·replace h := ite_t hc3_1 h
   refine k_sreg (r_go [(4, .p (iV 1))] [] [] (by kernel_rfl) trivial) ?_
   refine k_ret ?_
   refine b_r ?_
   refine q_r ?_
   obtain rfl := oi h
   exact e_ret (ls := [(.p (iV 1), 4)]) (by kernel_rfl) rfl (by kernel_rfl) rfl
  ·replace h := ite_f hc3_1 h
   refine k_skip ?_
   refine b_n ?_
   refine q_n ?_
   refine k_sreg (r_go [(4, .p (iV 0))] [] [] (by kernel_rfl) trivial) ?_
   refine k_ret ?_
   obtain rfl := oi h
   exact e_ret (ls := [(.p (iV 0), 4)]) (by kernel_rfl) rfl (by kernel_rfl) rfl
theorem wk_impl_RowSums {a0 : (List (List Int))}  {r : ((List Int) × Bool)} (h : impl_RowSums a0 = some r) : Meets Try.prog 45 [.d false [.sl none (a0.map (eF eI))]] { vals := [.ov false [.sl (some 3) (r.1.map eI)], .p (.bool r.2)] } := by
 refine Meets_ofL (by kernel_rfl) Try.func45 rfl (by kernel_rfl) (l0 := [(0, .d false [.sl none (a0.map (eF eI))])]) (by kernel_rfl) ?_
 unfold impl_RowSums at h
 refine k_sreg (r_go [(0, .d false [.sl none (a0.map (eF eI))])] [] [] (by kernel_rfl) trivial) ?_
 refine k_seq ?_
 replace h := bs' h
 obtain ⟨v1, hv1, h⟩ := h
 refine k_sreg (r_go [(0, .d false [.sl none (a0.map (eF eI))]), (6, .p (.bool (!v1)))] [(1, {call := some ([.d false [.sl none (a0.map (eF eI))]], [.p (.bool v1)], true)})] [([.d false [.sl none (a0.map (eF eI))]] : List Arg) = [.d false [.sl none (a0.map (eF eI))]], Meets Try.prog 62 ([.d false [.sl none (a0.map (eF eI))]] ++ []) { vals := [.p (.bool v1)] }, (!true || List.all [.p (.bool v1)] simpleR) = true] (by kernel_rfl) ⟨rfl, (wk_impl_isGraph hv1), (bt rfl), trivial⟩) ?_
 refine k_cond (b := (!v1)) (by kernel_rfl) (fun hc2_1 => ?_) (fun hc2_1 => ?_)
 ·replace h := ite_t hc2_1 h
  refine k_sreg (r_go [(2, .ov false [.sl (some 3) []]), (3, .p (.bool false))] [] [] (by kernel_rfl) trivial) ?_
  refine k_ret ?_
  refine q_r ?_
  obtain rfl := oi h
  exact e_ret (ls := [(.ov false [.sl (some 3) []], 2), (.p (.bool false), 3)]) (by kernel_rfl) rfl (by kernel_rfl) rfl
 ·replace h := ite_f hc2_1 h
  refine k_skip ?_
  refine q_n ?_
  replace h := bs' h
  obtain ⟨v3, hv3, h⟩ := h
  replace h := bs' h
  obtain ⟨v4, hv4, h⟩ := h
  refine k_sreg (r_go [(2, .ov false [.sl (some 3) (v4.map eI)]), (3, .p (.bool true))] [(3, {n := some a0.length}), (4, {call := some ([.d false [.sl none (([1]).map eI)], wI (a0.length : Int)], [.ov false [.sl (some 3) (v3.map eI)]], true)}), (5, {call := some ([.d false [.sl none (a0.map (eF eI))], .d false [.sl none (v3.map eI)]], [.ov false [.sl (some 3) (v4.map eI)]], true)})] [(a0.map (eF eI)).length = a0.length, ([.d false [.sl none (eraL (([1]).map eI))], wI (a0.length : Int)] : List Arg) = [.d false [.sl none (([1]).map eI)], wI (a0.length : Int)], Meets Try.prog 114 ([.d false [.sl none (([1]).map eI)], wI (a0.length : Int)] ++ []) { vals := [.ov false [.sl (some 3) (v3.map eI)]] }, (!true || List.all [.ov false [.sl (some 3) (v3.map eI)]] simpleR) = true, ([.d false [.sl none (a0.map (eF eI))], .d false [.sl none (eraL (v3.map eI))]] : List Arg) = [.d false [.sl none (a0.map (eF eI))], .d false [.sl none (v3.map eI)]], Meets Try.prog 110 ([.d false [.sl none (a0.map (eF eI))], .d false [.sl none (v3.map eI)]] ++ []) { vals := [.ov false [.sl (some 3) (v4.map eI)]] }, (!true || List.all [.ov false [.sl (some 3) (v4.map eI)]] simpleR) = true] (by kernel_rfl) ⟨(List.length_map ..), (by simp only [eraL_enc (h := eI) er_I]), (wk_slices_Repeat_Lint_int hv3), (bt (sa_o (wnR1 (wnL_enc wn_I) rfl) rfl)), (by simp only [eraL_enc (h := eI) er_I]), (wk_impl_times hv4), (bt (sa_o (wnR1 (wnL_enc wn_I) rfl) rfl)), trivial⟩) ?_
  refine k_ret ?_
  obtain rfl := oi h
  exact e_ret (ls := [(.ov false [.sl (some 3) (v4.map eI)], 2), (.p (.bool true), 3)]) (by kernel_rfl) rfl (by kernel_rfl) rfl
theorem wk_spec_RowSums {a0 : (List (List Int))}  {r : ((List Int) × Bool)} (h : spec_RowSums a0 = some r) : Meets Try.prog 46 [.d false [.sl none (a0.map (eF eI))]] { vals := [.ov false [.sl (some 3) (r.1.map eI)], .p (.bool r.2)] } := by
 refine Meets_ofL (by kernel_rfl) Try.func46 rfl (by kernel_rfl) (l0 := [(0, .d false [.sl none (a0.map (eF eI))])]) (by kernel_rfl) ?_
 unfold spec_RowSums at h
 refine k_sreg (r_go [(0, .d false [.sl none (a0.map (eF eI))])] [] [] (by kernel_rfl) trivial) ?_
 refine k_seq ?_
 replace h := bs' h
 obtain ⟨v1, hv1, h⟩ := h
 refine k_sreg (r_go [(0, .d false [.sl none (a0.map (eF eI))]), (8, .p (.bool (!v1)))] [(1, {call := some ([.d false [.sl none (a0.map (eF eI))]], [.p (.bool v1)], true)})] [([.d false [.sl none (a0.map (eF eI))]] : List Arg) = [.d false [.sl none (a0.map (eF eI))]], Meets Try.prog 65 ([.d false [.sl none (a0.map (eF eI))]] ++ []) { vals := [.p (.bool v1)] }, (!true || List.all [.p (.bool v1)] simpleR) = true] (by kernel_rfl) ⟨rfl, (wk_spec_grGood hv1), (bt rfl), trivial⟩) ?_
 refine k_cond (b := (!v1)) (by kernel_rfl) (fun hc2_1 => ?_) (fun hc2_1 => ?_)
 ·replace h := ite_t hc2_1 h
  refine k_sreg (r_go [(2, .ov false [.sl (some 3) []]), (3, .p (.bool false))] [] [] (by kernel_rfl) trivial) ?_
  refine k_ret ?_
  refine q_r ?_
  obtain rfl := oi h
  exact e_ret (ls := [(.ov false [.sl (some 3) []], 2), (.p (.bool false), 3)]) (by kernel_rfl) rfl (by kernel_rfl) rfl
 ·replace h := ite_f hc2_1 h
  refine k_skip ?_
  refine q_n ?_
  replace h := bs' h
  obtain ⟨u3, hu3, h⟩ := h
  refine k_sreg (r_go [(0, .d false [.sl none (a0.map (eF eI))]), (4, .ov false [.sl (some 3) ((List.replicate (Int.toNat (a0.length : Int)) (0 : Int)).map eI)])] [(1, {n := some a0.length}), (2, {fix := some (11, .ov false [.sl (some 3) ((List.replicate (Int.toNat (a0.length : Int)) (0 : Int)).map eI)])})] [(a0.map (eF eI)).length = a0.length, (a0.length : Int) = (a0.length : Int), 0 ≤ (a0.length : Int), (a0.length : Int) ≤ 1099511627776, (SV.ov false [.sl (some 3) (List.replicate (Int.toNat (a0.length : Int)) [rI 0])] : SV) = .ov false [.sl (some 3) ((List.replicate (Int.toNat (a0.length : Int)) (0 : Int)).map eI)]] (by kernel_rfl) ⟨(List.length_map ..), rfl, (guardO_some hu3).1, (guardO_some hu3).2, (congrArg (fun z => SV.ov false [.sl (some 3) z]) (rep_fix eI (0 : Int))), trivial⟩) ?_
  refine k_join (J := fun (x : (List Int)) => [(0, .d false [.sl none (a0.map (eF eI))]), (4, .ov false [.sl (some 3) (x.map eI)])]) (K := fun x => spec_RowSums_k1 a0 x = some r) (fun x4 h => ?_) ?_
  ·unfold spec_RowSums_k1 at h
   replace h := bs' h
   obtain ⟨v5, hv5, h⟩ := h
   refine k_sreg (r_go [(2, .ov false [.sl (some 3) (v5.map eI)]), (3, .p (.bool true))] [(2, {call := some ([.d false [.sl none (a0.map (eF eI))], .d false [.sl none (x4.map eI)]], [.ov false [.sl (some 3) (v5.map eI)]], true)})] [([.d false [.sl none (a0.map (eF eI))], .d false [.sl none (eraL (x4.map eI))]] : List Arg) = [.d false [.sl none (a0.map (eF eI))], .d false [.sl none (x4.map eI)]], Meets Try.prog 111 ([.d false [.sl none (a0.map (eF eI))], .d false [.sl none (x4.map eI)]] ++ []) { vals := [.ov false [.sl (some 3) (v5.map eI)]] }, (!true || List.all [.ov false [.sl (some 3) (v5.map eI)]] simpleR) = true] (by kernel_rfl) ⟨(by simp only [eraL_enc (h := eI) er_I]), (wk_spec_gwTimes hv5), (bt (sa_o (wnR1 (wnL_enc wn_I) rfl) rfl)), trivial⟩) ?_
   refine k_ret ?_
   obtain rfl := oi h
   exact e_ret (ls := [(.ov false [.sl (some 3) (v5.map eI)], 2), (.p (.bool true), 3)]) (by kernel_rfl) rfl (by kernel_rfl) rfl
  ·refine k_sreg (r_go [(0, .d false [.sl none (a0.map (eF eI))]), (4, .ov false [.sl (some 3) ((List.replicate (Int.toNat (a0.length : Int)) (0 : Int)).map eI)]), (13, .p (iV ((List.replicate (Int.toNat (a0.length : Int)) (0 : Int)).length : Int))), (14, .p (iV 0))] [(1, {n := some (List.replicate (Int.toNat (a0.length : Int)) (0 : Int)).length})] [((List.replicate (Int.toNat (a0.length : Int)) (0 : Int)).map eI).length = (List.replicate (Int.toNat (a0.length : Int)) (0 : Int)).length] (by kernel_rfl) ⟨(List.length_map ..), trivial⟩) ?_
   refine k_block ?_
   obtain ⟨y7, hl_x6, hk_x6⟩ := bs' h
   clear h
   refine k_loop (J := fun (x : ((List Int) × Int)) => [(0, .d false [.sl none (a0.map (eF eI))]), (4, .ov false [.sl (some 3) (x.1.map eI)]), (13, .p (iV ((List.replicate (Int.toNat (a0.length : Int)) (0 : Int)).length : Int))), (14, .p (iV x.2))]) hl_x6 (wk_of (by kernel_rfl) (by kernel_rfl)) (fun x6 o_x6 h hy_x6 => ?_)
   unfold spec_RowSums_b1 at h
   refine k_sreg (r_go [(0, .d false [.sl none (a0.map (eF eI))]), (4, .ov false [.sl (some 3) (x6.1.map eI)]), (13, .p (iV ((List.replicate (Int.toNat (a0.length : Int)) (0 : Int)).length : Int))), (14, .p (iV x6.2)), (15, .p (.bool (decide (x6.2 < ((List.replicate (Int.toNat (a0.length : Int)) (0 : Int)).length : Int)))))] [] [] (by kernel_rfl) trivial) ?_
   refine k_seq ?_
   refine k_cond (b := (decide (x6.2 < ((List.replicate (Int.toNat (a0.length : Int)) (0 : Int)).length : Int)))) (by kernel_rfl) (fun hc5_7 => ?_) (fun hc5_7 => ?_)
   ·replace h := ite_t hc5_7 h
    refine k_skip ?_
    refine q_n ?_
    refine k_seq ?_
    refine k_block ?_
    refine k_sreg (r_go [(0, .d false [.sl none (a0.map (eF eI))]), (4, .ov false [.sl (some 3) (x6.1.map eI)]), (5, .p (iV x6.2)), (13, .p (iV ((List.replicate (Int.toNat (a0.length : Int)) (0 : Int)).length : Int))), (14, .p (iV x6.2))] [] [] (by kernel_rfl) trivial) ?_
    replace h := bs' h
    obtain ⟨v9, hv9, h⟩ := h
    refine k_reg (r_go [(0, .d false [.sl none (a0.map (eF eI))]), (4, .ov false [.sl (some 3) ((x6.1.set (Int.toNat x6.2) 1).map eI)]), (13, .p (iV ((List.replicate (Int.toNat (a0.length : Int)) (0 : Int)).length : Int))), (14, .p (iV x6.2))] [(2, {row := some (eI v9)}), (3, {row := some (eI v9), fix := some (4, .ov false [.sl (some 3) ((x6.1.set (Int.toNat x6.2) 1).map eI)])})] [0 ≤ x6.2, (x6.1.map eI)[(Int.toNat x6.2)]? = some (eI v9), getRow [[.sl (some 3) (x6.1.map eI)]] [(0, 0), ((Int.toNat x6.2), 0)] = some (eI v9), (SV.ov false [.sl (some 3) (setL (x6.1.map eI) [((Int.toNat x6.2), 0)] [rI 1])] : SV) = .ov false [.sl (some 3) ((x6.1.set (Int.toNat x6.2) 1).map eI)]] (by kernel_rfl) ⟨(idxO_some hv9).1, (map_get eI (idxO_some hv9).2), ((gr0 rfl).trans (gre (map_get eI (idxO_some hv9).2))), (congrArg (fun z => SV.ov false [.sl (some 3) z]) (set1 (f := eI) (y := 1) (idxO_some hv9).2 rfl)), trivial⟩) ?_
    refine b_n ?_
    refine q_n ?_
    refine k_reg (r_go [(0, .d false [.sl none (a0.map (eF eI))]), (4, .ov false [.sl (some 3) ((x6.1.set (Int.toNat x6.2) 1).map eI)]), (13, .p (iV ((List.replicate (Int.toNat (a0.length : Int)) (0 : Int)).length : Int))), (14, .p (iV (w64 (x6.2 + 1))))] [] [] (by kernel_rfl) trivial) ?_
    exact lq_n ((x6.1.set (Int.toNat x6.2) 1), (w64 (x6.2 + 1))) (oi h).symm (wk_of (by kernel_rfl) (by kernel_rfl))
   ·replace h := ite_f hc5_7 h
    refine k_exit ?_
    refine q_x ?_
    refine lq_x ?_
    refine b_x ?_
    have hyy := hy_x6 _ (oi h).symm
    subst hyy
    have h := hk_x6
    refine q_n ?_
    exact ⟨x6.1, h, (wk_of (by kernel_rfl) (by kernel_rfl))⟩
end Go.PV

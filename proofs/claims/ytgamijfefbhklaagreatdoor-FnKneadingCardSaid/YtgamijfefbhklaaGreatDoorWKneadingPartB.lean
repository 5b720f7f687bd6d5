/-
  Walks through the functions that the law reaches: each answers as its plain definition does.
  Conditions: none.
-/
import Derived.KernelRfl
import Derived.Shelf.Strings.Builder1
import Derived.Shelf.Strings.SlTrimAscii
import Derived.Shelf.Small.Strs
import Derived.Test.YtgamijfefbhklaaGreatDoorWKneadingPartA
import Derived.Test.YtgamijfefbhklaaGreatDoorProg
import Derived.Test.YtgamijfefbhklaaGreatDoorPvCx
open Go Go.PV Go.Proofs
set_option linter.all false
namespace Go.PV
attribute [local irreducible] pvC pvL pvD sOp seqQ blockQ Meets MeetsB Ok OkL RegOk agree endQ seqL blockL loopQ endL endLB
theorem wk_strings_Builder_WriteByte {a0 : (Unit × (List Int))} {a1 : Int}  {r : (Unit × (Unit × (List Int)))} (h : strings_Builder_WriteByte a0 a1 = some r) : MeetsB Tryz.prog 39 (.box [.bp 65, .sl (some 5) (a0.2.map (eU .u8))]) [.v (.int .u8 a1)] [.p (.nilIface)] (.box [.bp 65, .sl (some 5) (r.2.2.map (eU .u8))]) := by
 refine mob Tryz.func39 [(0, .box [.bp 65, .sl (some 5) (a0.2.map (eU .u8))]), (1, .p (.int .u8 a1))] ?_
 unfold strings_Builder_WriteByte at h
 refine k_sreg (r_gq [(0, .box [.bp 65, .sl (some 5) (a0.2.map (eU .u8))]), (1, .p (.int .u8 a1))] [] trivial) ?_
 replace h := bs h
 obtain ⟨v1, hv1, h⟩ := h
 refine k_sreg (r_gq [(0, .box [.bp 65, .sl (some 5) (v1.2.map (eU .u8))]), (1, .p (.int .u8 a1))] [(1, {lend := some (none, [], .box [.bp 65, .sl (some 5) (v1.2.map (eU .u8))], false)})] (A1 (wk_strings_Builder_copyCheck hv1))) ?_
 replace h := bs h
 obtain ⟨u2, hu2, h⟩ := h
 refine k_sreg (r_gq [(0, .box [.bp 65, .sl (some 5) ((v1.2 ++ [a1]).map (eU .u8))])] [(7, {take := some (11, [.sl (some 5) (v1.2.map (eU .u8))]), fix := some (14, .ov false [.sl (some 5) ((v1.2 ++ [a1]).map (eU .u8))])})] (A5 (show frR [.sl (some 5) (v1.2.map (eU .u8))] = false from rfl) (show getRow [[.bp 65, .sl (some 5) (v1.2.map (eU .u8))]] [(0, 1)] = some [.sl (some 5) (v1.2.map (eU .u8))] from rfl) (show List.length ((v1.2.map (eU .u8)) : List (List C)) + List.length ((([a1]).map (eU .u8)) : List (List C)) ≤ 1099511627776 from (by have hg := (guardO_some hu2); simpa using hg)) (show ∀ row ∈ ((([a1]).map (eU .u8)) : List (List C)), row.length = 1 from (rows_len fun _ => rfl)) (show (SV.ov false [.sl (some 5) ((v1.2.map (eU .u8)) ++ (([a1]).map (eU .u8)))] : SV) = .ov false [.sl (some 5) ((v1.2 ++ [a1]).map (eU .u8))] from (congrArg (fun z => SV.ov false [.sl (some 5) z]) (List.map_append ..).symm)))) ?_
 refine k_sreg (r_gq [(0, .box [.bp 65, .sl (some 5) ((v1.2 ++ [a1]).map (eU .u8))]), (4, .p (.nilIface))] [] trivial) ?_
 refine k_ret ?_
 obtain rfl := oi h
 exact ebr [(.p (.nilIface), 4)]
theorem wk_strings_Builder_String {a0 : (Unit × (List Int))} {r : ByteArray} (h : strings_Builder_String a0 = some r) : MeetsB Tryz.prog 41 (.box [.bp 65, .sl (some 5) (a0.2.map (eU .u8))]) [] [.p (.string r)] .u := by
 unfold strings_Builder_String at h
 obtain ⟨u1, hu1, h⟩ := bind_some' h
 have hg := guardO_some hu1
 obtain rfl := Option.some.inj h
 rw [bytes_rows hg.2]
 exact meets_bstring Go.Proofs.Tryz.lays169 Go.Proofs.Tryz.Builder_Extra_169 (by simpa using hg.1) (by kernel_rfl) (by kernel_rfl)
theorem wk_impl_KneadingOf {a0 : (List Qp)} {a1 : Int}  {r : (ByteArray × Bool)} (h : impl_KneadingOf a0 a1 = some r) : Meets Tryz.prog 10 [.d false [.sl none (a0.map ePt)], wI a1] { vals := [.p (.string r.1), .p (.bool r.2)] } := by
 refine mo Tryz.func10 [(0, .d false [.sl none (a0.map ePt)]), (1, .p (iV a1))] ?_
 unfold impl_KneadingOf at h
 refine k_sreg (r_gq [(0, .d false [.sl none (a0.map ePt)]), (1, .p (iV a1))] [] trivial) ?_
 replace h := bs h
 obtain ⟨v1, hv1, h⟩ := h
 refine k_sreg (r_gq [(6, .d false [.sl none (v1.1.map eRt)]), (7, .box (eRt v1.2.1)), (8, .p (.bool v1.2.2))] [(2, {call := some (none, [.d false [.sl none (v1.1.map eRt)], .p (vRt v1.2.1), .p (.bool v1.2.2)], false)})] (A1 (wk_impl_kneading hv1))) ?_
 refine k_seq ?_
 refine k_sreg (r_gq [(6, .d false [.sl none (v1.1.map eRt)]), (7, .box (eRt v1.2.1)), (20, .p (.bool (!v1.2.2)))] [] trivial) ?_
 refine kc (!v1.2.2) (fun hc2_1 => ?_) (fun hc2_1 => ?_)
 ·replace h := ite_t hc2_1 h
  refine k_sreg (r_gq [(4, .p (.string ByteArray.empty)), (5, .p (.bool false))] [] trivial) ?_
  refine k_ret ?_
  refine q_r ?_
  obtain rfl := oi h
  exact er [(.p (.string ByteArray.empty), 4), (.p (.bool false), 5)]
 ·replace h := ite_f hc2_1 h
  refine k_skip ?_
  refine q_n ?_
  refine k_sreg (r_gq [(6, .d false [.sl none (v1.1.map eRt)]), (7, .box (eRt v1.2.1)), (9, .box [.bp 65, .sl (some 5) []])] [] trivial) ?_
  refine k_join (J := fun (x : (List Int)) => [(9, .box [.bp 65, .sl (some 5) (x.map (eU .u8))])]) (K := fun x => impl_KneadingOf_k1 x = some r) (fun x3 h => ?_) ?_
  ·unfold impl_KneadingOf_k1 at h
   replace h := bs h
   obtain ⟨v4, hv4, h⟩ := h
   refine k_sreg (r_gq [(4, .p (.string v4)), (5, .p (.bool true))] [(0, {lend := some (none, [.p (.string v4)], .u, true)})] (A1 (wk_strings_Builder_String hv4))) ?_
   refine k_ret ?_
   obtain rfl := oi h
   exact er [(.p (.string v4), 4), (.p (.bool true), 5)]
  ·refine k_sreg (r_gq [(7, .box (eRt v1.2.1)), (9, .box [.bp 65, .sl (some 5) []]), (21, .d false [.sl none (v1.1.map eRt)]), (22, .p (iV (v1.1.length : Int))), (23, .p (iV 0))] [(1, {n := some v1.1.length})] (A1 (show (v1.1.map eRt).length = v1.1.length from (List.length_map ..)))) ?_
   refine k_block ?_
   obtain ⟨y6, hl_x5, hk_x5⟩ := bs h
   clear h
   refine k_loop (J := fun (x : ((List Int) × Int)) => [(7, .box (eRt v1.2.1)), (9, .box [.bp 65, .sl (some 5) (x.1.map (eU .u8))]), (21, .d false [.sl none (v1.1.map eRt)]), (22, .p (iV (v1.1.length : Int))), (23, .p (iV x.2))]) hl_x5 (wk_of (by kernel_rfl) (by kernel_rfl)) (fun x5 o_x5 h hy_x5 => ?_)
   unfold impl_KneadingOf_b1 at h
   refine k_sreg (r_gq [(7, .box (eRt v1.2.1)), (9, .box [.bp 65, .sl (some 5) (x5.1.map (eU .u8))]), (21, .d false [.sl none (v1.1.map eRt)]), (22, .p (iV (v1.1.length : Int))), (23, .p (iV x5.2)), (24, .p (.bool (decide (x5.2 < (v1.1.length : Int)))))] [] trivial) ?_
   refine k_seq ?_
   refine kc (decide (x5.2 < (v1.1.length : Int))) (fun hc5_6 => ?_) (fun hc5_6 => ?_)
   ·replace h := ite_t hc5_6 h
    refine k_skip ?_
    refine q_n ?_
    refine k_seq ?_
    refine k_block ?_
    replace h := bs h
    obtain ⟨v8, hv8, h⟩ := h
    refine k_sreg (r_gq [(7, .box (eRt v1.2.1)), (9, .box [.bp 65, .sl (some 5) (x5.1.map (eU .u8))]), (11, .box (eRt v8)), (21, .d false [.sl none (v1.1.map eRt)]), (22, .p (iV (v1.1.length : Int))), (23, .p (iV x5.2))] [(0, {row := some (eRt v8)})] (A2 (idxO_some hv8).1 (map_get eRt (idxO_some hv8).2))) ?_
    replace h := bs h
    obtain ⟨v9, hv9, h⟩ := h
    replace h := bs h
    obtain ⟨u10, hu10, h⟩ := h
    replace h := bs h
    obtain ⟨v11, hv11, h⟩ := h
    refine k_reg (r_gq [(7, .box (eRt v1.2.1)), (9, .box [.bp 65, .sl (some 5) (v11.2.2.map (eU .u8))]), (21, .d false [.sl none (v1.1.map eRt)]), (22, .p (iV (v1.1.length : Int))), (23, .p (iV x5.2))] [(2, {call := some (none, [.p (iV v9)], true)}), (4, {pv := some (.int .u8 (strAt (ByteArray.mk #[76, 67, 82]) (w64 (v9 + 1))))}), (5, {lend := some (none, [.p (.nilIface)], .box [.bp 65, .sl (some 5) (v11.2.2.map (eU .u8))], false)})] (A3 (wk_impl_compare hv9) (show PureAt Tryz.prog (.index 9 (.const (.string (ByteArray.mk #[76, 67, 82]))) (.tmp 30)) [.string (ByteArray.mk #[76, 67, 82]), .int .i64 (w64 (v9 + 1))] (.int .u8 (strAt (ByteArray.mk #[76, 67, 82]) (w64 (v9 + 1)))) from (pure_sidx (by kernel_rfl) (guardO_some hu10))) (wk_strings_Builder_WriteByte hv11))) ?_
    refine b_n ?_
    refine q_n ?_
    refine k_reg (r_gq [(7, .box (eRt v1.2.1)), (9, .box [.bp 65, .sl (some 5) (v11.2.2.map (eU .u8))]), (21, .d false [.sl none (v1.1.map eRt)]), (22, .p (iV (v1.1.length : Int))), (23, .p (iV (w64 (x5.2 + 1))))] [] trivial) ?_
    exact lqn (v11.2.2, (w64 (x5.2 + 1))) h
   ·replace h := ite_f hc5_6 h
    refine k_exit ?_
    refine q_x ?_
    refine lq_x ?_
    refine b_x ?_
    have hyy := hy_x5 _ (oi h).symm
    subst hyy
    have h := hk_x5
    refine q_n ?_
    exact jx x5.1 h
theorem wk_spec_raUnit {a0 : Qr}  {r : Bool} (h : spec_raUnit a0 = some r) : Meets Tryz.prog 90 [.v (vRt a0)] { vals := [.p (.bool r)] } := by
 refine mo Tryz.func90 [(0, .p (vRt a0))] ?_
 unfold spec_raUnit at h
 refine k_sreg (r_gq [(1, .box (eRt a0))] [] trivial) ?_
 replace h := bs h
 obtain ⟨v1, hv1, h⟩ := h
 replace h := bs h
 obtain ⟨w3, hw3, h⟩ := h
 refine k_sreg (l1 := [(2, .p (.bool w3))]) ?_ ?_
 ·clear h
  rcases ft v1 with ha0 | ha0
  ·replace hw3 := ite_t ha0 hw3
   replace hw3 := bs hw3
   obtain ⟨v2, hv2, hw3⟩ := hw3
   have hw3 := oi hw3
   subst hw3
   exact (r_gq [(2, .p (.bool v2))] [(1, {call := some (none, [.p (.bool v1)], true)}), (3, gT), (4, gT), (5, gT), (6, gT), (7, {g := some true, call := some (none, [.p (.bool v2)], true)}), (8, bT)] (B6 (wk_spec_raGood hv1) ha0 ha0 ha0 ha0 ha0 (A2 (wk_spec_l1In hv2) ha0)))
  ·replace hw3 := ite_f ha0 hw3
   have hw3 := oi hw3
   subst hw3
   exact (r_gq [(2, .p (.bool false))] [(1, {call := some (none, [.p (.bool v1)], true)}), (3, gF), (4, gF), (5, gF), (6, gF), (7, gF), (8, bF)] (B6 (wk_spec_raGood hv1) ha0 ha0 ha0 ha0 ha0 (A1 ha0)))
 ·refine k_ret ?_
  obtain rfl := oi h
  exact er [(.p (.bool w3), 2)]
theorem wk_spec_imCoord {a0 : Qr}  {r : Bool} (h : spec_imCoord a0 = some r) : Meets Tryz.prog 55 [.v (vRt a0)] { vals := [.p (.bool r)] } := by
 refine mo Tryz.func55 [(0, .p (vRt a0))] ?_
 unfold spec_imCoord at h
 refine k_sreg (r_gq [(1, .box (eRt a0))] [] trivial) ?_
 replace h := bs h
 obtain ⟨v1, hv1, h⟩ := h
 refine k_sreg (l1 := [(2, .p (.bool (v1 && (decide (a0.2 ≤ 100)))))]) ?_ ?_
 ·rcases ft v1 with ha0 | ha0
  ·exact RegOk.of_eq (l2 := [(2, .p (.bool (v1 && (decide (a0.2 ≤ 100)))))]) (r_gq [(2, .p (.bool (decide (a0.2 ≤ 100))))] [(1, {call := some (none, [.p (.bool v1)], true)}), (3, gT), (4, gT), (5, gT), (6, bT)] (A5 (wk_spec_raUnit hv1) ha0 ha0 ha0 ha0)) (by simp [ha0])
  ·exact RegOk.of_eq (l2 := [(2, .p (.bool (v1 && (decide (a0.2 ≤ 100)))))]) (r_gq [(2, .p (.bool false))] [(1, {call := some (none, [.p (.bool v1)], true)}), (3, gF), (4, gF), (5, gF), (6, bF)] (A5 (wk_spec_raUnit hv1) ha0 ha0 ha0 ha0)) (by simp [ha0])
 ·refine k_ret ?_
  obtain rfl := oi h
  exact er [(.p (.bool (v1 && (decide (a0.2 ≤ 100)))), 2)]
theorem wk_spec_imGood {a0 : (List Qp)}  {r : Bool} (h : spec_imGood a0 = some r) : Meets Tryz.prog 48 [.d false [.sl none (a0.map ePt)]] { vals := [.p (.bool r)] } := by
 refine mo Tryz.func48 [(0, .d false [.sl none (a0.map ePt)])] ?_
 unfold spec_imGood at h
 refine k_sreg (r_gq [(0, .d false [.sl none (a0.map ePt)])] [] trivial) ?_
 refine k_seq ?_
 replace h := bs h
 obtain ⟨v1, hv1, h⟩ := h
 refine k_sreg (r_gq [(0, .d false [.sl none (a0.map ePt)]), (8, .p (.bool (!v1)))] [(1, {n := some a0.length}), (2, {call := some (none, [.p (.bool v1)], true)})] (A2 (show (a0.map ePt).length = a0.length from (List.length_map ..)) (wk_spec_l1In hv1))) ?_
 refine kc (!v1) (fun hc2_1 => ?_) (fun hc2_1 => ?_)
 ·replace h := ite_t hc2_1 h
  refine k_sreg (r_gq [(2, .p (.bool false))] [] trivial) ?_
  refine k_ret ?_
  refine q_r ?_
  obtain rfl := oi h
  exact er [(.p (.bool false), 2)]
 ·replace h := ite_f hc2_1 h
  refine k_skip ?_
  refine q_n ?_
  refine k_join (J := fun (x : Unit) => [(0, .d false [.sl none (a0.map ePt)])]) (K := fun x => spec_imGood_k1 a0 x = some r) (fun x3 h => ?_) ?_
  ·unfold spec_imGood_k1 at h
   replace h := bs h
   obtain ⟨v4, hv4, h⟩ := h
   replace h := bs h
   obtain ⟨v5, hv5, h⟩ := h
   replace h := bs h
   obtain ⟨v6, hv6, h⟩ := h
   replace h := bs h
   obtain ⟨w10, hw10, h⟩ := h
   refine k_sreg (l1 := [(2, .p (.bool w10))]) ?_ ?_
   ·clear h
    rcases ft (v6 == 0) with ha1 | ha1
    ·replace hw10 := ite_t ha1 hw10
     replace hw10 := bs hw10
     obtain ⟨v7, hv7, hw10⟩ := hw10
     replace hw10 := bs hw10
     obtain ⟨v8, hv8, hw10⟩ := hw10
     replace hw10 := bs hw10
     obtain ⟨v9, hv9, hw10⟩ := hw10
     have hw10 := oi hw10
     subst hw10
     exact (r_dq Tryz_mixed 16 [] [(2, .p (.bool (v9 == 0)))] [(1, {row := some (ePt v4)}), (4, {call := some (none, [.p (vRt v5)], true)}), (5, {call := some (none, [.p (iV v6)], true)}), (8, gT), (9, gT), (10, {g := some true, n := some a0.length}), (11, gT), (12, {g := some true, row := some (ePt v7)}), (13, gT), (14, gT), (15, {g := some true, call := some (none, [.p (vRt v8)], true)}), (16, {g := some true, call := some (none, [.p (iV v9)], true)}), (17, gT), (18, bT)] (B6 (idxO_some hv4).1 (map_get ePt (idxO_some hv4).2) (wk_spec_raInt hv5) (wk_spec_raCmp hv6) ha1 ha1 (B6 ha1 (show (a0.map ePt).length = a0.length from (List.length_map ..)) ha1 ha1 (idxO_some hv7).1 (map_get ePt (idxO_some hv7).2) (B6 ha1 ha1 ha1 (wk_spec_raInt hv8) ha1 (wk_spec_raCmp hv9) (A2 ha1 ha1)))))
    ·replace hw10 := ite_f ha1 hw10
     have hw10 := oi hw10
     subst hw10
     exact (r_dq Tryz_mixed 16 [] [(2, .p (.bool false))] [(1, {row := some (ePt v4)}), (4, {call := some (none, [.p (vRt v5)], true)}), (5, {call := some (none, [.p (iV v6)], true)}), (8, gF), (9, gF), (10, gF), (11, gF), (12, gF), (13, gF), (14, gF), (15, gF), (16, gF), (17, gF), (18, bF)] (B6 (idxO_some hv4).1 (map_get ePt (idxO_some hv4).2) (wk_spec_raInt hv5) (wk_spec_raCmp hv6) ha1 ha1 (B6 ha1 ha1 ha1 ha1 ha1 ha1 (A3 ha1 ha1 ha1))))
   ·refine k_ret ?_
    obtain rfl := oi h
    exact er [(.p (.bool w10), 2)]
  ·refine k_sreg (r_gq [(0, .d false [.sl none (a0.map ePt)]), (9, .d false [.sl none (a0.map ePt)]), (10, .p (iV (a0.length : Int))), (11, .p (iV 0))] [(1, {n := some a0.length})] (A1 (show (a0.map ePt).length = a0.length from (List.length_map ..)))) ?_
   refine k_block ?_
   obtain ⟨y12, hl_x11, hk_x11⟩ := bs h
   clear h
   refine k_loop (J := fun (x : Int) => [(0, .d false [.sl none (a0.map ePt)]), (9, .d false [.sl none (a0.map ePt)]), (10, .p (iV (a0.length : Int))), (11, .p (iV x))]) hl_x11 (wk_of (by kernel_rfl) (by kernel_rfl)) (fun x11 o_x11 h hy_x11 => ?_)
   unfold spec_imGood_b1 at h
   refine k_sreg (r_gq [(0, .d false [.sl none (a0.map ePt)]), (9, .d false [.sl none (a0.map ePt)]), (10, .p (iV (a0.length : Int))), (11, .p (iV x11)), (12, .p (.bool (decide (x11 < (a0.length : Int)))))] [] trivial) ?_
   refine k_seq ?_
   refine kc (decide (x11 < (a0.length : Int))) (fun hc5_12 => ?_) (fun hc5_12 => ?_)
   ·replace h := ite_t hc5_12 h
    refine k_skip ?_
    refine q_n ?_
    refine k_seq ?_
    refine k_block ?_
    replace h := bs h
    obtain ⟨v14, hv14, h⟩ := h
    refine k_sreg (r_gq [(0, .d false [.sl none (a0.map ePt)]), (3, .p (iV x11)), (4, .box (ePt v14)), (9, .d false [.sl none (a0.map ePt)]), (10, .p (iV (a0.length : Int))), (11, .p (iV x11))] [(1, {row := some (ePt v14)})] (A2 (idxO_some hv14).1 (map_get ePt (idxO_some hv14).2))) ?_
    replace h := bs h
    obtain ⟨v15, hv15, h⟩ := h
    replace h := bs h
    obtain ⟨w19, hw19, h⟩ := h
    refine k_sreg (l1 := [(0, .d false [.sl none (a0.map ePt)]), (9, .d false [.sl none (a0.map ePt)]), (10, .p (iV (a0.length : Int))), (11, .p (iV x11)), (41, .p (.bool w19))]) ?_ ?_
    ·clear h
     rcases ft (!v15) with ha2 | ha2
     ·replace hw19 := ite_t ha2 hw19
      have hw19 := oi hw19
      subst hw19
      exact (r_dq Tryz_mixed 22 [] [(0, .d false [.sl none (a0.map ePt)]), (9, .d false [.sl none (a0.map ePt)]), (10, .p (iV (a0.length : Int))), (11, .p (iV x11)), (41, .p (.bool true))] [(2, {call := some (none, [.p (.bool v15)], true)}), (5, gT), (6, gT), (7, gT), (8, gT), (9, bT), (11, gT), (12, gT), (13, gT), (24, gT), (25, bT)] (B6 (wk_spec_imCoord hv15) ha2 ha2 ha2 ha2 ha2 (A5 (show true = true from rfl) (show true = true from rfl) (show true = true from rfl) (show true = true from rfl) (show true = true from rfl))))
     ·replace hw19 := ite_f ha2 hw19
      replace hw19 := bs hw19
      obtain ⟨v16, hv16, hw19⟩ := hw19
      rcases ft (!v16) with ha3 | ha3
      ·replace hw19 := ite_t ha3 hw19
       have hw19 := oi hw19
       subst hw19
       exact (r_dq Tryz_mixed 22 [] [(0, .d false [.sl none (a0.map ePt)]), (9, .d false [.sl none (a0.map ePt)]), (10, .p (iV (a0.length : Int))), (11, .p (iV x11)), (41, .p (.bool true))] [(2, {call := some (none, [.p (.bool v15)], true)}), (5, gF), (6, gF), (7, {g := some false, call := some (none, [.p (.bool v16)], true)}), (8, gF), (9, bF), (11, gT), (12, gT), (13, gT), (24, gT), (25, bT)] (B6 (wk_spec_imCoord hv15) ha2 ha2 ha2 (wk_spec_imCoord hv16) ha2 (A6 ha2 ha3 ha3 ha3 ha3 ha3)))
      ·replace hw19 := ite_f ha3 hw19
       rcases ft (decide (x11 > 0)) with ha4 | ha4
       ·replace hw19 := ite_t ha4 hw19
        replace hw19 := bs hw19
        obtain ⟨v17, hv17, hw19⟩ := hw19
        replace hw19 := bs hw19
        obtain ⟨v18, hv18, hw19⟩ := hw19
        have hw19 := oi hw19
        subst hw19
        exact (r_dq Tryz_mixed 22 [] [(0, .d false [.sl none (a0.map ePt)]), (9, .d false [.sl none (a0.map ePt)]), (10, .p (iV (a0.length : Int))), (11, .p (iV x11)), (41, .p (.bool (decide (v18 ≥ 0))))] [(2, {call := some (none, [.p (.bool v15)], true)}), (5, gF), (6, gF), (7, {g := some false, call := some (none, [.p (.bool v16)], true)}), (8, gF), (9, bF), (11, gF), (12, gF), (13, gF), (14, gT), (15, gT), (16, gT), (17, {g := some true, row := some (ePt v17)}), (18, gT), (19, gT), (20, gT), (21, gT), (22, {g := some true, call := some (none, [.p (iV v18)], true)}), (23, gT), (24, {g := some false, b := some true}), (25, bF)] (B6 (wk_spec_imCoord hv15) ha2 ha2 ha2 (wk_spec_imCoord hv16) ha2 (B6 ha2 ha3 ha3 ha3 ha4 ha4 (B6 ha4 ha4 (idxO_some hv17).1 (map_get ePt (idxO_some hv17).2) ha4 ha4 (B6 ha4 ha4 ha4 (wk_spec_raCmp hv18) ha4 ha3 (A2 ha4 ha3))))))
       ·replace hw19 := ite_f ha4 hw19
        have hw19 := oi hw19
        subst hw19
        exact (r_dq Tryz_mixed 22 [] [(0, .d false [.sl none (a0.map ePt)]), (9, .d false [.sl none (a0.map ePt)]), (10, .p (iV (a0.length : Int))), (11, .p (iV x11)), (41, .p (.bool false))] [(2, {call := some (none, [.p (.bool v15)], true)}), (5, gF), (6, gF), (7, {g := some false, call := some (none, [.p (.bool v16)], true)}), (8, gF), (9, bF), (11, gF), (12, gF), (13, gF), (14, gF), (15, gF), (16, gF), (17, gF), (18, gF), (19, gF), (20, gF), (21, gF), (22, gF), (23, gF), (24, {g := some false, b := some false}), (25, bF)] (B6 (wk_spec_imCoord hv15) ha2 ha2 ha2 (wk_spec_imCoord hv16) ha2 (B6 ha2 ha3 ha3 ha3 ha4 ha4 (B6 ha4 ha4 ha4 ha4 ha4 ha4 (A5 ha4 ha4 ha3 ha4 ha3)))))
    ·refine kc w19 (fun hc6_19 => ?_) (fun hc6_19 => ?_)
     ·replace h := ite_t hc6_19 h
      refine k_sreg (r_gq [(2, .p (.bool false))] [] trivial) ?_
      refine k_ret ?_
      refine b_r ?_
      refine q_r ?_
      refine lq_r ?_
      refine b_r ?_
      refine q_r ?_
      have hyy := hy_x11 _ (oi h).symm
      subst hyy
      have h := hk_x11
      dsimp only [Sum.elim] at h
      obtain rfl := oi h
      exact er [(.p (.bool false), 2)]
     ·replace h := ite_f hc6_19 h
      refine k_skip ?_
      refine b_n ?_
      refine q_n ?_
      refine k_reg (r_gq [(0, .d false [.sl none (a0.map ePt)]), (9, .d false [.sl none (a0.map ePt)]), (10, .p (iV (a0.length : Int))), (11, .p (iV (w64 (x11 + 1))))] [] trivial) ?_
      exact lqn (w64 (x11 + 1)) h
   ·replace h := ite_f hc5_12 h
    refine k_exit ?_
    refine q_x ?_
    refine lq_x ?_
    refine b_x ?_
    have hyy := hy_x11 _ (oi h).symm
    subst hyy
    have h := hk_x11
    dsimp only [Sum.elim] at h
    refine q_n ?_
    exact jx () h
theorem wk_spec_raSub {a0 : Qr} {a1 : Qr}  {r : (Qr × Bool)} (h : spec_raSub a0 a1 = some r) : Meets Tryz.prog 129 [.v (vRt a0), .v (vRt a1)] { vals := [.p (vRt r.1), .p (.bool r.2)] } := by
 refine mo Tryz.func129 [(0, .p (vRt a0)), (1, .p (vRt a1))] ?_
 unfold spec_raSub at h
 refine k_sreg (r_gq [(2, .box (eRt a0)), (3, .box (eRt a1)), (4, .box [rI 0, rI 0])] [] trivial) ?_
 replace h := bs h
 obtain ⟨v1, hv1, h⟩ := h
 refine k_sreg (r_gq [(4, .box (eRt v1.1)), (5, .p (.bool v1.2))] [(16, {call := some (none, [.p (vRt v1.1), .p (.bool v1.2)], true)})] (A1 (wk_spec_raMake hv1))) ?_
 refine k_ret ?_
 obtain rfl := oi h
 exact er [(.p (vRt v1.1), 4), (.p (.bool v1.2), 5)]
theorem wk_spec_raDiv {a0 : Qr} {a1 : Qr}  {r : (Qr × Bool)} (h : spec_raDiv a0 a1 = some r) : Meets Tryz.prog 130 [.v (vRt a0), .v (vRt a1)] { vals := [.p (vRt r.1), .p (.bool r.2)] } := by
 refine mo Tryz.func130 [(0, .p (vRt a0)), (1, .p (vRt a1))] ?_
 unfold spec_raDiv at h
 refine k_sreg (r_gq [(2, .box (eRt a0)), (3, .box (eRt a1)), (4, .box [rI 0, rI 0])] [] trivial) ?_
 refine k_seq ?_
 refine k_sreg (r_gq [(2, .box (eRt a0)), (3, .box (eRt a1)), (4, .box [rI 0, rI 0]), (8, .p (.bool (a1.1 == 0)))] [] trivial) ?_
 refine kc (a1.1 == 0) (fun hc2_0 => ?_) (fun hc2_0 => ?_)
 ·replace h := ite_t hc2_0 h
  refine k_sreg (r_gq [(4, .box [rI 0, rI 0]), (5, .p (.bool false))] [] trivial) ?_
  refine k_ret ?_
  refine q_r ?_
  obtain rfl := oi h
  exact er [(.p (.agg #[.int .i64 0, .int .i64 0]), 4), (.p (.bool false), 5)]
 ·replace h := ite_f hc2_0 h
  refine k_skip ?_
  refine q_n ?_
  replace h := bs h
  obtain ⟨v2, hv2, h⟩ := h
  refine k_sreg (r_gq [(4, .box (eRt v2.1)), (5, .p (.bool v2.2))] [(10, {call := some (none, [.p (vRt v2.1), .p (.bool v2.2)], true)})] (A1 (wk_spec_raMake hv2))) ?_
  refine k_ret ?_
  obtain rfl := oi h
  exact er [(.p (vRt v2.1), 4), (.p (.bool v2.2), 5)]
theorem wk_spec_imSlope {a0 : Qp} {a1 : Qp}  {r : Qr} (h : spec_imSlope a0 a1 = some r) : Meets Tryz.prog 114 [.v (vPt a0), .v (vPt a1)] { vals := [.p (vRt r)] } := by
 refine mo Tryz.func114 [(0, .p (vPt a0)), (1, .p (vPt a1))] ?_
 unfold spec_imSlope at h
 refine k_sreg (r_gq [(2, .box (ePt a0)), (3, .box (ePt a1)), (4, .box [rI 0, rI 0])] [] trivial) ?_
 replace h := bs h
 obtain ⟨v1, hv1, h⟩ := h
 refine k_sreg (r_gq [(2, .box (ePt a0)), (3, .box (ePt a1)), (4, .box [rI 0, rI 0]), (5, .box (eRt v1.1))] [(4, {call := some (none, [.p (vRt v1.1), .p (.bool v1.2)], true)})] (A1 (wk_spec_raSub hv1))) ?_
 replace h := bs h
 obtain ⟨v2, hv2, h⟩ := h
 refine k_sreg (r_gq [(4, .box [rI 0, rI 0]), (5, .box (eRt v1.1)), (7, .box (eRt v2.1))] [(4, {call := some (none, [.p (vRt v2.1), .p (.bool v2.2)], true)})] (A1 (wk_spec_raSub hv2))) ?_
 replace h := bs h
 obtain ⟨v3, hv3, h⟩ := h
 refine k_sreg (r_gq [(4, .box [rI 0, rI 0]), (9, .box (eRt v3.1))] [(2, {call := some (none, [.p (vRt v3.1), .p (.bool v3.2)], true)})] (A1 (wk_spec_raDiv hv3))) ?_
 refine k_sreg (r_gq [(4, .box (eRt v3.1))] [] trivial) ?_
 refine k_ret ?_
 obtain rfl := oi h
 exact er [(.p (vRt v3.1), 4)]
theorem wk_spec_imSlopes {a0 : (List Qp)}  {r : (List Qr)} (h : spec_imSlopes a0 = some r) : Meets Tryz.prog 88 [.d false [.sl none (a0.map ePt)]] { vals := [.ov false [.sl (some 23) (r.map eRt)]] } := by
 refine mo Tryz.func88 [(0, .d false [.sl none (a0.map ePt)])] ?_
 unfold spec_imSlopes at h
 refine k_sreg (r_gq [(0, .d false [.sl none (a0.map ePt)])] [] trivial) ?_
 refine k_sreg (r_gq [(0, .d false [.sl none (a0.map ePt)]), (3, .ov false [.sl (some 23) []])] [] trivial) ?_
 refine k_join (J := fun (x : (List Qr)) => [(3, .ov false [.sl (some 23) (x.map eRt)])]) (K := fun x => spec_imSlopes_k1 x = some r) (fun x1 h => ?_) ?_
 ·unfold spec_imSlopes_k1 at h
  refine k_sreg (r_gq [(2, .ov false [.sl (some 23) (x1.map eRt)])] [] trivial) ?_
  refine k_ret ?_
  obtain rfl := oi h
  exact er [(.ov false [.sl (some 23) (x1.map eRt)], 2)]
 ·refine k_sreg (r_gq [(0, .d false [.sl none (a0.map ePt)]), (3, .ov false [.sl (some 23) []]), (4, .p (iV 1))] [] trivial) ?_
  refine k_block ?_
  obtain ⟨y3, hl_x2, hk_x2⟩ := bs h
  clear h
  refine k_loop (J := fun (x : ((List Qr) × Int)) => [(0, .d false [.sl none (a0.map ePt)]), (3, .ov false [.sl (some 23) (x.1.map eRt)]), (4, .p (iV x.2))]) hl_x2 (wk_of (by kernel_rfl) (by kernel_rfl)) (fun x2 o_x2 h hy_x2 => ?_)
  unfold spec_imSlopes_b1 at h
  refine k_seq ?_
  refine k_sreg (r_gq [(0, .d false [.sl none (a0.map ePt)]), (3, .ov false [.sl (some 23) (x2.1.map eRt)]), (4, .p (iV x2.2)), (8, .p (.bool (decide (x2.2 < (a0.length : Int)))))] [(2, {n := some a0.length})] (A1 (show (a0.map ePt).length = a0.length from (List.length_map ..)))) ?_
  refine kc (decide (x2.2 < (a0.length : Int))) (fun hc5_3 => ?_) (fun hc5_3 => ?_)
  ·replace h := ite_t hc5_3 h
   refine k_skip ?_
   refine q_n ?_
   refine k_seq ?_
   refine k_block ?_
   replace h := bs h
   obtain ⟨v5, hv5, h⟩ := h
   replace h := bs h
   obtain ⟨v6, hv6, h⟩ := h
   replace h := bs h
   obtain ⟨v7, hv7, h⟩ := h
   replace h := bs h
   obtain ⟨u8, hu8, h⟩ := h
   refine k_reg (r_dq Tryz_mixed 12 [] [(0, .d false [.sl none (a0.map ePt)]), (3, .ov false [.sl (some 23) ((x2.1 ++ [v7]).map eRt)]), (4, .p (iV x2.2))] [(4, {row := some (ePt v5)}), (8, {row := some (ePt v6)}), (10, {call := some (none, [.p (vRt v7)], true)}), (12, {fix := some (23, .ov false [.sl (some 23) ((x2.1 ++ [v7]).map eRt)])})] (B6 (idxO_some hv5).1 (map_get ePt (idxO_some hv5).2) (idxO_some hv6).1 (map_get ePt (idxO_some hv6).2) (wk_spec_imSlope hv7) (show List.length ((x2.1.map eRt) : List (List C)) + List.length ((([v7]).map eRt) : List (List C)) ≤ 1099511627776 from (by have hg := (guardO_some hu8); simpa using hg)) (A2 (show ∀ row ∈ ((([v7]).map eRt) : List (List C)), row.length = 2 from (rows_len fun _ => rfl)) (show (SV.ov false [.sl (some 23) ((x2.1.map eRt) ++ (([v7]).map eRt))] : SV) = .ov false [.sl (some 23) ((x2.1 ++ [v7]).map eRt)] from (congrArg (fun z => SV.ov false [.sl (some 23) z]) (List.map_append ..).symm))))) ?_
   refine b_n ?_
   refine q_n ?_
   refine k_reg (r_gq [(0, .d false [.sl none (a0.map ePt)]), (3, .ov false [.sl (some 23) ((x2.1 ++ [v7]).map eRt)]), (4, .p (iV (w64 (x2.2 + 1))))] [] trivial) ?_
   exact lqn ((x2.1 ++ [v7]), (w64 (x2.2 + 1))) h
  ·replace h := ite_f hc5_3 h
   refine k_exit ?_
   refine q_x ?_
   refine lq_x ?_
   refine b_x ?_
   have hyy := hy_x2 _ (oi h).symm
   subst hyy
   have h := hk_x2
   refine q_n ?_
   exact jx x2.1 h
theorem wk_spec_lpStrict {a0 : (List Qp)}  {r : Bool} (h : spec_lpStrict a0 = some r) : Meets Tryz.prog 79 [.d false [.sl none (a0.map ePt)]] { vals := [.p (.bool r)] } := by
 refine mo Tryz.func79 [(0, .d false [.sl none (a0.map ePt)])] ?_
 unfold spec_lpStrict at h
 refine k_sreg (r_gq [(0, .d false [.sl none (a0.map ePt)])] [] trivial) ?_
 refine k_join (J := fun (x : Unit) => []) (K := fun x => spec_lpStrict_k1 x = some r) (fun x1 h => ?_) ?_
 ·unfold spec_lpStrict_k1 at h
  refine k_sreg (r_gq [(2, .p (.bool true))] [] trivial) ?_
  refine k_ret ?_
  obtain rfl := oi h
  exact er [(.p (.bool true), 2)]
 ·replace h := bs h
  obtain ⟨v2, hv2, h⟩ := h
  refine k_sreg (r_gq [(6, .ov false [.sl (some 23) (v2.map eRt)]), (7, .p (iV (v2.length : Int))), (8, .p (iV 0))] [(1, {call := some (none, [.ov false [.sl (some 23) (v2.map eRt)]], true)}), (2, {n := some v2.length})] (A3 (wk_spec_imSlopes hv2) (show List.all [.ov false [.sl (some 23) (v2.map eRt)]] simpleR = true from (sa_o (wnR1 (wnL_enc (wn_P wn_I wn_I)) rfl) rfl)) (show (v2.map eRt).length = v2.length from (List.length_map ..)))) ?_
  refine k_block ?_
  obtain ⟨y4, hl_x3, hk_x3⟩ := bs h
  clear h
  refine k_loop (J := fun (x : Int) => [(6, .ov false [.sl (some 23) (v2.map eRt)]), (7, .p (iV (v2.length : Int))), (8, .p (iV x))]) hl_x3 (wk_of (by kernel_rfl) (by kernel_rfl)) (fun x3 o_x3 h hy_x3 => ?_)
  unfold spec_lpStrict_b1 at h
  refine k_sreg (r_gq [(6, .ov false [.sl (some 23) (v2.map eRt)]), (7, .p (iV (v2.length : Int))), (8, .p (iV x3)), (9, .p (.bool (decide (x3 < (v2.length : Int)))))] [] trivial) ?_
  refine k_seq ?_
  refine kc (decide (x3 < (v2.length : Int))) (fun hc5_4 => ?_) (fun hc5_4 => ?_)
  ·replace h := ite_t hc5_4 h
   refine k_skip ?_
   refine q_n ?_
   refine k_seq ?_
   refine k_block ?_
   replace h := bs h
   obtain ⟨v6, hv6, h⟩ := h
   refine k_sreg (r_gq [(4, .box (eRt v6)), (6, .ov false [.sl (some 23) (v2.map eRt)]), (7, .p (iV (v2.length : Int))), (8, .p (iV x3))] [(0, {row := some (eRt v6)}), (1, {row := some (eRt v6)})] (A3 (idxO_some hv6).1 (map_get eRt (idxO_some hv6).2) (show getRow [[.sl (some 23) (v2.map eRt)]] [(0, 0), ((Int.toNat x3), 0)] = some (eRt v6) from ((gr0 rfl).trans (gre (map_get eRt (idxO_some hv6).2)))))) ?_
   refine k_sreg (r_gq [(6, .ov false [.sl (some 23) (v2.map eRt)]), (7, .p (iV (v2.length : Int))), (8, .p (iV x3)), (14, .p (.bool (v6.1 == 0)))] [] trivial) ?_
   refine kc (v6.1 == 0) (fun hc6_6 => ?_) (fun hc6_6 => ?_)
   ·replace h := ite_t hc6_6 h
    refine k_sreg (r_gq [(2, .p (.bool false))] [] trivial) ?_
    refine k_ret ?_
    refine b_r ?_
    refine q_r ?_
    refine lq_r ?_
    refine b_r ?_
    refine q_r ?_
    have hyy := hy_x3 _ (oi h).symm
    subst hyy
    have h := hk_x3
    dsimp only [Sum.elim] at h
    obtain rfl := oi h
    exact er [(.p (.bool false), 2)]
   ·replace h := ite_f hc6_6 h
    refine k_skip ?_
    refine b_n ?_
    refine q_n ?_
    refine k_reg (r_gq [(6, .ov false [.sl (some 23) (v2.map eRt)]), (7, .p (iV (v2.length : Int))), (8, .p (iV (w64 (x3 + 1))))] [] trivial) ?_
    exact lqn (w64 (x3 + 1)) h
  ·replace h := ite_f hc5_4 h
   refine k_exit ?_
   refine q_x ?_
   refine lq_x ?_
   refine b_x ?_
   have hyy := hy_x3 _ (oi h).symm
   subst hyy
   have h := hk_x3
   dsimp only [Sum.elim] at h
   refine q_n ?_
   exact jx () h
theorem wk_spec_imLaps {a0 : (List Qp)}  {r : (List (List Int))} (h : spec_imLaps a0 = some r) : Meets Tryz.prog 49 [.d false [.sl none (a0.map ePt)]] { vals := [.ov false [.sl (some 60) (r.map (eO 3 eI))]] } := by
 refine mo Tryz.func49 [(0, .d false [.sl none (a0.map ePt)])] ?_
 unfold spec_imLaps at h
 refine k_sreg (r_gq [(0, .d false [.sl none (a0.map ePt)])] [] trivial) ?_
 refine k_sreg (r_gq [(0, .d false [.sl none (a0.map ePt)]), (3, .ov false [.sl (some 60) []])] [] trivial) ?_
 refine k_join (J := fun (x : (List (List Int))) => [(3, .ov false [.sl (some 60) (x.map (eO 3 eI))])]) (K := fun x => spec_imLaps_k1 x = some r) (fun x1 h => ?_) ?_
 ·unfold spec_imLaps_k1 at h
  refine k_sreg (r_gq [(2, .ov false [.sl (some 60) (x1.map (eO 3 eI))])] [] trivial) ?_
  refine k_ret ?_
  obtain rfl := oi h
  exact er [(.ov false [.sl (some 60) (x1.map (eO 3 eI))], 2)]
 ·replace h := bs h
  obtain ⟨v2, hv2, h⟩ := h
  refine k_sreg (r_gq [(3, .ov false [.sl (some 60) []]), (9, .ov false [.sl (some 23) (v2.map eRt)]), (10, .p (iV (v2.length : Int))), (11, .p (iV 0))] [(1, {call := some (none, [.ov false [.sl (some 23) (v2.map eRt)]], true)}), (2, {n := some v2.length})] (A3 (wk_spec_imSlopes hv2) (show List.all [.ov false [.sl (some 23) (v2.map eRt)]] simpleR = true from (sa_o (wnR1 (wnL_enc (wn_P wn_I wn_I)) rfl) rfl)) (show (v2.map eRt).length = v2.length from (List.length_map ..)))) ?_
  refine k_block ?_
  obtain ⟨y4, hl_x3, hk_x3⟩ := bs h
  clear h
  refine k_loop (J := fun (x : ((List (List Int)) × Int)) => [(3, .ov false [.sl (some 60) (x.1.map (eO 3 eI))]), (9, .ov false [.sl (some 23) (v2.map eRt)]), (10, .p (iV (v2.length : Int))), (11, .p (iV x.2))]) hl_x3 (wk_of (by kernel_rfl) (by kernel_rfl)) (fun x3 o_x3 h hy_x3 => ?_)
  unfold spec_imLaps_b1 at h
  refine k_sreg (r_gq [(3, .ov false [.sl (some 60) (x3.1.map (eO 3 eI))]), (9, .ov false [.sl (some 23) (v2.map eRt)]), (10, .p (iV (v2.length : Int))), (11, .p (iV x3.2)), (12, .p (.bool (decide (x3.2 < (v2.length : Int)))))] [] trivial) ?_
  refine k_seq ?_
  refine kc (decide (x3.2 < (v2.length : Int))) (fun hc5_4 => ?_) (fun hc5_4 => ?_)
  ·replace h := ite_t hc5_4 h
   refine k_skip ?_
   refine q_n ?_
   refine k_seq ?_
   refine k_block ?_
   replace h := bs h
   obtain ⟨v6, hv6, h⟩ := h
   refine k_sreg (r_gq [(3, .ov false [.sl (some 60) (x3.1.map (eO 3 eI))]), (4, .p (iV x3.2)), (5, .box (eRt v6)), (9, .ov false [.sl (some 23) (v2.map eRt)]), (10, .p (iV (v2.length : Int))), (11, .p (iV x3.2))] [(1, {row := some (eRt v6)}), (2, {row := some (eRt v6)})] (A3 (idxO_some hv6).1 (map_get eRt (idxO_some hv6).2) (show getRow [[.sl (some 23) (v2.map eRt)]] [(0, 0), ((Int.toNat x3.2), 0)] = some (eRt v6) from ((gr0 rfl).trans (gre (map_get eRt (idxO_some hv6).2)))))) ?_
   replace h := bs h
   obtain ⟨v7, hv7, h⟩ := h
   refine k_sreg (r_gq [(3, .ov false [.sl (some 60) (x3.1.map (eO 3 eI))]), (4, .p (iV x3.2)), (6, .p (iV v7)), (9, .ov false [.sl (some 23) (v2.map eRt)]), (10, .p (iV (v2.length : Int))), (11, .p (iV x3.2))] [(2, {call := some (none, [.p (iV v7)], true)})] (A1 (wk_spec_l1Sign hv7))) ?_
   refine k_seq ?_
   refine k_sreg (r_gq [(3, .ov false [.sl (some 60) (x3.1.map (eO 3 eI))]), (4, .p (iV x3.2)), (6, .p (iV v7)), (7, .p (iV (x3.1.length : Int))), (9, .ov false [.sl (some 23) (v2.map eRt)]), (10, .p (iV (v2.length : Int))), (11, .p (iV x3.2))] [(1, {n := some x3.1.length})] (A1 (show (x3.1.map (eO 3 eI)).length = x3.1.length from (List.length_map ..)))) ?_
   replace h := bs h
   obtain ⟨w10, hw10, h⟩ := h
   refine k_sreg (l1 := [(3, .ov false [.sl (some 60) (x3.1.map (eO 3 eI))]), (4, .p (iV x3.2)), (6, .p (iV v7)), (7, .p (iV (x3.1.length : Int))), (9, .ov false [.sl (some 23) (v2.map eRt)]), (10, .p (iV (v2.length : Int))), (11, .p (iV x3.2)), (33, .p (.bool w10))]) ?_ ?_
   ·clear h
    rcases ft (decide ((x3.1.length : Int) > 0)) with ha1 | ha1
    ·replace hw10 := ite_t ha1 hw10
     replace hw10 := bs hw10
     obtain ⟨v8, hv8, hw10⟩ := hw10
     replace hw10 := bs hw10
     obtain ⟨v9, hv9, hw10⟩ := hw10
     have hw10 := oi hw10
     subst hw10
     exact (r_gq [(3, .ov false [.sl (some 60) (x3.1.map (eO 3 eI))]), (4, .p (iV x3.2)), (6, .p (iV v7)), (7, .p (iV (x3.1.length : Int))), (9, .ov false [.sl (some 23) (v2.map eRt)]), (10, .p (iV (v2.length : Int))), (11, .p (iV x3.2)), (33, .p (.bool (v9 == v7)))] [(3, gT), (4, gT), (5, gT), (6, {g := some true, row := some [.sl (some 3) (v8.map eI)]}), (7, {g := some true, row := some [.sl (some 3) (v8.map eI)]}), (8, {g := some true, deep := some [.sl (some 3) (v8.map eI)], row := some (eI v9)}), (9, {g := some true, row := some (eI v9)}), (10, gT), (11, gT), (12, bT)] (B6 ha1 ha1 ha1 ha1 (idxO_some hv8).1 (map_get (eO 3 eI) (idxO_some hv8).2) (B6 ha1 (show frR [.sl (some 3) (v8.map eI)] = false from rfl) (show getRow [[.sl (some 60) (x3.1.map (eO 3 eI))]] [(0, 0), ((Int.toNat (w64 ((x3.1.length : Int) - 1))), 0)] = some [.sl (some 3) (v8.map eI)] from ((gr0 rfl).trans (gre (map_get (eO 3 eI) (idxO_some hv8).2)))) ha1 (idxO_some hv9).1 (map_get eI (idxO_some hv9).2) (A6 (show getRow [[.sl (some 60) (x3.1.map (eO 3 eI))]] [(0, 0), ((Int.toNat (w64 ((x3.1.length : Int) - 1))), 0)] = some [.sl (some 3) (v8.map eI)] from ((gr0 rfl).trans (gre (map_get (eO 3 eI) (idxO_some hv8).2)))) ha1 (show getRow [[.sl (some 60) (x3.1.map (eO 3 eI))]] [(0, 0), ((Int.toNat (w64 ((x3.1.length : Int) - 1))), 0), ((Int.toNat 2), 0)] = some (eI v9) from ((gr0 rfl).trans ((grs (map_get (eO 3 eI) (idxO_some hv8).2) rfl).trans (gre (map_get eI (idxO_some hv9).2))))) ha1 ha1 ha1))))
    ·replace hw10 := ite_f ha1 hw10
     have hw10 := oi hw10
     subst hw10
     exact (r_gq [(3, .ov false [.sl (some 60) (x3.1.map (eO 3 eI))]), (4, .p (iV x3.2)), (6, .p (iV v7)), (7, .p (iV (x3.1.length : Int))), (9, .ov false [.sl (some 23) (v2.map eRt)]), (10, .p (iV (v2.length : Int))), (11, .p (iV x3.2)), (33, .p (.bool false))] [(3, gF), (4, gF), (5, gF), (6, gF), (7, gF), (8, gF), (9, gF), (10, gF), (11, gF), (12, bF)] (B6 ha1 ha1 ha1 ha1 ha1 ha1 (A4 ha1 ha1 ha1 ha1)))
   ·refine kc w10 (fun hc7_10 => ?_) (fun hc7_10 => ?_)
    ·replace h := ite_t hc7_10 h
     replace h := bs h
     obtain ⟨v12, hv12, h⟩ := h
     replace h := bs h
     obtain ⟨v13, hv13, h⟩ := h
     refine k_sreg (r_gq [(3, .ov false [.sl (some 60) ((x3.1.set (Int.toNat (w64 ((x3.1.length : Int) - 1))) (v12.set (Int.toNat 1) (w64 (x3.2 + 1)))).map (eO 3 eI))]), (9, .ov false [.sl (some 23) (v2.map eRt)]), (10, .p (iV (v2.length : Int))), (11, .p (iV x3.2))] [(3, {row := some [.sl (some 3) (v12.map eI)]}), (4, {row := some [.sl (some 3) (v12.map eI)]}), (7, {deep := some [.sl (some 3) (v12.map eI)], row := some (eI v13)}), (8, {row := some (eI v13), fix := some (3, .ov false [.sl (some 60) ((x3.1.set (Int.toNat (w64 ((x3.1.length : Int) - 1))) (v12.set (Int.toNat 1) (w64 (x3.2 + 1)))).map (eO 3 eI))])})] (B6 (idxO_some hv12).1 (map_get (eO 3 eI) (idxO_some hv12).2) (show frR [.sl (some 3) (v12.map eI)] = false from rfl) (show getRow [[.sl (some 60) (x3.1.map (eO 3 eI))]] [(0, 0), ((Int.toNat (w64 ((x3.1.length : Int) - 1))), 0)] = some [.sl (some 3) (v12.map eI)] from ((gr0 rfl).trans (gre (map_get (eO 3 eI) (idxO_some hv12).2)))) (idxO_some hv13).1 (map_get eI (idxO_some hv13).2) (A3 (show getRow [[.sl (some 60) (x3.1.map (eO 3 eI))]] [(0, 0), ((Int.toNat (w64 ((x3.1.length : Int) - 1))), 0)] = some [.sl (some 3) (v12.map eI)] from ((gr0 rfl).trans (gre (map_get (eO 3 eI) (idxO_some hv12).2)))) (show getRow [[.sl (some 60) (x3.1.map (eO 3 eI))]] [(0, 0), ((Int.toNat (w64 ((x3.1.length : Int) - 1))), 0), ((Int.toNat 1), 0)] = some (eI v13) from ((gr0 rfl).trans ((grs (map_get (eO 3 eI) (idxO_some hv12).2) rfl).trans (gre (map_get eI (idxO_some hv13).2))))) (show (SV.ov false [.sl (some 60) (setL (x3.1.map (eO 3 eI)) [((Int.toNat (w64 ((x3.1.length : Int) - 1))), 0), ((Int.toNat 1), 0)] [rI (w64 (x3.2 + 1))])] : SV) = .ov false [.sl (some 60) ((x3.1.set (Int.toNat (w64 ((x3.1.length : Int) - 1))) (v12.set (Int.toNat 1) (w64 (x3.2 + 1)))).map (eO 3 eI))] from (congrArg (fun z => SV.ov false [.sl (some 60) z]) (set2 (f := (eO 3 eI)) (y := (v12.set (Int.toNat 1) (w64 (x3.2 + 1)))) (idxO_some hv12).2 rfl (set1 (f := eI) (y := (w64 (x3.2 + 1))) (idxO_some hv13).2 rfl) rfl)))))) ?_
     refine k_exit ?_
     refine q_x ?_
     refine b_x ?_
     refine q_n ?_
     refine k_reg (r_gq [(3, .ov false [.sl (some 60) ((x3.1.set (Int.toNat (w64 ((x3.1.length : Int) - 1))) (v12.set (Int.toNat 1) (w64 (x3.2 + 1)))).map (eO 3 eI))]), (9, .ov false [.sl (some 23) (v2.map eRt)]), (10, .p (iV (v2.length : Int))), (11, .p (iV (w64 (x3.2 + 1))))] [] trivial) ?_
     exact lqn ((x3.1.set (Int.toNat (w64 ((x3.1.length : Int) - 1))) (v12.set (Int.toNat 1) (w64 (x3.2 + 1)))), (w64 (x3.2 + 1))) h
    ·replace h := ite_f hc7_10 h
     refine k_skip ?_
     refine q_n ?_
     replace h := bs h
     obtain ⟨u14, hu14, h⟩ := h
     refine k_reg (r_gq [(3, .ov false [.sl (some 60) ((x3.1 ++ [[x3.2, (w64 (x3.2 + 1)), v7]]).map (eO 3 eI))]), (9, .ov false [.sl (some 23) (v2.map eRt)]), (10, .p (iV (v2.length : Int))), (11, .p (iV x3.2))] [(7, {fix := some (49, .ov false [.sl (some 60) ((x3.1 ++ [[x3.2, (w64 (x3.2 + 1)), v7]]).map (eO 3 eI))])})] (A3 (show List.length ((x3.1.map (eO 3 eI)) : List (List C)) + List.length ((([[x3.2, (w64 (x3.2 + 1)), v7]]).map (eO 3 eI)) : List (List C)) ≤ 1099511627776 from (by have hg := (guardO_some hu14); simpa using hg)) (show ∀ row ∈ ((([[x3.2, (w64 (x3.2 + 1)), v7]]).map (eO 3 eI)) : List (List C)), row.length = 1 from (rows_len fun _ => rfl)) (show (SV.ov false [.sl (some 60) ((x3.1.map (eO 3 eI)) ++ (([[x3.2, (w64 (x3.2 + 1)), v7]]).map (eO 3 eI)))] : SV) = .ov false [.sl (some 60) ((x3.1 ++ [[x3.2, (w64 (x3.2 + 1)), v7]]).map (eO 3 eI))] from (congrArg (fun z => SV.ov false [.sl (some 60) z]) (List.map_append ..).symm)))) ?_
     refine b_n ?_
     refine q_n ?_
     refine k_reg (r_gq [(3, .ov false [.sl (some 60) ((x3.1 ++ [[x3.2, (w64 (x3.2 + 1)), v7]]).map (eO 3 eI))]), (9, .ov false [.sl (some 23) (v2.map eRt)]), (10, .p (iV (v2.length : Int))), (11, .p (iV (w64 (x3.2 + 1))))] [] trivial) ?_
     exact lqn ((x3.1 ++ [[x3.2, (w64 (x3.2 + 1)), v7]]), (w64 (x3.2 + 1))) h
  ·replace h := ite_f hc5_4 h
   refine k_exit ?_
   refine q_x ?_
   refine lq_x ?_
   refine b_x ?_
   have hyy := hy_x3 _ (oi h).symm
   subst hyy
   have h := hk_x3
   refine q_n ?_
   exact jx x3.1 h
theorem wk_spec_knLaps {a0 : (List Qp)}  {r : Bool} (h : spec_knLaps a0 = some r) : Meets Tryz.prog 42 [.d false [.sl none (a0.map ePt)]] { vals := [.p (.bool r)] } := by
 refine mo Tryz.func42 [(0, .d false [.sl none (a0.map ePt)])] ?_
 unfold spec_knLaps at h
 refine k_sreg (r_gq [(0, .d false [.sl none (a0.map ePt)])] [] trivial) ?_
 refine k_seq ?_
 replace h := bs h
 obtain ⟨v1, hv1, h⟩ := h
 replace h := bs h
 obtain ⟨w3, hw3, h⟩ := h
 refine k_sreg (l1 := [(0, .d false [.sl none (a0.map ePt)]), (11, .p (.bool w3))]) ?_ ?_
 ·clear h
  rcases ft (!v1) with ha0 | ha0
  ·replace hw3 := ite_t ha0 hw3
   have hw3 := oi hw3
   subst hw3
   exact (r_gq [(0, .d false [.sl none (a0.map ePt)]), (11, .p (.bool true))] [(1, {call := some (none, [.p (.bool v1)], true)}), (4, gT), (5, gT), (6, gT), (7, bT)] (A5 (wk_spec_imGood hv1) ha0 ha0 ha0 ha0))
  ·replace hw3 := ite_f ha0 hw3
   replace hw3 := bs hw3
   obtain ⟨v2, hv2, hw3⟩ := hw3
   have hw3 := oi hw3
   subst hw3
   exact (r_gq [(0, .d false [.sl none (a0.map ePt)]), (11, .p (.bool (!v2)))] [(1, {call := some (none, [.p (.bool v1)], true)}), (4, gF), (5, {g := some false, call := some (none, [.p (.bool v2)], true)}), (6, gF), (7, bF)] (A6 (wk_spec_imGood hv1) ha0 ha0 (wk_spec_lpStrict hv2) ha0 ha0))
 ·refine kc w3 (fun hc2_3 => ?_) (fun hc2_3 => ?_)
  ·replace h := ite_t hc2_3 h
   refine k_sreg (r_gq [(2, .p (.bool false))] [] trivial) ?_
   refine k_ret ?_
   refine q_r ?_
   obtain rfl := oi h
   exact er [(.p (.bool false), 2)]
  ·replace h := ite_f hc2_3 h
   refine k_skip ?_
   refine q_n ?_
   replace h := bs h
   obtain ⟨v5, hv5, h⟩ := h
   refine k_sreg (r_gq [(3, .ov false [.sl (some 60) (v5.map (eO 3 eI))])] [(1, {call := some (none, [.ov false [.sl (some 60) (v5.map (eO 3 eI))]], true)})] (A2 (wk_spec_imLaps hv5) (show List.all [.ov false [.sl (some 60) (v5.map (eO 3 eI))]] simpleR = true from (sa_o (wnR1 (wnL_enc (wn_O wn_I)) rfl) rfl)))) ?_
   replace h := bs h
   obtain ⟨w8, hw8, h⟩ := h
   refine k_sreg (l1 := [(2, .p (.bool w8))]) ?_ ?_
   ·clear h
    rcases ft ((v5.length : Int) == 2) with ha1 | ha1
    ·replace hw8 := ite_t ha1 hw8
     replace hw8 := bs hw8
     obtain ⟨v6, hv6, hw8⟩ := hw8
     replace hw8 := bs hw8
     obtain ⟨v7, hv7, hw8⟩ := hw8
     have hw8 := oi hw8
     subst hw8
     exact (r_gq [(2, .p (.bool (v7 == 1)))] [(1, {n := some v5.length}), (4, gT), (5, {g := some true, row := some [.sl (some 3) (v6.map eI)]}), (6, {g := some true, row := some [.sl (some 3) (v6.map eI)]}), (7, {g := some true, deep := some [.sl (some 3) (v6.map eI)], row := some (eI v7)}), (8, {g := some true, row := some (eI v7)}), (9, gT), (10, bT)] (B6 (show (v5.map (eO 3 eI)).length = v5.length from (List.length_map ..)) ha1 ha1 (idxO_some hv6).1 (map_get (eO 3 eI) (idxO_some hv6).2) ha1 (B6 (show frR [.sl (some 3) (v6.map eI)] = false from rfl) (show getRow [[.sl (some 60) (v5.map (eO 3 eI))]] [(0, 0), ((Int.toNat 0), 0)] = some [.sl (some 3) (v6.map eI)] from ((gr0 rfl).trans (gre (map_get (eO 3 eI) (idxO_some hv6).2)))) ha1 (idxO_some hv7).1 (map_get eI (idxO_some hv7).2) (show getRow [[.sl (some 60) (v5.map (eO 3 eI))]] [(0, 0), ((Int.toNat 0), 0)] = some [.sl (some 3) (v6.map eI)] from ((gr0 rfl).trans (gre (map_get (eO 3 eI) (idxO_some hv6).2)))) (A4 ha1 (show getRow [[.sl (some 60) (v5.map (eO 3 eI))]] [(0, 0), ((Int.toNat 0), 0), ((Int.toNat 2), 0)] = some (eI v7) from ((gr0 rfl).trans ((grs (map_get (eO 3 eI) (idxO_some hv6).2) rfl).trans (gre (map_get eI (idxO_some hv7).2))))) ha1 ha1))))
    ·replace hw8 := ite_f ha1 hw8
     have hw8 := oi hw8
     subst hw8
     exact (r_gq [(2, .p (.bool false))] [(1, {n := some v5.length}), (4, gF), (5, gF), (6, gF), (7, gF), (8, gF), (9, gF), (10, bF)] (B6 (show (v5.map (eO 3 eI)).length = v5.length from (List.length_map ..)) ha1 ha1 ha1 ha1 ha1 (A2 ha1 ha1)))
   ·refine k_ret ?_
    obtain rfl := oi h
    exact er [(.p (.bool w8), 2)]
theorem wk_spec_knLength {a0 : Int}  {r : Bool} (h : spec_knLength a0 = some r) : Meets Tryz.prog 43 [wI a0] { vals := [.p (.bool r)] } := by
 refine mo Tryz.func43 [(0, .p (iV a0))] ?_
 unfold spec_knLength at h
 refine k_sreg (r_gq [(0, .p (iV a0))] [] trivial) ?_
 replace h := bs h
 obtain ⟨v1, hv1, h⟩ := h
 refine k_sreg (r_gq [(2, .p (.bool v1))] [(1, {call := some (none, [.p (.bool v1)], true)})] (A1 (wk_spec_l1In hv1))) ?_
 refine k_ret ?_
 obtain rfl := oi h
 exact er [(.p (.bool v1), 2)]
theorem wk_spec_lpTurns {a0 : (List Qp)}  {r : (List Qr)} (h : spec_lpTurns a0 = some r) : Meets Tryz.prog 93 [.d false [.sl none (a0.map ePt)]] { vals := [.ov false [.sl (some 23) (r.map eRt)]] } := by
 refine mo Tryz.func93 [(0, .d false [.sl none (a0.map ePt)])] ?_
 unfold spec_lpTurns at h
 refine k_sreg (r_gq [(0, .d false [.sl none (a0.map ePt)])] [] trivial) ?_
 refine k_sreg (r_gq [(0, .d false [.sl none (a0.map ePt)]), (3, .ov false [.sl (some 23) []])] [] trivial) ?_
 refine k_join (J := fun (x : (List Qr)) => [(3, .ov false [.sl (some 23) (x.map eRt)])]) (K := fun x => spec_lpTurns_k1 x = some r) (fun x1 h => ?_) ?_
 ·unfold spec_lpTurns_k1 at h
  refine k_sreg (r_gq [(2, .ov false [.sl (some 23) (x1.map eRt)])] [] trivial) ?_
  refine k_ret ?_
  obtain rfl := oi h
  exact er [(.ov false [.sl (some 23) (x1.map eRt)], 2)]
 ·replace h := bs h
  obtain ⟨v2, hv2, h⟩ := h
  replace h := bs h
  obtain ⟨u3, hu3, h⟩ := h
  refine k_sreg (r_gq [(0, .d false [.sl none (a0.map ePt)]), (3, .ov false [.sl (some 23) []]), (8, .d false [.sl none ((v2.drop (Int.toNat 1)).map (eF eI))]), (9, .p (iV ((v2.drop (Int.toNat 1)).length : Int))), (10, .p (iV 0))] [(1, {call := some (none, [.ov false [.sl (some 60) (v2.map (eO 3 eI))]], true)}), (2, {pre := some (7, .d false [.sl none (v2.map (eF eI))]), fix := some (8, .d false [.sl none ((v2.drop (Int.toNat 1)).map (eF eI))])}), (3, {n := some (v2.drop (Int.toNat 1)).length})] (B6 (wk_spec_imLaps hv2) (show List.all [.ov false [.sl (some 60) (v2.map (eO 3 eI))]] simpleR = true from (sa_o (wnR1 (wnL_enc (wn_O wn_I)) rfl) rfl)) (show (SV.d false (eraR [.sl (some 60) (v2.map (eO 3 eI))]) : SV) = .d false [.sl none (v2.map (eF eI))] from (congrArg (fun z => SV.d false z) (erc_sl (eraL_enc (era_O er_I)) rfl))) (show (Int.toNat 1) ≤ (v2.map (eF eI)).length from (by have hg := (guardO_some hu3); first | (simp only [List.length_map]; omega) | omega)) (show (v2.map (eF eI)).length ≤ (v2.map (eF eI)).length from (Nat.le_refl _)) (show ∀ row ∈ (v2.map (eF eI)), row.length = 1 from (rows_len fun _ => rfl)) (A3 (show (0 : Int) ≤ 1 from (by have hg := (guardO_some hu3); omega)) (show (SV.d false [.sl none (((v2.map (eF eI)).take (v2.map (eF eI)).length).drop (Int.toNat 1))] : SV) = .d false [.sl none ((v2.drop (Int.toNat 1)).map (eF eI))] from (congrArg (fun z => SV.d false [.sl none z]) sl_lo)) (show ((v2.drop (Int.toNat 1)).map (eF eI)).length = (v2.drop (Int.toNat 1)).length from (List.length_map ..))))) ?_
  refine k_block ?_
  obtain ⟨y5, hl_x4, hk_x4⟩ := bs h
  clear h
  refine k_loop (J := fun (x : ((List Qr) × Int)) => [(0, .d false [.sl none (a0.map ePt)]), (3, .ov false [.sl (some 23) (x.1.map eRt)]), (8, .d false [.sl none ((v2.drop (Int.toNat 1)).map (eF eI))]), (9, .p (iV ((v2.drop (Int.toNat 1)).length : Int))), (10, .p (iV x.2))]) hl_x4 (wk_of (by kernel_rfl) (by kernel_rfl)) (fun x4 o_x4 h hy_x4 => ?_)
  unfold spec_lpTurns_b1 at h
  refine k_sreg (r_gq [(0, .d false [.sl none (a0.map ePt)]), (3, .ov false [.sl (some 23) (x4.1.map eRt)]), (8, .d false [.sl none ((v2.drop (Int.toNat 1)).map (eF eI))]), (9, .p (iV ((v2.drop (Int.toNat 1)).length : Int))), (10, .p (iV x4.2)), (11, .p (.bool (decide (x4.2 < ((v2.drop (Int.toNat 1)).length : Int)))))] [] trivial) ?_
  refine k_seq ?_
  refine kc (decide (x4.2 < ((v2.drop (Int.toNat 1)).length : Int))) (fun hc5_5 => ?_) (fun hc5_5 => ?_)
  ·replace h := ite_t hc5_5 h
   refine k_skip ?_
   refine q_n ?_
   refine k_seq ?_
   refine k_block ?_
   replace h := bs h
   obtain ⟨v7, hv7, h⟩ := h
   refine k_sreg (r_gq [(0, .d false [.sl none (a0.map ePt)]), (3, .ov false [.sl (some 23) (x4.1.map eRt)]), (5, .d false [.sl none (v7.map eI)]), (8, .d false [.sl none ((v2.drop (Int.toNat 1)).map (eF eI))]), (9, .p (iV ((v2.drop (Int.toNat 1)).length : Int))), (10, .p (iV x4.2))] [(0, {row := some [.sl none (v7.map eI)]})] (A2 (idxO_some hv7).1 (map_get (eF eI) (idxO_some hv7).2))) ?_
   replace h := bs h
   obtain ⟨v8, hv8, h⟩ := h
   replace h := bs h
   obtain ⟨v9, hv9, h⟩ := h
   replace h := bs h
   obtain ⟨u10, hu10, h⟩ := h
   refine k_reg (r_gq [(0, .d false [.sl none (a0.map ePt)]), (3, .ov false [.sl (some 23) ((x4.1 ++ [v9.1]).map eRt)]), (8, .d false [.sl none ((v2.drop (Int.toNat 1)).map (eF eI))]), (9, .p (iV ((v2.drop (Int.toNat 1)).length : Int))), (10, .p (iV x4.2))] [(3, {row := some (eI v8)}), (5, {row := some (ePt v9)}), (9, {fix := some (23, .ov false [.sl (some 23) ((x4.1 ++ [v9.1]).map eRt)])})] (B6 (idxO_some hv8).1 (map_get eI (idxO_some hv8).2) (idxO_some hv9).1 (map_get ePt (idxO_some hv9).2) (show List.length ((x4.1.map eRt) : List (List C)) + List.length ((([v9.1]).map eRt) : List (List C)) ≤ 1099511627776 from (by have hg := (guardO_some hu10); simpa using hg)) (show ∀ row ∈ ((([v9.1]).map eRt) : List (List C)), row.length = 2 from (rows_len fun _ => rfl)) (A1 (show (SV.ov false [.sl (some 23) ((x4.1.map eRt) ++ (([v9.1]).map eRt))] : SV) = .ov false [.sl (some 23) ((x4.1 ++ [v9.1]).map eRt)] from (congrArg (fun z => SV.ov false [.sl (some 23) z]) (List.map_append ..).symm))))) ?_
   refine b_n ?_
   refine q_n ?_
   refine k_reg (r_gq [(0, .d false [.sl none (a0.map ePt)]), (3, .ov false [.sl (some 23) ((x4.1 ++ [v9.1]).map eRt)]), (8, .d false [.sl none ((v2.drop (Int.toNat 1)).map (eF eI))]), (9, .p (iV ((v2.drop (Int.toNat 1)).length : Int))), (10, .p (iV (w64 (x4.2 + 1))))] [] trivial) ?_
   exact lqn ((x4.1 ++ [v9.1]), (w64 (x4.2 + 1))) h
  ·replace h := ite_f hc5_5 h
   refine k_exit ?_
   refine q_x ?_
   refine lq_x ?_
   refine b_x ?_
   have hyy := hy_x4 _ (oi h).symm
   subst hyy
   have h := hk_x4
   refine q_n ?_
   exact jx x4.1 h
theorem wk_spec_knCentre {a0 : (List Qp)}  {r : Qr} (h : spec_knCentre a0 = some r) : Meets Tryz.prog 61 [.d false [.sl none (a0.map ePt)]] { vals := [.p (vRt r)] } := by
 refine mo Tryz.func61 [(0, .d false [.sl none (a0.map ePt)])] ?_
 unfold spec_knCentre at h
 refine k_sreg (r_gq [(0, .d false [.sl none (a0.map ePt)]), (2, .box [rI 0, rI 0])] [] trivial) ?_
 replace h := bs h
 obtain ⟨v1, hv1, h⟩ := h
 replace h := bs h
 obtain ⟨v2, hv2, h⟩ := h
 refine k_sreg (r_gq [(2, .box (eRt v2))] [(1, {call := some (none, [.ov false [.sl (some 23) (v1.map eRt)]], true)}), (2, {row := some (eRt v2)}), (3, {row := some (eRt v2)})] (A5 (wk_spec_lpTurns hv1) (show List.all [.ov false [.sl (some 23) (v1.map eRt)]] simpleR = true from (sa_o (wnR1 (wnL_enc (wn_P wn_I wn_I)) rfl) rfl)) (idxO_some hv2).1 (map_get eRt (idxO_some hv2).2) (show getRow [[.sl (some 23) (v1.map eRt)]] [(0, 0), ((Int.toNat 0), 0)] = some (eRt v2) from ((gr0 rfl).trans (gre (map_get eRt (idxO_some hv2).2)))))) ?_
 refine k_ret ?_
 obtain rfl := oi h
 exact er [(.p (vRt v2), 2)]
theorem wk_spec_imPiece {a0 : (List Qp)} {a1 : Qr}  {r : Int} (h : spec_imPiece a0 a1 = some r) : Meets Tryz.prog 127 [.d false [.sl none (a0.map ePt)], .v (vRt a1)] { vals := [.p (iV r)] } := by
 refine mo Tryz.func127 [(0, .d false [.sl none (a0.map ePt)]), (1, .p (vRt a1))] ?_
 unfold spec_imPiece at h
 refine k_sreg (r_gq [(0, .d false [.sl none (a0.map ePt)]), (3, .box (eRt a1))] [] trivial) ?_
 refine k_sreg (r_gq [(0, .d false [.sl none (a0.map ePt)]), (3, .box (eRt a1)), (5, .p (iV 0))] [] trivial) ?_
 refine k_join (J := fun (x : Int) => [(5, .p (iV x))]) (K := fun x => spec_imPiece_k1 x = some r) (fun x1 h => ?_) ?_
 ·unfold spec_imPiece_k1 at h
  refine k_sreg (r_gq [(4, .p (iV x1))] [] trivial) ?_
  refine k_ret ?_
  obtain rfl := oi h
  exact er [(.p (iV x1), 4)]
 ·refine k_block ?_
  obtain ⟨y3, hl_x2, hk_x2⟩ := bs h
  clear h
  refine k_loop (J := fun (x : Int) => [(0, .d false [.sl none (a0.map ePt)]), (3, .box (eRt a1)), (5, .p (iV x))]) hl_x2 (wk_of (by kernel_rfl) (by kernel_rfl)) (fun x2 o_x2 h hy_x2 => ?_)
  unfold spec_imPiece_b1 at h
  refine k_seq ?_
  replace h := bs h
  obtain ⟨w6, hw6, h⟩ := h
  refine k_sreg (l1 := [(0, .d false [.sl none (a0.map ePt)]), (3, .box (eRt a1)), (5, .p (iV x2)), (21, .p (.bool w6))]) ?_ ?_
  ·clear h
   rcases ft (decide ((w64 (x2 + 2)) < (a0.length : Int))) with ha0 | ha0
   ·replace hw6 := ite_t ha0 hw6
    replace hw6 := bs hw6
    obtain ⟨v4, hv4, hw6⟩ := hw6
    replace hw6 := bs hw6
    obtain ⟨v5, hv5, hw6⟩ := hw6
    have hw6 := oi hw6
    subst hw6
    exact (r_dq Tryz_mixed 13 [] [(0, .d false [.sl none (a0.map ePt)]), (3, .box (eRt a1)), (5, .p (iV x2)), (21, .p (.bool (decide (v5 < 0))))] [(3, {n := some a0.length}), (6, gT), (7, gT), (8, gT), (9, {g := some true, row := some (ePt v4)}), (10, gT), (11, gT), (12, gT), (13, {g := some true, call := some (none, [.p (iV v5)], true)}), (14, gT), (15, bT)] (B6 (show (a0.map ePt).length = a0.length from (List.length_map ..)) ha0 ha0 ha0 ha0 (idxO_some hv4).1 (B6 (map_get ePt (idxO_some hv4).2) ha0 ha0 ha0 ha0 (wk_spec_raCmp hv5) (A2 ha0 ha0))))
   ·replace hw6 := ite_f ha0 hw6
    have hw6 := oi hw6
    subst hw6
    exact (r_dq Tryz_mixed 13 [] [(0, .d false [.sl none (a0.map ePt)]), (3, .box (eRt a1)), (5, .p (iV x2)), (21, .p (.bool false))] [(3, {n := some a0.length}), (6, gF), (7, gF), (8, gF), (9, gF), (10, gF), (11, gF), (12, gF), (13, gF), (14, gF), (15, bF)] (B6 (show (a0.map ePt).length = a0.length from (List.length_map ..)) ha0 ha0 ha0 ha0 ha0 (A5 ha0 ha0 ha0 ha0 ha0)))
  ·refine kc w6 (fun hc5_6 => ?_) (fun hc5_6 => ?_)
   ·replace h := ite_t hc5_6 h
    refine k_skip ?_
    refine q_n ?_
    refine k_block ?_
    refine k_reg (r_gq [(0, .d false [.sl none (a0.map ePt)]), (3, .box (eRt a1)), (5, .p (iV (w64 (x2 + 1))))] [] trivial) ?_
    refine b_n ?_
    exact lqn (w64 (x2 + 1)) h
   ·replace h := ite_f hc5_6 h
    refine k_exit ?_
    refine q_x ?_
    refine lq_x ?_
    refine b_x ?_
    have hyy := hy_x2 _ (oi h).symm
    subst hyy
    have h := hk_x2
    refine q_n ?_
    exact jx x2 h
theorem wk_spec_raMul {a0 : Qr} {a1 : Qr}  {r : (Qr × Bool)} (h : spec_raMul a0 a1 = some r) : Meets Tryz.prog 141 [.v (vRt a0), .v (vRt a1)] { vals := [.p (vRt r.1), .p (.bool r.2)] } := by
 refine mo Tryz.func141 [(0, .p (vRt a0)), (1, .p (vRt a1))] ?_
 unfold spec_raMul at h
 refine k_sreg (r_gq [(2, .box (eRt a0)), (3, .box (eRt a1)), (4, .box [rI 0, rI 0])] [] trivial) ?_
 replace h := bs h
 obtain ⟨v1, hv1, h⟩ := h
 refine k_sreg (r_gq [(4, .box (eRt v1.1)), (5, .p (.bool v1.2))] [(10, {call := some (none, [.p (vRt v1.1), .p (.bool v1.2)], true)})] (A1 (wk_spec_raMake hv1))) ?_
 refine k_ret ?_
 obtain rfl := oi h
 exact er [(.p (vRt v1.1), 4), (.p (.bool v1.2), 5)]
theorem wk_spec_raAdd {a0 : Qr} {a1 : Qr}  {r : (Qr × Bool)} (h : spec_raAdd a0 a1 = some r) : Meets Tryz.prog 142 [.v (vRt a0), .v (vRt a1)] { vals := [.p (vRt r.1), .p (.bool r.2)] } := by
 refine mo Tryz.func142 [(0, .p (vRt a0)), (1, .p (vRt a1))] ?_
 unfold spec_raAdd at h
 refine k_sreg (r_gq [(2, .box (eRt a0)), (3, .box (eRt a1)), (4, .box [rI 0, rI 0])] [] trivial) ?_
 replace h := bs h
 obtain ⟨v1, hv1, h⟩ := h
 refine k_sreg (r_gq [(4, .box (eRt v1.1)), (5, .p (.bool v1.2))] [(16, {call := some (none, [.p (vRt v1.1), .p (.bool v1.2)], true)})] (A1 (wk_spec_raMake hv1))) ?_
 refine k_ret ?_
 obtain rfl := oi h
 exact er [(.p (vRt v1.1), 4), (.p (.bool v1.2), 5)]
theorem wk_spec_imOn {a0 : Qp} {a1 : Qp} {a2 : Qr}  {r : (Qr × Bool)} (h : spec_imOn a0 a1 a2 = some r) : Meets Tryz.prog 128 [.v (vPt a0), .v (vPt a1), .v (vRt a2)] { vals := [.p (vRt r.1), .p (.bool r.2)] } := by
 refine mo Tryz.func128 [(0, .p (vPt a0)), (1, .p (vPt a1)), (2, .p (vRt a2))] ?_
 unfold spec_imOn at h
 refine k_sreg (r_gq [(3, .box (ePt a0)), (4, .box (ePt a1)), (5, .box (eRt a2)), (6, .box [rI 0, rI 0])] [] trivial) ?_
 replace h := bs h
 obtain ⟨v1, hv1, h⟩ := h
 refine k_sreg (r_gq [(3, .box (ePt a0)), (4, .box (ePt a1)), (6, .box [rI 0, rI 0]), (8, .box (eRt v1.1)), (9, .p (.bool v1.2))] [(3, {call := some (none, [.p (vRt v1.1), .p (.bool v1.2)], true)})] (A1 (wk_spec_raSub hv1))) ?_
 replace h := bs h
 obtain ⟨v2, hv2, h⟩ := h
 replace h := bs h
 obtain ⟨v3, hv3, h⟩ := h
 refine k_sreg (r_dq Tryz_mixed 10 [(9, 10)] [(3, .box (ePt a0)), (6, .box [rI 0, rI 0]), (9, .p (.bool v1.2)), (10, .box (eRt v3.1)), (11, .p (.bool v3.2))] [(3, {call := some (none, [.p (vRt v2)], true)}), (4, {call := some (none, [.p (vRt v3.1), .p (.bool v3.2)], true)})] (A2 (wk_spec_imSlope hv2) (wk_spec_raMul hv3))) ?_
 refine k_seq ?_
 refine k_sreg (l1 := [(3, .box (ePt a0)), (6, .box [rI 0, rI 0]), (10, .box (eRt v3.1)), (32, .p (.bool ((!v1.2) || (!v3.2))))]) ?_ ?_
 ·rcases ft (!v1.2) with ha0 | ha0
  ·exact RegOk.of_eq (l2 := [(3, .box (ePt a0)), (6, .box [rI 0, rI 0]), (10, .box (eRt v3.1)), (32, .p (.bool ((!v1.2) || (!v3.2))))]) (r_gq [(3, .box (ePt a0)), (6, .box [rI 0, rI 0]), (10, .box (eRt v3.1)), (32, .p (.bool true))] [(3, gT), (4, gT), (5, bT)] (A3 ha0 ha0 ha0)) (by simp [ha0])
  ·exact RegOk.of_eq (l2 := [(3, .box (ePt a0)), (6, .box [rI 0, rI 0]), (10, .box (eRt v3.1)), (32, .p (.bool ((!v1.2) || (!v3.2))))]) (r_gq [(3, .box (ePt a0)), (6, .box [rI 0, rI 0]), (10, .box (eRt v3.1)), (32, .p (.bool (!v3.2)))] [(3, gF), (4, gF), (5, bF)] (A3 ha0 ha0 ha0)) (by simp [ha0])
 ·refine kc ((!v1.2) || (!v3.2)) (fun hc2_3 => ?_) (fun hc2_3 => ?_)
  ·replace h := ite_t hc2_3 h
   refine k_sreg (r_gq [(6, .box [rI 0, rI 0]), (7, .p (.bool false))] [] trivial) ?_
   refine k_ret ?_
   refine q_r ?_
   obtain rfl := oi h
   exact er [(.p (.agg #[.int .i64 0, .int .i64 0]), 6), (.p (.bool false), 7)]
  ·replace h := ite_f hc2_3 h
   refine k_skip ?_
   refine q_n ?_
   replace h := bs h
   obtain ⟨v5, hv5, h⟩ := h
   refine k_sreg (r_gq [(6, .box (eRt v5.1)), (7, .p (.bool v5.2))] [(3, {call := some (none, [.p (vRt v5.1), .p (.bool v5.2)], true)})] (A1 (wk_spec_raAdd hv5))) ?_
   refine k_ret ?_
   obtain rfl := oi h
   exact er [(.p (vRt v5.1), 6), (.p (.bool v5.2), 7)]
theorem wk_spec_imAt {a0 : (List Qp)} {a1 : Qr}  {r : (Qr × Bool)} (h : spec_imAt a0 a1 = some r) : Meets Tryz.prog 108 [.d false [.sl none (a0.map ePt)], .v (vRt a1)] { vals := [.p (vRt r.1), .p (.bool r.2)] } := by
 refine mo Tryz.func108 [(0, .d false [.sl none (a0.map ePt)]), (1, .p (vRt a1))] ?_
 unfold spec_imAt at h
 refine k_sreg (r_gq [(0, .d false [.sl none (a0.map ePt)]), (3, .box (eRt a1)), (4, .box [rI 0, rI 0])] [] trivial) ?_
 replace h := bs h
 obtain ⟨v1, hv1, h⟩ := h
 refine k_sreg (r_gq [(0, .d false [.sl none (a0.map ePt)]), (3, .box (eRt a1)), (4, .box [rI 0, rI 0]), (6, .p (iV v1))] [(2, {call := some (none, [.p (iV v1)], true)})] (A1 (wk_spec_imPiece hv1))) ?_
 replace h := bs h
 obtain ⟨v2, hv2, h⟩ := h
 replace h := bs h
 obtain ⟨v3, hv3, h⟩ := h
 replace h := bs h
 obtain ⟨v4, hv4, h⟩ := h
 refine k_sreg (r_dq Tryz_mixed 10 [] [(4, .box (eRt v4.1)), (5, .p (.bool v4.2))] [(2, {row := some (ePt v2)}), (7, {row := some (ePt v3)}), (10, {call := some (none, [.p (vRt v4.1), .p (.bool v4.2)], true)})] (A5 (idxO_some hv2).1 (map_get ePt (idxO_some hv2).2) (idxO_some hv3).1 (map_get ePt (idxO_some hv3).2) (wk_spec_imOn hv4))) ?_
 refine k_ret ?_
 obtain rfl := oi h
 exact er [(.p (vRt v4.1), 4), (.p (.bool v4.2), 5)]
theorem wk_spec_orRun {a0 : (List Qp)} {a1 : Qr} {a2 : Int}  {r : (List Qr)} (h : spec_orRun a0 a1 a2 = some r) : Meets Tryz.prog 81 [.d false [.sl none (a0.map ePt)], .v (vRt a1), wI a2] { vals := [.ov false [.sl (some 23) (r.map eRt)]] } := by
 refine mo Tryz.func81 [(0, .d false [.sl none (a0.map ePt)]), (1, .p (vRt a1)), (2, .p (iV a2))] ?_
 unfold spec_orRun at h
 refine k_sreg (r_gq [(0, .d false [.sl none (a0.map ePt)]), (2, .p (iV a2)), (4, .box (eRt a1))] [] trivial) ?_
 refine k_sreg (r_gq [(0, .d false [.sl none (a0.map ePt)]), (2, .p (iV a2)), (7, .ov false [.sl (some 23) (([a1]).map eRt)])] [] trivial) ?_
 refine k_join (J := fun (x : (List Qr)) => [(7, .ov false [.sl (some 23) (x.map eRt)])]) (K := fun x => spec_orRun_k1 x = some r) (fun x1 h => ?_) ?_
 ·unfold spec_orRun_k1 at h
  refine k_sreg (r_gq [(6, .ov false [.sl (some 23) (x1.map eRt)])] [] trivial) ?_
  refine k_ret ?_
  obtain rfl := oi h
  exact er [(.ov false [.sl (some 23) (x1.map eRt)], 6)]
 ·refine k_block ?_
  obtain ⟨y3, hl_x2, hk_x2⟩ := bs h
  clear h
  refine k_loop (J := fun (x : (List Qr)) => [(0, .d false [.sl none (a0.map ePt)]), (2, .p (iV a2)), (7, .ov false [.sl (some 23) (x.map eRt)])]) hl_x2 (wk_of (by kernel_rfl) (by kernel_rfl)) (fun x2 o_x2 h hy_x2 => ?_)
  unfold spec_orRun_b1 at h
  refine k_seq ?_
  refine k_sreg (r_gq [(0, .d false [.sl none (a0.map ePt)]), (2, .p (iV a2)), (7, .ov false [.sl (some 23) (x2.map eRt)]), (15, .p (.bool (decide ((x2.length : Int) ≤ a2))))] [(1, {n := some x2.length})] (A1 (show (x2.map eRt).length = x2.length from (List.length_map ..)))) ?_
  refine kc (decide ((x2.length : Int) ≤ a2)) (fun hc5_3 => ?_) (fun hc5_3 => ?_)
  ·replace h := ite_t hc5_3 h
   refine k_skip ?_
   refine q_n ?_
   refine k_block ?_
   replace h := bs h
   obtain ⟨v5, hv5, h⟩ := h
   replace h := bs h
   obtain ⟨v6, hv6, h⟩ := h
   refine k_sreg (r_gq [(0, .d false [.sl none (a0.map ePt)]), (2, .p (iV a2)), (7, .ov false [.sl (some 23) (x2.map eRt)]), (8, .box (eRt v6.1)), (9, .p (.bool v6.2))] [(3, {n := some x2.length}), (5, {row := some (eRt v5)}), (6, {row := some (eRt v5)}), (7, {call := some (none, [.p (vRt v6.1), .p (.bool v6.2)], true)})] (A5 (show (x2.map eRt).length = x2.length from (List.length_map ..)) (idxO_some hv5).1 (map_get eRt (idxO_some hv5).2) (show getRow [[.sl (some 23) (x2.map eRt)]] [(0, 0), ((Int.toNat (w64 ((x2.length : Int) - 1))), 0)] = some (eRt v5) from ((gr0 rfl).trans (gre (map_get eRt (idxO_some hv5).2)))) (wk_spec_imAt hv6))) ?_
   refine k_seq ?_
   refine k_sreg (r_gq [(0, .d false [.sl none (a0.map ePt)]), (2, .p (iV a2)), (7, .ov false [.sl (some 23) (x2.map eRt)]), (8, .box (eRt v6.1)), (28, .p (.bool (!v6.2)))] [] trivial) ?_
   refine kc (!v6.2) (fun hc6_6 => ?_) (fun hc6_6 => ?_)
   ·replace h := ite_t hc6_6 h
    refine k_sreg (r_gq [(6, .ov false [.sl (some 23) (x2.map eRt)])] [] trivial) ?_
    refine k_ret ?_
    refine q_r ?_
    refine b_r ?_
    refine lq_r ?_
    refine b_r ?_
    refine q_r ?_
    have hyy := hy_x2 _ (oi h).symm
    subst hyy
    have h := hk_x2
    dsimp only [Sum.elim] at h
    obtain rfl := oi h
    exact er [(.ov false [.sl (some 23) (x2.map eRt)], 6)]
   ·replace h := ite_f hc6_6 h
    refine k_skip ?_
    refine q_n ?_
    replace h := bs h
    obtain ⟨u8, hu8, h⟩ := h
    refine k_reg (r_gq [(0, .d false [.sl none (a0.map ePt)]), (2, .p (iV a2)), (7, .ov false [.sl (some 23) ((x2 ++ [v6.1]).map eRt)])] [(3, {fix := some (33, .ov false [.sl (some 23) ((x2 ++ [v6.1]).map eRt)])})] (A3 (show List.length ((x2.map eRt) : List (List C)) + List.length ((([v6.1]).map eRt) : List (List C)) ≤ 1099511627776 from (by have hg := (guardO_some hu8); simpa using hg)) (show ∀ row ∈ ((([v6.1]).map eRt) : List (List C)), row.length = 2 from (rows_len fun _ => rfl)) (show (SV.ov false [.sl (some 23) ((x2.map eRt) ++ (([v6.1]).map eRt))] : SV) = .ov false [.sl (some 23) ((x2 ++ [v6.1]).map eRt)] from (congrArg (fun z => SV.ov false [.sl (some 23) z]) (List.map_append ..).symm)))) ?_
    refine b_n ?_
    exact lqn (x2 ++ [v6.1]) h
  ·replace h := ite_f hc5_3 h
   refine k_exit ?_
   refine q_x ?_
   refine lq_x ?_
   refine b_x ?_
   have hyy := hy_x2 _ (oi h).symm
   subst hyy
   have h := hk_x2
   dsimp only [Sum.elim] at h
   refine q_n ?_
   exact jx x2 h
theorem wk_spec_knValues {a0 : (List Qp)} {a1 : Int}  {r : ((List Qr) × Bool)} (h : spec_knValues a0 a1 = some r) : Meets Tryz.prog 45 [.d false [.sl none (a0.map ePt)], wI a1] { vals := [.d false [.sl none (r.1.map eRt)], .p (.bool r.2)] } := by
 refine mo Tryz.func45 [(0, .d false [.sl none (a0.map ePt)]), (1, .p (iV a1))] ?_
 unfold spec_knValues at h
 refine k_sreg (r_gq [(0, .d false [.sl none (a0.map ePt)]), (1, .p (iV a1))] [(1, {pre := some (4, .d false [.sl none []])})] (A1 (show (SV.d false (eraR [.sl (some 23) []]) : SV) = .d false [.sl none []] from (congrArg (fun z => SV.d false z) (erc_sl rfl rfl))))) ?_
 replace h := bs h
 obtain ⟨v1, hv1, h⟩ := h
 replace h := bs h
 obtain ⟨v2, hv2, h⟩ := h
 refine k_sreg (r_gq [(1, .p (iV a1)), (6, .d false [.sl none (v2.map eRt)])] [(2, {call := some (none, [.p (vRt v1)], true)}), (4, {call := some (none, [.ov false [.sl (some 23) (v2.map eRt)]], true)}), (5, {pre := some (11, .d false [.sl none (v2.map eRt)])})] (A4 (wk_spec_knCentre hv1) (wk_spec_orRun hv2) (show List.all [.ov false [.sl (some 23) (v2.map eRt)]] simpleR = true from (sa_o (wnR1 (wnL_enc (wn_P wn_I wn_I)) rfl) rfl)) (show (SV.d false (eraR [.sl (some 23) (v2.map eRt)]) : SV) = .d false [.sl none (v2.map eRt)] from (congrArg (fun z => SV.d false z) (erc_sl (eraL_enc (era_P er_I er_I)) rfl))))) ?_
 refine k_seq ?_
 refine k_sreg (r_gq [(6, .d false [.sl none (v2.map eRt)]), (15, .p (.bool (decide ((v2.length : Int) ≤ a1))))] [(1, {n := some v2.length})] (A1 (show (v2.map eRt).length = v2.length from (List.length_map ..)))) ?_
 refine kc (decide ((v2.length : Int) ≤ a1)) (fun hc2_2 => ?_) (fun hc2_2 => ?_)
 ·replace h := ite_t hc2_2 h
  refine k_sreg (r_gq [(4, .d false [.sl none []]), (5, .p (.bool false))] [(1, {pre := some (4, .d false [.sl none []])})] (A1 (show (SV.d false (eraR [.sl (some 23) []]) : SV) = .d false [.sl none []] from (congrArg (fun z => SV.d false z) (erc_sl rfl rfl))))) ?_
  refine k_ret ?_
  refine q_r ?_
  obtain rfl := oi h
  exact er [(.d false [.sl none []], 4), (.p (.bool false), 5)]
 ·replace h := ite_f hc2_2 h
  refine k_skip ?_
  refine q_n ?_
  replace h := bs h
  obtain ⟨u4, hu4, h⟩ := h
  refine k_sreg (r_gq [(4, .d false [.sl none ((v2.drop (Int.toNat 1)).map eRt)]), (5, .p (.bool true))] [(1, {fix := some (17, .d false [.sl none ((v2.drop (Int.toNat 1)).map eRt)])})] (A5 (show (Int.toNat 1) ≤ (v2.map eRt).length from (by have hg := (guardO_some hu4); first | (simp only [List.length_map]; omega) | omega)) (show (v2.map eRt).length ≤ (v2.map eRt).length from (Nat.le_refl _)) (show ∀ row ∈ (v2.map eRt), row.length = 2 from (rows_len fun _ => rfl)) (show (0 : Int) ≤ 1 from (by have hg := (guardO_some hu4); omega)) (show (SV.d false [.sl none (((v2.map eRt).take (v2.map eRt).length).drop (Int.toNat 1))] : SV) = .d false [.sl none ((v2.drop (Int.toNat 1)).map eRt)] from (congrArg (fun z => SV.d false [.sl none z]) sl_lo)))) ?_
  refine k_ret ?_
  obtain rfl := oi h
  exact er [(.d false [.sl none ((v2.drop (Int.toNat 1)).map eRt)], 4), (.p (.bool true), 5)]
theorem wk_spec_knWord {a0 : (List Qp)} {a1 : Int}  {r : (ByteArray × Bool)} (h : spec_knWord a0 a1 = some r) : Meets Tryz.prog 29 [.d false [.sl none (a0.map ePt)], wI a1] { vals := [.p (.string r.1), .p (.bool r.2)] } := by
 refine mo Tryz.func29 [(0, .d false [.sl none (a0.map ePt)]), (1, .p (iV a1))] ?_
 unfold spec_knWord at h
 refine k_sreg (r_gq [(0, .d false [.sl none (a0.map ePt)]), (1, .p (iV a1))] [] trivial) ?_
 replace h := bs h
 obtain ⟨v1, hv1, h⟩ := h
 refine k_sreg (r_gq [(0, .d false [.sl none (a0.map ePt)]), (6, .d false [.sl none (v1.1.map eRt)]), (7, .p (.bool v1.2))] [(2, {call := some (none, [.d false [.sl none (v1.1.map eRt)], .p (.bool v1.2)], false)})] (A1 (wk_spec_knValues hv1))) ?_
 refine k_seq ?_
 refine k_sreg (r_gq [(0, .d false [.sl none (a0.map ePt)]), (6, .d false [.sl none (v1.1.map eRt)]), (19, .p (.bool (!v1.2)))] [] trivial) ?_
 refine kc (!v1.2) (fun hc2_1 => ?_) (fun hc2_1 => ?_)
 ·replace h := ite_t hc2_1 h
  refine k_sreg (r_gq [(4, .p (.string ByteArray.empty)), (5, .p (.bool false))] [] trivial) ?_
  refine k_ret ?_
  refine q_r ?_
  obtain rfl := oi h
  exact er [(.p (.string ByteArray.empty), 4), (.p (.bool false), 5)]
 ·replace h := ite_f hc2_1 h
  refine k_skip ?_
  refine q_n ?_
  refine k_sreg (r_gq [(0, .d false [.sl none (a0.map ePt)]), (6, .d false [.sl none (v1.1.map eRt)]), (8, .p (.string ByteArray.empty))] [] trivial) ?_
  refine k_join (J := fun (x : ByteArray) => [(8, .p (.string x))]) (K := fun x => spec_knWord_k1 x = some r) (fun x3 h => ?_) ?_
  ·unfold spec_knWord_k1 at h
   refine k_sreg (r_gq [(4, .p (.string x3)), (5, .p (.bool true))] [] trivial) ?_
   refine k_ret ?_
   obtain rfl := oi h
   exact er [(.p (.string x3), 4), (.p (.bool true), 5)]
  ·refine k_sreg (r_gq [(0, .d false [.sl none (a0.map ePt)]), (8, .p (.string ByteArray.empty)), (20, .d false [.sl none (v1.1.map eRt)]), (21, .p (iV (v1.1.length : Int))), (22, .p (iV 0))] [(1, {n := some v1.1.length})] (A1 (show (v1.1.map eRt).length = v1.1.length from (List.length_map ..)))) ?_
   refine k_block ?_
   obtain ⟨y5, hl_x4, hk_x4⟩ := bs h
   clear h
   refine k_loop (J := fun (x : (ByteArray × Int)) => [(0, .d false [.sl none (a0.map ePt)]), (8, .p (.string x.1)), (20, .d false [.sl none (v1.1.map eRt)]), (21, .p (iV (v1.1.length : Int))), (22, .p (iV x.2))]) hl_x4 (wk_of (by kernel_rfl) (by kernel_rfl)) (fun x4 o_x4 h hy_x4 => ?_)
   unfold spec_knWord_b1 at h
   refine k_sreg (r_gq [(0, .d false [.sl none (a0.map ePt)]), (8, .p (.string x4.1)), (20, .d false [.sl none (v1.1.map eRt)]), (21, .p (iV (v1.1.length : Int))), (22, .p (iV x4.2)), (23, .p (.bool (decide (x4.2 < (v1.1.length : Int)))))] [] trivial) ?_
   refine k_seq ?_
   refine kc (decide (x4.2 < (v1.1.length : Int))) (fun hc5_5 => ?_) (fun hc5_5 => ?_)
   ·replace h := ite_t hc5_5 h
    refine k_skip ?_
    refine q_n ?_
    refine k_seq ?_
    refine k_block ?_
    replace h := bs h
    obtain ⟨v7, hv7, h⟩ := h
    refine k_sreg (r_gq [(0, .d false [.sl none (a0.map ePt)]), (8, .p (.string x4.1)), (10, .box (eRt v7)), (20, .d false [.sl none (v1.1.map eRt)]), (21, .p (iV (v1.1.length : Int))), (22, .p (iV x4.2))] [(0, {row := some (eRt v7)})] (A2 (idxO_some hv7).1 (map_get eRt (idxO_some hv7).2))) ?_
    replace h := bs h
    obtain ⟨v8, hv8, h⟩ := h
    replace h := bs h
    obtain ⟨v9, hv9, h⟩ := h
    refine k_sreg (r_dq Tryz_mixed 3 [] [(0, .d false [.sl none (a0.map ePt)]), (8, .p (.string x4.1)), (11, .p (iV (w64 (1 + v9)))), (20, .d false [.sl none (v1.1.map eRt)]), (21, .p (iV (v1.1.length : Int))), (22, .p (iV x4.2))] [(2, {call := some (none, [.p (vRt v8)], true)}), (3, {call := some (none, [.p (iV v9)], true)})] (A2 (wk_spec_knCentre hv8) (wk_spec_raCmp hv9))) ?_
    replace h := bs h
    obtain ⟨u10, hu10, h⟩ := h
    replace h := bs h
    obtain ⟨u11, hu11, h⟩ := h
    refine k_reg (r_gq [(0, .d false [.sl none (a0.map ePt)]), (8, .p (.string (x4.1 ++ (strCut (ByteArray.mk #[76, 67, 82]) (w64 (1 + v9)) (w64 ((w64 (1 + v9)) + 1)))))), (20, .d false [.sl none (v1.1.map eRt)]), (21, .p (iV (v1.1.length : Int))), (22, .p (iV x4.2))] [(4, {pv := some (.string (strCut (ByteArray.mk #[76, 67, 82]) (w64 (1 + v9)) (w64 ((w64 (1 + v9)) + 1))))})] (A2 (show PureAt Tryz.prog (.slice 9 (.const (.string (ByteArray.mk #[76, 67, 82]))) (some (.tmp 32)) (some (.tmp 34)) none) [.string (ByteArray.mk #[76, 67, 82]), .int .i64 (w64 (1 + v9)), .int .i64 (w64 ((w64 (1 + v9)) + 1))] (.string (strCut (ByteArray.mk #[76, 67, 82]) (w64 (1 + v9)) (w64 ((w64 (1 + v9)) + 1)))) from (pure_scut (by kernel_rfl) (guardO_some hu10))) (guardO_some hu11))) ?_
    refine b_n ?_
    refine q_n ?_
    refine k_reg (r_gq [(0, .d false [.sl none (a0.map ePt)]), (8, .p (.string (x4.1 ++ (strCut (ByteArray.mk #[76, 67, 82]) (w64 (1 + v9)) (w64 ((w64 (1 + v9)) + 1)))))), (20, .d false [.sl none (v1.1.map eRt)]), (21, .p (iV (v1.1.length : Int))), (22, .p (iV (w64 (x4.2 + 1))))] [] trivial) ?_
    exact lqn ((x4.1 ++ (strCut (ByteArray.mk #[76, 67, 82]) (w64 (1 + v9)) (w64 ((w64 (1 + v9)) + 1)))), (w64 (x4.2 + 1))) h
   ·replace h := ite_f hc5_5 h
    refine k_exit ?_
    refine q_x ?_
    refine lq_x ?_
    refine b_x ?_
    have hyy := hy_x4 _ (oi h).symm
    subst hyy
    have h := hk_x4
    refine q_n ?_
    exact jx x4.1 h
theorem wk_spec_KneadingOf {a0 : (List Qp)} {a1 : Int}  {r : (ByteArray × Bool)} (h : spec_KneadingOf a0 a1 = some r) : Meets Tryz.prog 11 [.d false [.sl none (a0.map ePt)], wI a1] { vals := [.p (.string r.1), .p (.bool r.2)] } := by
 refine mo Tryz.func11 [(0, .d false [.sl none (a0.map ePt)]), (1, .p (iV a1))] ?_
 unfold spec_KneadingOf at h
 refine k_sreg (r_gq [(0, .d false [.sl none (a0.map ePt)]), (1, .p (iV a1))] [] trivial) ?_
 refine k_seq ?_
 replace h := bs h
 obtain ⟨v1, hv1, h⟩ := h
 replace h := bs h
 obtain ⟨w3, hw3, h⟩ := h
 refine k_sreg (l1 := [(0, .d false [.sl none (a0.map ePt)]), (1, .p (iV a1)), (13, .p (.bool w3))]) ?_ ?_
 ·clear h
  rcases ft (!v1) with ha0 | ha0
  ·replace hw3 := ite_t ha0 hw3
   have hw3 := oi hw3
   subst hw3
   exact (r_gq [(0, .d false [.sl none (a0.map ePt)]), (1, .p (iV a1)), (13, .p (.bool true))] [(1, {call := some (none, [.p (.bool v1)], true)}), (4, gT), (5, gT), (6, gT), (7, bT)] (A5 (wk_spec_knLaps hv1) ha0 ha0 ha0 ha0))
  ·replace hw3 := ite_f ha0 hw3
   replace hw3 := bs hw3
   obtain ⟨v2, hv2, hw3⟩ := hw3
   have hw3 := oi hw3
   subst hw3
   exact (r_gq [(0, .d false [.sl none (a0.map ePt)]), (1, .p (iV a1)), (13, .p (.bool (!v2)))] [(1, {call := some (none, [.p (.bool v1)], true)}), (4, gF), (5, {g := some false, call := some (none, [.p (.bool v2)], true)}), (6, gF), (7, bF)] (A6 (wk_spec_knLaps hv1) ha0 ha0 (wk_spec_knLength hv2) ha0 ha0))
 ·refine kc w3 (fun hc2_3 => ?_) (fun hc2_3 => ?_)
  ·replace h := ite_t hc2_3 h
   refine k_sreg (r_gq [(4, .p (.string ByteArray.empty)), (5, .p (.bool false))] [] trivial) ?_
   refine k_ret ?_
   refine q_r ?_
   obtain rfl := oi h
   exact er [(.p (.string ByteArray.empty), 4), (.p (.bool false), 5)]
  ·replace h := ite_f hc2_3 h
   refine k_skip ?_
   refine q_n ?_
   replace h := bs h
   obtain ⟨v5, hv5, h⟩ := h
   refine k_sreg (r_gq [(4, .p (.string v5.1)), (5, .p (.bool v5.2))] [(2, {call := some (none, [.p (.string v5.1), .p (.bool v5.2)], true)})] (A1 (wk_spec_knWord hv5))) ?_
   refine k_ret ?_
   obtain rfl := oi h
   exact er [(.p (.string v5.1), 4), (.p (.bool v5.2), 5)]
theorem wk_slices_Clone_Limpl_Rat_impl_Rat {a0 : (List Qr)} {r : (List Qr)} (h : slices_Clone_Limpl_Rat_impl_Rat a0 = some r) : Meets Tryz.prog 44 [.d false [.sl none (a0.map eRt)]] { vals := [.ov false [.sl (some 23) (r.map eRt)]] } := by
 refine Meets_ofL (by kernel_rfl) Tryz.func44 rfl (by kernel_rfl) (l0 := [(0, .d false [.sl none (a0.map eRt)])]) (by kernel_rfl) ?_
 unfold slices_Clone_Limpl_Rat_impl_Rat at h
 refine k_sreg (r_go [(0, .d false [.sl none (a0.map eRt)])] [] [] (by kernel_rfl) trivial) ?_
 refine k_seq ?_
 refine k_nil (e := 23) (z := 0) (d := 4) (rows := (a0.map eRt)) (fun b => [(0, .d false [.sl none (a0.map eRt)]), (4, .p (.bool b))]) rfl rfl rfl rfl rfl rfl (by kernel_rfl) rfl (fun v => by cases v <;> kernel_rfl) (fun v => by cases v <;> kernel_rfl) ?_ (fun hnil => ?_)
 ·refine k_cond (b := false) (by kernel_rfl) (fun hno => by cases hno) (fun _ => ?_)
  refine k_skip ?_
  refine q_n ?_
  replace h := bind_some' h
  obtain ⟨u2, hu2, h⟩ := h
  refine k_sreg (r_go [(2, .ov false [.sl (some 23) (a0.map eRt)])] [] [List.length ([] : List (List C)) + List.length ((a0.map eRt) : List (List C)) ≤ 1099511627776, ∀ row ∈ ((a0.map eRt) : List (List C)), row.length = 2] (by kernel_rfl) ⟨(by have hg := (guardO_some hu2); simpa using hg), (rows_len fun _ => rfl), trivial⟩) ?_
  refine k_ret ?_
  obtain rfl := Option.some.inj h
  exact e_ret (ls := [(.ov false [.sl (some 23) (a0.map eRt)], 2)]) (by kernel_rfl) rfl (by kernel_rfl) rfl
 ·obtain rfl := List.map_eq_nil_iff.1 hnil
  refine k_cond (b := true) (by kernel_rfl) (fun _ => ?_) (fun hno => by cases hno)
  refine k_sreg (r_go [(2, .ov false [.sl (some 23) []])] [] [] (by kernel_rfl) trivial) ?_
  refine k_ret ?_
  refine q_r ?_
  obtain rfl : r = [] := by simp [guardO] at h; first | exact h | exact h.symm
  exact e_ret (ls := [(.ov false [.sl (some 23) []], 2)]) (by kernel_rfl) rfl (by kernel_rfl) rfl
theorem wk_impl_TurningValues {a0 : (List Qp)} {a1 : Int}  {r : ((List Qr) × Bool)} (h : impl_TurningValues a0 a1 = some r) : Meets Tryz.prog 12 [.d false [.sl none (a0.map ePt)], wI a1] { vals := [.ov false [.sl (some 23) (r.1.map eRt)], .p (.bool r.2)] } := by
 refine mo Tryz.func12 [(0, .d false [.sl none (a0.map ePt)]), (1, .p (iV a1))] ?_
 unfold impl_TurningValues at h
 refine k_sreg (r_gq [(0, .d false [.sl none (a0.map ePt)]), (1, .p (iV a1))] [] trivial) ?_
 replace h := bs h
 obtain ⟨v1, hv1, h⟩ := h
 refine k_sreg (r_gq [(6, .d false [.sl none (v1.1.map eRt)]), (8, .p (.bool v1.2.2))] [(2, {call := some (none, [.d false [.sl none (v1.1.map eRt)], .p (vRt v1.2.1), .p (.bool v1.2.2)], false)})] (A1 (wk_impl_kneading hv1))) ?_
 replace h := bs h
 obtain ⟨v2, hv2, h⟩ := h
 refine k_sreg (r_gq [(4, .ov false [.sl (some 23) (v2.map eRt)]), (5, .p (.bool v1.2.2))] [(1, {call := some (none, [.ov false [.sl (some 23) (v2.map eRt)]], true)})] (A2 (wk_slices_Clone_Limpl_Rat_impl_Rat hv2) (show List.all [.ov false [.sl (some 23) (v2.map eRt)]] simpleR = true from (sa_o (wnR1 (wnL_enc (wn_P wn_I wn_I)) rfl) rfl)))) ?_
 refine k_ret ?_
 obtain rfl := oi h
 exact er [(.ov false [.sl (some 23) (v2.map eRt)], 4), (.p (.bool v1.2.2), 5)]
theorem wk_spec_TurningValues {a0 : (List Qp)} {a1 : Int}  {r : ((List Qr) × Bool)} (h : spec_TurningValues a0 a1 = some r) : Meets Tryz.prog 13 [.d false [.sl none (a0.map ePt)], wI a1] { vals := [.d false [.sl none (r.1.map eRt)], .p (.bool r.2)] } := by
 refine mo Tryz.func13 [(0, .d false [.sl none (a0.map ePt)]), (1, .p (iV a1))] ?_
 unfold spec_TurningValues at h
 refine k_sreg (r_gq [(0, .d false [.sl none (a0.map ePt)]), (1, .p (iV a1))] [(1, {pre := some (4, .d false [.sl none []])})] (A1 (show (SV.d false (eraR [.sl (some 23) []]) : SV) = .d false [.sl none []] from (congrArg (fun z => SV.d false z) (erc_sl rfl rfl))))) ?_
 refine k_seq ?_
 replace h := bs h
 obtain ⟨v1, hv1, h⟩ := h
 replace h := bs h
 obtain ⟨w3, hw3, h⟩ := h
 refine k_sreg (l1 := [(0, .d false [.sl none (a0.map ePt)]), (1, .p (iV a1)), (13, .p (.bool w3))]) ?_ ?_
 ·clear h
  rcases ft (!v1) with ha0 | ha0
  ·replace hw3 := ite_t ha0 hw3
   have hw3 := oi hw3
   subst hw3
   exact (r_gq [(0, .d false [.sl none (a0.map ePt)]), (1, .p (iV a1)), (13, .p (.bool true))] [(1, {call := some (none, [.p (.bool v1)], true)}), (4, gT), (5, gT), (6, gT), (7, bT)] (A5 (wk_spec_knLaps hv1) ha0 ha0 ha0 ha0))
  ·replace hw3 := ite_f ha0 hw3
   replace hw3 := bs hw3
   obtain ⟨v2, hv2, hw3⟩ := hw3
   have hw3 := oi hw3
   subst hw3
   exact (r_gq [(0, .d false [.sl none (a0.map ePt)]), (1, .p (iV a1)), (13, .p (.bool (!v2)))] [(1, {call := some (none, [.p (.bool v1)], true)}), (4, gF), (5, {g := some false, call := some (none, [.p (.bool v2)], true)}), (6, gF), (7, bF)] (A6 (wk_spec_knLaps hv1) ha0 ha0 (wk_spec_knLength hv2) ha0 ha0))
 ·refine kc w3 (fun hc2_3 => ?_) (fun hc2_3 => ?_)
  ·replace h := ite_t hc2_3 h
   refine k_sreg (r_gq [(4, .d false [.sl none []]), (5, .p (.bool false))] [(1, {pre := some (4, .d false [.sl none []])})] (A1 (show (SV.d false (eraR [.sl (some 23) []]) : SV) = .d false [.sl none []] from (congrArg (fun z => SV.d false z) (erc_sl rfl rfl))))) ?_
   refine k_ret ?_
   refine q_r ?_
   obtain rfl := oi h
   exact er [(.d false [.sl none []], 4), (.p (.bool false), 5)]
  ·replace h := ite_f hc2_3 h
   refine k_skip ?_
   refine q_n ?_
   replace h := bs h
   obtain ⟨v5, hv5, h⟩ := h
   refine k_sreg (r_gq [(4, .d false [.sl none (v5.1.map eRt)]), (5, .p (.bool v5.2))] [(2, {call := some (none, [.d false [.sl none (v5.1.map eRt)], .p (.bool v5.2)], false)})] (A1 (wk_spec_knValues hv5))) ?_
   refine k_ret ?_
   obtain rfl := oi h
   exact er [(.d false [.sl none (v5.1.map eRt)], 4), (.p (.bool v5.2), 5)]
theorem wk_laws_pSameRats {a0 : (List Qr)} {a1 : (List Qr)}  {r : Bool} (h : laws_pSameRats a0 a1 = some r) : Meets Tryz.prog 14 [.d false [.sl none (a0.map eRt)], .d false [.sl none (a1.map eRt)]] { vals := [.p (.bool r)] } := by
 refine mo Tryz.func14 [(0, .d false [.sl none (a0.map eRt)]), (1, .d false [.sl none (a1.map eRt)])] ?_
 unfold laws_pSameRats at h
 refine k_sreg (r_gq [(0, .d false [.sl none (a0.map eRt)]), (1, .d false [.sl none (a1.map eRt)])] [] trivial) ?_
 refine k_seq ?_
 refine k_sreg (r_gq [(0, .d false [.sl none (a0.map eRt)]), (1, .d false [.sl none (a1.map eRt)]), (10, .p (.bool ((a0.length : Int) != (a1.length : Int))))] [(1, {n := some a0.length}), (3, {n := some a1.length})] (A2 (show (a0.map eRt).length = a0.length from (List.length_map ..)) (show (a1.map eRt).length = a1.length from (List.length_map ..)))) ?_
 refine kc ((a0.length : Int) != (a1.length : Int)) (fun hc2_0 => ?_) (fun hc2_0 => ?_)
 ·replace h := ite_t hc2_0 h
  refine k_sreg (r_gq [(4, .p (.bool false))] [] trivial) ?_
  refine k_ret ?_
  refine q_r ?_
  obtain rfl := oi h
  exact er [(.p (.bool false), 4)]
 ·replace h := ite_f hc2_0 h
  refine k_skip ?_
  refine q_n ?_
  refine k_join (J := fun (x : Unit) => []) (K := fun x => laws_pSameRats_k1 x = some r) (fun x2 h => ?_) ?_
  ·unfold laws_pSameRats_k1 at h
   refine k_sreg (r_gq [(4, .p (.bool true))] [] trivial) ?_
   refine k_ret ?_
   obtain rfl := oi h
   exact er [(.p (.bool true), 4)]
  ·refine k_sreg (r_gq [(0, .d false [.sl none (a0.map eRt)]), (1, .d false [.sl none (a1.map eRt)]), (12, .p (iV (a0.length : Int))), (13, .p (iV 0))] [(1, {n := some a0.length})] (A1 (show (a0.map eRt).length = a0.length from (List.length_map ..)))) ?_
   refine k_block ?_
   obtain ⟨y4, hl_x3, hk_x3⟩ := bs h
   clear h
   refine k_loop (J := fun (x : Int) => [(0, .d false [.sl none (a0.map eRt)]), (1, .d false [.sl none (a1.map eRt)]), (12, .p (iV (a0.length : Int))), (13, .p (iV x))]) hl_x3 (wk_of (by kernel_rfl) (by kernel_rfl)) (fun x3 o_x3 h hy_x3 => ?_)
   unfold laws_pSameRats_b1 at h
   refine k_sreg (r_gq [(0, .d false [.sl none (a0.map eRt)]), (1, .d false [.sl none (a1.map eRt)]), (12, .p (iV (a0.length : Int))), (13, .p (iV x3)), (14, .p (.bool (decide (x3 < (a0.length : Int)))))] [] trivial) ?_
   refine k_seq ?_
   refine kc (decide (x3 < (a0.length : Int))) (fun hc5_4 => ?_) (fun hc5_4 => ?_)
   ·replace h := ite_t hc5_4 h
    refine k_skip ?_
    refine q_n ?_
    refine k_seq ?_
    refine k_block ?_
    refine k_sreg (r_gq [(0, .d false [.sl none (a0.map eRt)]), (1, .d false [.sl none (a1.map eRt)]), (5, .p (iV x3)), (12, .p (iV (a0.length : Int))), (13, .p (iV x3))] [] trivial) ?_
    replace h := bs h
    obtain ⟨v6, hv6, h⟩ := h
    replace h := bs h
    obtain ⟨v7, hv7, h⟩ := h
    refine k_sreg (r_dq Tryz_mixed 8 [] [(0, .d false [.sl none (a0.map eRt)]), (1, .d false [.sl none (a1.map eRt)]), (12, .p (iV (a0.length : Int))), (13, .p (iV x3)), (24, .p (.bool (!((v6.1 == v7.1) && (v6.2 == v7.2)))))] [(2, {row := some (eRt v6)}), (6, {row := some (eRt v7)}), (8, {pv := some (.bool (!((v6.1 == v7.1) && (v6.2 == v7.2))))})] (A5 (idxO_some hv6).1 (map_get eRt (idxO_some hv6).2) (idxO_some hv7).1 (map_get eRt (idxO_some hv7).2) (show PureAt Tryz.prog (.binOp .neq 23 (.tmp 19) (.tmp 23) 23) [vRt v6, vRt v7] (.bool (!((v6.1 == v7.1) && (v6.2 == v7.2)))) from (pure_neq2 (by kernel_rfl))))) ?_
    refine kc (!((v6.1 == v7.1) && (v6.2 == v7.2))) (fun hc6_7 => ?_) (fun hc6_7 => ?_)
    ·replace h := ite_t hc6_7 h
     refine k_sreg (r_gq [(4, .p (.bool false))] [] trivial) ?_
     refine k_ret ?_
     refine b_r ?_
     refine q_r ?_
     refine lq_r ?_
     refine b_r ?_
     refine q_r ?_
     have hyy := hy_x3 _ (oi h).symm
     subst hyy
     have h := hk_x3
     dsimp only [Sum.elim] at h
     obtain rfl := oi h
     exact er [(.p (.bool false), 4)]
    ·replace h := ite_f hc6_7 h
     refine k_skip ?_
     refine b_n ?_
     refine q_n ?_
     refine k_reg (r_gq [(0, .d false [.sl none (a0.map eRt)]), (1, .d false [.sl none (a1.map eRt)]), (12, .p (iV (a0.length : Int))), (13, .p (iV (w64 (x3 + 1))))] [] trivial) ?_
     exact lqn (w64 (x3 + 1)) h
   ·replace h := ite_f hc5_4 h
    refine k_exit ?_
    refine q_x ?_
    refine lq_x ?_
    refine b_x ?_
    have hyy := hy_x3 _ (oi h).symm
    subst hyy
    have h := hk_x3
    dsimp only [Sum.elim] at h
    refine q_n ?_
    exact jx () h
theorem wk_impl_TurningPoints {a0 : (List Qp)}  {r : ((List Qr) × Bool)} (h : impl_TurningPoints a0 = some r) : Meets Tryz.prog 15 [.d false [.sl none (a0.map ePt)]] { vals := [.ov false [.sl (some 23) (r.1.map eRt)], .p (.bool r.2)] } := by
 refine mo Tryz.func15 [(0, .d false [.sl none (a0.map ePt)])] ?_
 unfold impl_TurningPoints at h
 refine k_sreg (r_gq [(0, .d false [.sl none (a0.map ePt)])] [] trivial) ?_
 refine k_seq ?_
 replace h := bs h
 obtain ⟨v1, hv1, h⟩ := h
 refine k_sreg (r_gq [(0, .d false [.sl none (a0.map ePt)]), (6, .p (.bool (!v1)))] [(1, {call := some (none, [.p (.bool v1)], true)})] (A1 (wk_impl_isMap hv1))) ?_
 refine kc (!v1) (fun hc2_1 => ?_) (fun hc2_1 => ?_)
 ·replace h := ite_t hc2_1 h
  refine k_sreg (r_gq [(2, .ov false [.sl (some 23) []]), (3, .p (.bool false))] [] trivial) ?_
  refine k_ret ?_
  refine q_r ?_
  obtain rfl := oi h
  exact er [(.ov false [.sl (some 23) []], 2), (.p (.bool false), 3)]
 ·replace h := ite_f hc2_1 h
  refine k_skip ?_
  refine q_n ?_
  replace h := bs h
  obtain ⟨v3, hv3, h⟩ := h
  refine k_sreg (r_gq [(2, .ov false [.sl (some 23) (v3.map eRt)]), (3, .p (.bool true))] [(1, {call := some (none, [.ov false [.sl (some 23) (v3.map eRt)]], true)})] (A2 (wk_impl_turns hv3) (show List.all [.ov false [.sl (some 23) (v3.map eRt)]] simpleR = true from (sa_o (wnR1 (wnL_enc (wn_P wn_I wn_I)) rfl) rfl)))) ?_
  refine k_ret ?_
  obtain rfl := oi h
  exact er [(.ov false [.sl (some 23) (v3.map eRt)], 2), (.p (.bool true), 3)]
theorem wk_spec_TurningPoints {a0 : (List Qp)}  {r : ((List Qr) × Bool)} (h : spec_TurningPoints a0 = some r) : Meets Tryz.prog 16 [.d false [.sl none (a0.map ePt)]] { vals := [.ov false [.sl (some 23) (r.1.map eRt)], .p (.bool r.2)] } := by
 refine mo Tryz.func16 [(0, .d false [.sl none (a0.map ePt)])] ?_
 unfold spec_TurningPoints at h
 refine k_sreg (r_gq [(0, .d false [.sl none (a0.map ePt)])] [] trivial) ?_
 refine k_seq ?_
 replace h := bs h
 obtain ⟨v1, hv1, h⟩ := h
 refine k_sreg (r_gq [(0, .d false [.sl none (a0.map ePt)]), (9, .p (.bool (!v1)))] [(1, {call := some (none, [.p (.bool v1)], true)})] (A1 (wk_spec_imGood hv1))) ?_
 refine kc (!v1) (fun hc2_1 => ?_) (fun hc2_1 => ?_)
 ·replace h := ite_t hc2_1 h
  refine k_sreg (r_gq [(2, .ov false [.sl (some 23) []]), (3, .p (.bool false))] [] trivial) ?_
  refine k_ret ?_
  refine q_r ?_
  obtain rfl := oi h
  exact er [(.ov false [.sl (some 23) []], 2), (.p (.bool false), 3)]
 ·replace h := ite_f hc2_1 h
  refine k_skip ?_
  refine q_n ?_
  refine k_sreg (r_gq [(0, .d false [.sl none (a0.map ePt)]), (4, .ov false [.sl (some 23) []])] [] trivial) ?_
  refine k_join (J := fun (x : (List Qr)) => [(4, .ov false [.sl (some 23) (x.map eRt)])]) (K := fun x => spec_TurningPoints_k1 x = some r) (fun x3 h => ?_) ?_
  ·unfold spec_TurningPoints_k1 at h
   refine k_sreg (r_gq [(2, .ov false [.sl (some 23) (x3.map eRt)]), (3, .p (.bool true))] [] trivial) ?_
   refine k_ret ?_
   obtain rfl := oi h
   exact er [(.ov false [.sl (some 23) (x3.map eRt)], 2), (.p (.bool true), 3)]
  ·replace h := bs h
   obtain ⟨v4, hv4, h⟩ := h
   replace h := bs h
   obtain ⟨u5, hu5, h⟩ := h
   refine k_sreg (r_gq [(0, .d false [.sl none (a0.map ePt)]), (4, .ov false [.sl (some 23) []]), (12, .d false [.sl none ((v4.drop (Int.toNat 1)).map (eF eI))]), (13, .p (iV ((v4.drop (Int.toNat 1)).length : Int))), (14, .p (iV 0))] [(1, {call := some (none, [.ov false [.sl (some 60) (v4.map (eO 3 eI))]], true)}), (2, {pre := some (11, .d false [.sl none (v4.map (eF eI))]), fix := some (12, .d false [.sl none ((v4.drop (Int.toNat 1)).map (eF eI))])}), (3, {n := some (v4.drop (Int.toNat 1)).length})] (B6 (wk_spec_imLaps hv4) (show List.all [.ov false [.sl (some 60) (v4.map (eO 3 eI))]] simpleR = true from (sa_o (wnR1 (wnL_enc (wn_O wn_I)) rfl) rfl)) (show (SV.d false (eraR [.sl (some 60) (v4.map (eO 3 eI))]) : SV) = .d false [.sl none (v4.map (eF eI))] from (congrArg (fun z => SV.d false z) (erc_sl (eraL_enc (era_O er_I)) rfl))) (show (Int.toNat 1) ≤ (v4.map (eF eI)).length from (by have hg := (guardO_some hu5); first | (simp only [List.length_map]; omega) | omega)) (show (v4.map (eF eI)).length ≤ (v4.map (eF eI)).length from (Nat.le_refl _)) (show ∀ row ∈ (v4.map (eF eI)), row.length = 1 from (rows_len fun _ => rfl)) (A3 (show (0 : Int) ≤ 1 from (by have hg := (guardO_some hu5); omega)) (show (SV.d false [.sl none (((v4.map (eF eI)).take (v4.map (eF eI)).length).drop (Int.toNat 1))] : SV) = .d false [.sl none ((v4.drop (Int.toNat 1)).map (eF eI))] from (congrArg (fun z => SV.d false [.sl none z]) sl_lo)) (show ((v4.drop (Int.toNat 1)).map (eF eI)).length = (v4.drop (Int.toNat 1)).length from (List.length_map ..))))) ?_
   refine k_block ?_
   obtain ⟨y7, hl_x6, hk_x6⟩ := bs h
   clear h
   refine k_loop (J := fun (x : ((List Qr) × Int)) => [(0, .d false [.sl none (a0.map ePt)]), (4, .ov false [.sl (some 23) (x.1.map eRt)]), (12, .d false [.sl none ((v4.drop (Int.toNat 1)).map (eF eI))]), (13, .p (iV ((v4.drop (Int.toNat 1)).length : Int))), (14, .p (iV x.2))]) hl_x6 (wk_of (by kernel_rfl) (by kernel_rfl)) (fun x6 o_x6 h hy_x6 => ?_)
   unfold spec_TurningPoints_b1 at h
   refine k_sreg (r_gq [(0, .d false [.sl none (a0.map ePt)]), (4, .ov false [.sl (some 23) (x6.1.map eRt)]), (12, .d false [.sl none ((v4.drop (Int.toNat 1)).map (eF eI))]), (13, .p (iV ((v4.drop (Int.toNat 1)).length : Int))), (14, .p (iV x6.2)), (15, .p (.bool (decide (x6.2 < ((v4.drop (Int.toNat 1)).length : Int)))))] [] trivial) ?_
   refine k_seq ?_
   refine kc (decide (x6.2 < ((v4.drop (Int.toNat 1)).length : Int))) (fun hc5_7 => ?_) (fun hc5_7 => ?_)
   ·replace h := ite_t hc5_7 h
    refine k_skip ?_
    refine q_n ?_
    refine k_seq ?_
    refine k_block ?_
    replace h := bs h
    obtain ⟨v9, hv9, h⟩ := h
    refine k_sreg (r_gq [(0, .d false [.sl none (a0.map ePt)]), (4, .ov false [.sl (some 23) (x6.1.map eRt)]), (6, .d false [.sl none (v9.map eI)]), (12, .d false [.sl none ((v4.drop (Int.toNat 1)).map (eF eI))]), (13, .p (iV ((v4.drop (Int.toNat 1)).length : Int))), (14, .p (iV x6.2))] [(0, {row := some [.sl none (v9.map eI)]})] (A2 (idxO_some hv9).1 (map_get (eF eI) (idxO_some hv9).2))) ?_
    replace h := bs h
    obtain ⟨v10, hv10, h⟩ := h
    replace h := bs h
    obtain ⟨v11, hv11, h⟩ := h
    replace h := bs h
    obtain ⟨u12, hu12, h⟩ := h
    refine k_reg (r_gq [(0, .d false [.sl none (a0.map ePt)]), (4, .ov false [.sl (some 23) ((x6.1 ++ [v11.1]).map eRt)]), (12, .d false [.sl none ((v4.drop (Int.toNat 1)).map (eF eI))]), (13, .p (iV ((v4.drop (Int.toNat 1)).length : Int))), (14, .p (iV x6.2))] [(3, {row := some (eI v10)}), (5, {row := some (ePt v11)}), (9, {fix := some (27, .ov false [.sl (some 23) ((x6.1 ++ [v11.1]).map eRt)])})] (B6 (idxO_some hv10).1 (map_get eI (idxO_some hv10).2) (idxO_some hv11).1 (map_get ePt (idxO_some hv11).2) (show List.length ((x6.1.map eRt) : List (List C)) + List.length ((([v11.1]).map eRt) : List (List C)) ≤ 1099511627776 from (by have hg := (guardO_some hu12); simpa using hg)) (show ∀ row ∈ ((([v11.1]).map eRt) : List (List C)), row.length = 2 from (rows_len fun _ => rfl)) (A1 (show (SV.ov false [.sl (some 23) ((x6.1.map eRt) ++ (([v11.1]).map eRt))] : SV) = .ov false [.sl (some 23) ((x6.1 ++ [v11.1]).map eRt)] from (congrArg (fun z => SV.ov false [.sl (some 23) z]) (List.map_append ..).symm))))) ?_
    refine b_n ?_
    refine q_n ?_
    refine k_reg (r_gq [(0, .d false [.sl none (a0.map ePt)]), (4, .ov false [.sl (some 23) ((x6.1 ++ [v11.1]).map eRt)]), (12, .d false [.sl none ((v4.drop (Int.toNat 1)).map (eF eI))]), (13, .p (iV ((v4.drop (Int.toNat 1)).length : Int))), (14, .p (iV (w64 (x6.2 + 1))))] [] trivial) ?_
    exact lqn ((x6.1 ++ [v11.1]), (w64 (x6.2 + 1))) h
   ·replace h := ite_f hc5_7 h
    refine k_exit ?_
    refine q_x ?_
    refine lq_x ?_
    refine b_x ?_
    have hyy := hy_x6 _ (oi h).symm
    subst hyy
    have h := hk_x6
    refine q_n ?_
    exact jx x6.1 h
theorem wk_strings_Trim {a0 : ByteArray} {a1 : ByteArray} {r : ByteArray} (h : strings_Trim a0 a1 = some r) : Meets Tryz.prog 66 [.v (.string a0), .v (.string a1)] { vals := [.p (.string r)] } := by
 unfold strings_Trim at h
 obtain ⟨u1, hu1, h⟩ := bind_some' h
 have hg := guardO_some hu1
 obtain rfl := Option.some.inj h
 exact meets_below (args := [.string a0, .string a1]) (by kernel_rfl) fun w => Go.Proofs.Any.strings_Trim_laid Go.Proofs.Tryz.lays160 (by kernel_rfl) a0 a1 w (by omega) (by omega) (ascii_of hg.2.2)
theorem wk_impl_isKneadingWord {a0 : ByteArray}  {r : Bool} (h : impl_isKneadingWord a0 = some r) : Meets Tryz.prog 32 [.v (.string a0)] { vals := [.p (.bool r)] } := by
 refine mo Tryz.func32 [(0, .p (.string a0))] ?_
 unfold impl_isKneadingWord at h
 refine k_sreg (r_gq [(0, .p (.string a0))] [] trivial) ?_
 replace h := bs h
 obtain ⟨v1, hv1, h⟩ := h
 replace h := bs h
 obtain ⟨w3, hw3, h⟩ := h
 refine k_sreg (l1 := [(2, .p (.bool w3))]) ?_ ?_
 ·clear h
  rcases ft v1 with ha0 | ha0
  ·replace hw3 := ite_t ha0 hw3
   replace hw3 := bs hw3
   obtain ⟨v2, hv2, hw3⟩ := hw3
   have hw3 := oi hw3
   subst hw3
   exact (r_gq [(2, .p (.bool (v2.toList == ByteArray.empty.toList)))] [(2, {call := some (none, [.p (.bool v1)], true)}), (4, gT), (5, {g := some true, call := some (none, [.p (.string v2)], true)}), (6, gT), (7, bT)] (A6 (wk_impl_within hv1) ha0 ha0 (wk_strings_Trim hv2) ha0 ha0))
  ·replace hw3 := ite_f ha0 hw3
   have hw3 := oi hw3
   subst hw3
   exact (r_gq [(2, .p (.bool false))] [(2, {call := some (none, [.p (.bool v1)], true)}), (4, gF), (5, gF), (6, gF), (7, bF)] (A5 (wk_impl_within hv1) ha0 ha0 ha0 ha0))
 ·refine k_ret ?_
  obtain rfl := oi h
  exact er [(.p (.bool w3), 2)]
theorem wk_strings_IndexByte {a0 : ByteArray} {a1 : Int} {r : Int} (h : strings_IndexByte a0 a1 = some r) : Meets Tryz.prog 71 [.v (.string a0), .v (.int .u8 a1)] { vals := [.p (iV r)] } := by
 unfold strings_IndexByte at h
 obtain rfl := Option.some.inj h
 exact meets_same (args := [.string a0, .int .u8 a1]) (by kernel_rfl) fun w => Go.Proofs.Any.strings_IndexByte Go.Proofs.Tryz.lays137 a0 a1 w
theorem wk_impl_compareKneading {a0 : ByteArray} {a1 : ByteArray}  {r : Int} (h : impl_compareKneading a0 a1 = some r) : Meets Tryz.prog 35 [.v (.string a0), .v (.string a1)] { vals := [.p (iV r)] } := by
 refine mo Tryz.func35 [(0, .p (.string a0)), (1, .p (.string a1))] ?_
 unfold impl_compareKneading at h
 refine k_sreg (r_gq [(0, .p (.string a0)), (1, .p (.string a1))] [] trivial) ?_
 refine k_sreg (r_gq [(0, .p (.string a0)), (1, .p (.string a1)), (5, .p (iV 1))] [] trivial) ?_
 refine k_join (J := fun (x : Unit) => []) (K := fun x => impl_compareKneading_k1 x = some r) (fun x1 h => ?_) ?_
 ·unfold impl_compareKneading_k1 at h
  refine k_sreg (r_gq [(4, .p (iV 0))] [] trivial) ?_
  refine k_ret ?_
  obtain rfl := oi h
  exact er [(.p (iV 0), 4)]
 ·refine k_sreg (r_gq [(0, .p (.string a0)), (1, .p (.string a1)), (5, .p (iV 1)), (10, .p (iV (a0.size : Int))), (11, .p (iV 0))] [] trivial) ?_
  refine k_block ?_
  obtain ⟨y3, hl_x2, hk_x2⟩ := bs h
  clear h
  refine k_loop (J := fun (x : Qr) => [(0, .p (.string a0)), (1, .p (.string a1)), (5, .p (iV x.1)), (10, .p (iV (a0.size : Int))), (11, .p (iV x.2))]) hl_x2 (wk_of (by kernel_rfl) (by kernel_rfl)) (fun x2 o_x2 h hy_x2 => ?_)
  unfold impl_compareKneading_b1 at h
  refine k_sreg (r_gq [(0, .p (.string a0)), (1, .p (.string a1)), (5, .p (iV x2.1)), (10, .p (iV (a0.size : Int))), (11, .p (iV x2.2)), (12, .p (.bool (decide (x2.2 < (a0.size : Int)))))] [] trivial) ?_
  refine k_seq ?_
  refine kc (decide (x2.2 < (a0.size : Int))) (fun hc5_3 => ?_) (fun hc5_3 => ?_)
  ·replace h := ite_t hc5_3 h
   refine k_skip ?_
   refine q_n ?_
   refine k_seq ?_
   refine k_block ?_
   refine k_sreg (r_gq [(0, .p (.string a0)), (1, .p (.string a1)), (5, .p (iV x2.1)), (6, .p (iV x2.2)), (10, .p (iV (a0.size : Int))), (11, .p (iV x2.2))] [] trivial) ?_
   refine k_seq ?_
   replace h := bs h
   obtain ⟨u5, hu5, h⟩ := h
   replace h := bs h
   obtain ⟨v6, hv6, h⟩ := h
   replace h := bs h
   obtain ⟨u7, hu7, h⟩ := h
   replace h := bs h
   obtain ⟨v8, hv8, h⟩ := h
   refine k_sreg (r_dq Tryz_mixed 7 [] [(0, .p (.string a0)), (1, .p (.string a1)), (5, .p (iV x2.1)), (6, .p (iV x2.2)), (7, .p (iV v6)), (8, .p (iV v8)), (10, .p (iV (a0.size : Int))), (11, .p (iV x2.2))] [(2, {pv := some (.int .u8 (strAt a0 x2.2))}), (3, {call := some (none, [.p (iV v6)], true)}), (6, {pv := some (.int .u8 (strAt a1 x2.2))}), (7, {call := some (none, [.p (iV v8)], true)})] (A4 (show PureAt Tryz.prog (.index 9 (.tmp 14) (.tmp 15)) [.string a0, .int .i64 x2.2] (.int .u8 (strAt a0 x2.2)) from (pure_sidx (by kernel_rfl) (guardO_some hu5))) (wk_strings_IndexByte hv6) (show PureAt Tryz.prog (.index 9 (.tmp 18) (.tmp 19)) [.string a1, .int .i64 x2.2] (.int .u8 (strAt a1 x2.2)) from (pure_sidx (by kernel_rfl) (guardO_some hu7))) (wk_strings_IndexByte hv8))) ?_
   refine k_sreg (r_gq [(0, .p (.string a0)), (1, .p (.string a1)), (5, .p (iV x2.1)), (6, .p (iV x2.2)), (7, .p (iV v6)), (8, .p (iV v8)), (10, .p (iV (a0.size : Int))), (11, .p (iV x2.2)), (24, .p (.bool (decide (v6 < v8))))] [] trivial) ?_
   refine kc (decide (v6 < v8)) (fun hc7_8 => ?_) (fun hc7_8 => ?_)
   ·replace h := ite_t hc7_8 h
    refine k_sreg (r_gq [(4, .p (iV (w64 (0 - x2.1))))] [] trivial) ?_
    refine k_ret ?_
    refine q_r ?_
    refine b_r ?_
    refine q_r ?_
    refine lq_r ?_
    refine b_r ?_
    refine q_r ?_
    have hyy := hy_x2 _ (oi h).symm
    subst hyy
    have h := hk_x2
    dsimp only [Sum.elim] at h
    obtain rfl := oi h
    exact er [(.p (iV (w64 (0 - x2.1))), 4)]
   ·replace h := ite_f hc7_8 h
    refine k_sreg (r_gq [(0, .p (.string a0)), (1, .p (.string a1)), (5, .p (iV x2.1)), (6, .p (iV x2.2)), (10, .p (iV (a0.size : Int))), (11, .p (iV x2.2)), (29, .p (.bool (decide (v6 > v8))))] [] trivial) ?_
    refine kc (decide (v6 > v8)) (fun hc7_9 => ?_) (fun hc7_9 => ?_)
    ·replace h := ite_t hc7_9 h
     refine k_sreg (r_gq [(4, .p (iV x2.1))] [] trivial) ?_
     refine k_ret ?_
     refine q_r ?_
     refine b_r ?_
     refine q_r ?_
     refine lq_r ?_
     refine b_r ?_
     refine q_r ?_
     have hyy := hy_x2 _ (oi h).symm
     subst hyy
     have h := hk_x2
     dsimp only [Sum.elim] at h
     obtain rfl := oi h
     exact er [(.p (iV x2.1), 4)]
    ·replace h := ite_f hc7_9 h
     refine k_skip ?_
     refine q_n ?_
     refine k_sreg (r_gq [(0, .p (.string a0)), (1, .p (.string a1)), (5, .p (iV x2.1)), (10, .p (iV (a0.size : Int))), (11, .p (iV x2.2)), (34, .p (.bool ((strAt a0 x2.2) == 82)))] [(2, {pv := some (.int .u8 (strAt a0 x2.2))})] (A1 (show PureAt Tryz.prog (.index 9 (.tmp 31) (.tmp 32)) [.string a0, .int .i64 x2.2] (.int .u8 (strAt a0 x2.2)) from (pure_sidx (by kernel_rfl) (guardO_some hu5))))) ?_
     refine kc ((strAt a0 x2.2) == 82) (fun hc6_10 => ?_) (fun hc6_10 => ?_)
     ·replace h := ite_t hc6_10 h
      refine k_reg (r_gq [(0, .p (.string a0)), (1, .p (.string a1)), (5, .p (iV (w64 (0 - x2.1)))), (10, .p (iV (a0.size : Int))), (11, .p (iV x2.2))] [] trivial) ?_
      refine b_n ?_
      refine q_n ?_
      refine k_reg (r_gq [(0, .p (.string a0)), (1, .p (.string a1)), (5, .p (iV (w64 (0 - x2.1)))), (10, .p (iV (a0.size : Int))), (11, .p (iV (w64 (x2.2 + 1))))] [] trivial) ?_
      exact lqn ((w64 (0 - x2.1)), (w64 (x2.2 + 1))) h
     ·replace h := ite_f hc6_10 h
      refine k_skip ?_
      refine b_n ?_
      refine q_n ?_
      refine k_reg (r_gq [(0, .p (.string a0)), (1, .p (.string a1)), (5, .p (iV x2.1)), (10, .p (iV (a0.size : Int))), (11, .p (iV (w64 (x2.2 + 1))))] [] trivial) ?_
      exact lqn (x2.1, (w64 (x2.2 + 1))) h
  ·replace h := ite_f hc5_3 h
   refine k_exit ?_
   refine q_x ?_
   refine lq_x ?_
   refine b_x ?_
   have hyy := hy_x2 _ (oi h).symm
   subst hyy
   have h := hk_x2
   dsimp only [Sum.elim] at h
   refine q_n ?_
   exact jx () h
theorem wk_impl_isMaximal {a0 : ByteArray}  {r : Bool} (h : impl_isMaximal a0 = some r) : Meets Tryz.prog 50 [.v (.string a0)] { vals := [.p (.bool r)] } := by
 refine mo Tryz.func50 [(0, .p (.string a0))] ?_
 unfold impl_isMaximal at h
 refine k_sreg (r_gq [(0, .p (.string a0))] [] trivial) ?_
 refine k_join (J := fun (x : Unit) => []) (K := fun x => impl_isMaximal_k1 x = some r) (fun x1 h => ?_) ?_
 ·unfold impl_isMaximal_k1 at h
  refine k_sreg (r_gq [(2, .p (.bool true))] [] trivial) ?_
  refine k_ret ?_
  obtain rfl := oi h
  exact er [(.p (.bool true), 2)]
 ·refine k_sreg (r_gq [(0, .p (.string a0)), (3, .p (iV 1))] [] trivial) ?_
  refine k_block ?_
  obtain ⟨y3, hl_x2, hk_x2⟩ := bs h
  clear h
  refine k_loop (J := fun (x : Int) => [(0, .p (.string a0)), (3, .p (iV x))]) hl_x2 (wk_of (by kernel_rfl) (by kernel_rfl)) (fun x2 o_x2 h hy_x2 => ?_)
  unfold impl_isMaximal_b1 at h
  refine k_seq ?_
  refine k_sreg (r_gq [(0, .p (.string a0)), (3, .p (iV x2)), (7, .p (.bool (decide (x2 < (a0.size : Int)))))] [] trivial) ?_
  refine kc (decide (x2 < (a0.size : Int))) (fun hc5_3 => ?_) (fun hc5_3 => ?_)
  ·replace h := ite_t hc5_3 h
   refine k_skip ?_
   refine q_n ?_
   refine k_seq ?_
   refine k_block ?_
   replace h := bs h
   obtain ⟨u5, hu5, h⟩ := h
   replace h := bs h
   obtain ⟨u6, hu6, h⟩ := h
   replace h := bs h
   obtain ⟨v7, hv7, h⟩ := h
   refine k_sreg (r_dq Tryz_mixed 9 [] [(0, .p (.string a0)), (3, .p (iV x2)), (20, .p (.bool (decide (v7 > 0))))] [(2, {pv := some (.string (strCut a0 x2 (a0.size : Int)))}), (8, {pv := some (.string (strCut a0 0 (w64 ((a0.size : Int) - x2))))}), (9, {call := some (none, [.p (iV v7)], true)})] (A3 (show PureAt Tryz.prog (.slice 9 (.tmp 10) (some (.tmp 11)) none none) [.string a0, .int .i64 x2] (.string (strCut a0 x2 (a0.size : Int))) from (pure_sfrom (by kernel_rfl) (guardO_some hu5))) (show PureAt Tryz.prog (.slice 9 (.tmp 13) none (some (.tmp 17)) none) [.string a0, .int .i64 (w64 ((a0.size : Int) - x2))] (.string (strCut a0 0 (w64 ((a0.size : Int) - x2)))) from (pure_sto (by kernel_rfl) (guardO_some hu6))) (wk_impl_compareKneading hv7))) ?_
   refine kc (decide (v7 > 0)) (fun hc6_7 => ?_) (fun hc6_7 => ?_)
   ·replace h := ite_t hc6_7 h
    refine k_sreg (r_gq [(2, .p (.bool false))] [] trivial) ?_
    refine k_ret ?_
    refine b_r ?_
    refine q_r ?_
    refine lq_r ?_
    refine b_r ?_
    refine q_r ?_
    have hyy := hy_x2 _ (oi h).symm
    subst hyy
    have h := hk_x2
    dsimp only [Sum.elim] at h
    obtain rfl := oi h
    exact er [(.p (.bool false), 2)]
   ·replace h := ite_f hc6_7 h
    refine k_skip ?_
    refine b_n ?_
    refine q_n ?_
    refine k_reg (r_gq [(0, .p (.string a0)), (3, .p (iV (w64 (x2 + 1))))] [] trivial) ?_
    exact lqn (w64 (x2 + 1)) h
  ·replace h := ite_f hc5_3 h
   refine k_exit ?_
   refine q_x ?_
   refine lq_x ?_
   refine b_x ?_
   have hyy := hy_x2 _ (oi h).symm
   subst hyy
   have h := hk_x2
   dsimp only [Sum.elim] at h
   refine q_n ?_
   exact jx () h
theorem wk_impl_IsMaximalWord {a0 : ByteArray}  {r : (Bool × Bool)} (h : impl_IsMaximalWord a0 = some r) : Meets Tryz.prog 17 [.v (.string a0)] { vals := [.p (.bool r.1), .p (.bool r.2)] } := by
 refine mo Tryz.func17 [(0, .p (.string a0))] ?_
 unfold impl_IsMaximalWord at h
 refine k_sreg (r_gq [(0, .p (.string a0))] [] trivial) ?_
 refine k_seq ?_
 replace h := bs h
 obtain ⟨v1, hv1, h⟩ := h
 refine k_sreg (r_gq [(0, .p (.string a0)), (6, .p (.bool (!v1)))] [(1, {call := some (none, [.p (.bool v1)], true)})] (A1 (wk_impl_isKneadingWord hv1))) ?_
 refine kc (!v1) (fun hc2_1 => ?_) (fun hc2_1 => ?_)
 ·replace h := ite_t hc2_1 h
  refine k_sreg (r_gq [(2, .p (.bool false)), (3, .p (.bool false))] [] trivial) ?_
  refine k_ret ?_
  refine q_r ?_
  obtain rfl := oi h
  exact er [(.p (.bool false), 2), (.p (.bool false), 3)]
 ·replace h := ite_f hc2_1 h
  refine k_skip ?_
  refine q_n ?_
  replace h := bs h
  obtain ⟨v3, hv3, h⟩ := h
  refine k_sreg (r_gq [(2, .p (.bool v3)), (3, .p (.bool true))] [(1, {call := some (none, [.p (.bool v3)], true)})] (A1 (wk_impl_isMaximal hv3))) ?_
  refine k_ret ?_
  obtain rfl := oi h
  exact er [(.p (.bool v3), 2), (.p (.bool true), 3)]
theorem wk_impl_IsUnimodal {a0 : (List Qp)}  {r : (Bool × Bool)} (h : impl_IsUnimodal a0 = some r) : Meets Tryz.prog 18 [.d false [.sl none (a0.map ePt)]] { vals := [.p (.bool r.1), .p (.bool r.2)] } := by
 refine mo Tryz.func18 [(0, .d false [.sl none (a0.map ePt)])] ?_
 unfold impl_IsUnimodal at h
 refine k_sreg (r_gq [(0, .d false [.sl none (a0.map ePt)])] [] trivial) ?_
 refine k_seq ?_
 replace h := bs h
 obtain ⟨v1, hv1, h⟩ := h
 refine k_sreg (r_gq [(0, .d false [.sl none (a0.map ePt)]), (6, .p (.bool (!v1)))] [(1, {call := some (none, [.p (.bool v1)], true)})] (A1 (wk_impl_isStrict hv1))) ?_
 refine kc (!v1) (fun hc2_1 => ?_) (fun hc2_1 => ?_)
 ·replace h := ite_t hc2_1 h
  refine k_sreg (r_gq [(2, .p (.bool false)), (3, .p (.bool false))] [] trivial) ?_
  refine k_ret ?_
  refine q_r ?_
  obtain rfl := oi h
  exact er [(.p (.bool false), 2), (.p (.bool false), 3)]
 ·replace h := ite_f hc2_1 h
  refine k_skip ?_
  refine q_n ?_
  replace h := bs h
  obtain ⟨v3, hv3, h⟩ := h
  refine k_sreg (r_gq [(2, .p (.bool v3)), (3, .p (.bool true))] [(1, {call := some (none, [.p (.bool v3)], true)})] (A1 (wk_impl_isUnimodal hv3))) ?_
  refine k_ret ?_
  obtain rfl := oi h
  exact er [(.p (.bool v3), 2), (.p (.bool true), 3)]
theorem wk_impl_IsKneadingWord {a0 : ByteArray}  {r : Bool} (h : impl_IsKneadingWord a0 = some r) : Meets Tryz.prog 19 [.v (.string a0)] { vals := [.p (.bool r)] } := by
 refine mo Tryz.func19 [(0, .p (.string a0))] ?_
 unfold impl_IsKneadingWord at h
 refine k_sreg (r_gq [(0, .p (.string a0))] [] trivial) ?_
 replace h := bs h
 obtain ⟨v1, hv1, h⟩ := h
 refine k_sreg (r_gq [(2, .p (.bool v1))] [(1, {call := some (none, [.p (.bool v1)], true)})] (A1 (wk_impl_isKneadingWord hv1))) ?_
 refine k_ret ?_
 obtain rfl := oi h
 exact er [(.p (.bool v1), 2)]
theorem wk_laws_pLess {a0 : Qr} {a1 : Qr}  {r : Bool} (h : laws_pLess a0 a1 = some r) : Meets Tryz.prog 20 [.v (vRt a0), .v (vRt a1)] { vals := [.p (.bool r)] } := by
 refine mo Tryz.func20 [(0, .p (vRt a0)), (1, .p (vRt a1))] ?_
 unfold laws_pLess at h
 refine k_sreg (r_gq [(2, .box (eRt a0)), (3, .box (eRt a1))] [] trivial) ?_
 refine k_sreg (r_gq [(4, .p (.bool (decide ((w64 (a0.1 * a1.2)) < (w64 (a1.1 * a0.2))))))] [] trivial) ?_
 refine k_ret ?_
 obtain rfl := oi h
 exact er [(.p (.bool (decide ((w64 (a0.1 * a1.2)) < (w64 (a1.1 * a0.2))))), 4)]
theorem wk_spec_l1Cur_of {a0 : Cu} {a1 : (List ByteArray)}  {r : (ByteArray × Cu)} (h : spec_l1Cur_of a0 a1 = some r) : MeetsB Tryz.prog 53 (.box (eCu a0)) [.d false [.sl none (a1.map eT)]] [.p (.string r.1)] (.box (eCu r.2)) := by
 refine mob Tryz.func53 [(0, .box (eCu a0)), (1, .d false [.sl none (a1.map eT)])] ?_
 unfold spec_l1Cur_of at h
 refine k_sreg (r_gq [(0, .box (eCu a0)), (1, .d false [.sl none (a1.map eT)])] [] trivial) ?_
 replace h := bs h
 obtain ⟨v1, hv1, h⟩ := h
 replace h := bs h
 obtain ⟨v2, hv2, h⟩ := h
 refine k_sreg (r_gq [(0, .box (eCu v1.2)), (4, .p (.string v2))] [(3, {n := some a1.length}), (4, {lend := some (none, [.p (iV v1.1)], .box (eCu v1.2), false)}), (5, {row := some [.raw (.string v2)]})] (A4 (show (a1.map eT).length = a1.length from (List.length_map ..)) (wk_spec_l1Cur_pick hv1) (idxO_some hv2).1 (map_get eT (idxO_some hv2).2))) ?_
 refine k_ret ?_
 obtain rfl := oi h
 exact ebr [(.p (.string v2), 4)]
theorem wk_spec_l1Cur_kneadingWord {a0 : Cu} {a1 : Int}  {r : (ByteArray × Cu)} (h : spec_l1Cur_kneadingWord a0 a1 = some r) : MeetsB Tryz.prog 54 (.box (eCu a0)) [wI a1] [.p (.string r.1)] (.box (eCu r.2)) := by
 refine mob Tryz.func54 [(0, .box (eCu a0)), (1, .p (iV a1))] ?_
 unfold spec_l1Cur_kneadingWord at h
 refine k_sreg (r_gq [(0, .box (eCu a0)), (1, .p (iV a1))] [] trivial) ?_
 refine k_sreg (r_gq [(0, .box (eCu a0)), (1, .p (iV a1)), (5, .p (.string ByteArray.empty))] [] trivial) ?_
 replace h := bs h
 obtain ⟨v1, hv1, h⟩ := h
 refine k_sreg (r_gq [(0, .box (eCu v1.2)), (5, .p (.string ByteArray.empty)), (6, .p (iV (w64 (1 + v1.1))))] [(2, {lend := some (none, [.p (iV v1.1)], .box (eCu v1.2), false)})] (A1 (wk_spec_l1Cur_pick hv1))) ?_
 refine k_join (J := fun (x : ((List Int) × Int × Int × Int)) => [(0, .box (eCu (x.1, x.2.1, x.2.2.1))), (5, .p (.string ByteArray.empty)), (6, .p (iV x.2.2.2))]) (K := fun x => spec_l1Cur_kneadingWord_k1 x = some r) (fun x2 h => ?_) ?_
 ·unfold spec_l1Cur_kneadingWord_k1 at h
  refine k_join (J := fun (x : ((List Int) × Int × Int × ByteArray)) => [(0, .box (eCu (x.1, x.2.1, x.2.2.1))), (5, .p (.string x.2.2.2))]) (K := fun x => spec_l1Cur_kneadingWord_k2 x = some r) (fun x3 h => ?_) ?_
  ·unfold spec_l1Cur_kneadingWord_k2 at h
   refine k_seq ?_
   replace h := bs h
   obtain ⟨v4, hv4, h⟩ := h
   refine k_sreg (r_gq [(0, .box (eCu v4.2)), (5, .p (.string x3.2.2.2)), (26, .p (.bool v4.1))] [(1, {lend := some (none, [.p (.bool v4.1)], .box (eCu v4.2), false)})] (A1 (wk_spec_l1Cur_one hv4))) ?_
   refine kc v4.1 (fun hc2_4 => ?_) (fun hc2_4 => ?_)
   ·replace h := ite_t hc2_4 h
    replace h := bs h
    obtain ⟨v6, hv6, h⟩ := h
    refine k_sreg (r_gq [(0, .box (eCu v6.2)), (4, .p (.string v6.1))] [(2, {lend := some (some [.d false [.sl none (([ByteArray.empty, (ByteArray.mk #[108]), (ByteArray.mk #[82, 88]), (ByteArray.mk #[82, 32])]).map eT)]], [.p (.string v6.1)], .box (eCu v6.2), false), fix := some (28, .d false [.sl none (([ByteArray.empty, (ByteArray.mk #[108]), (ByteArray.mk #[82, 88]), (ByteArray.mk #[82, 32])]).map eT)])})] (A3 (show ([.d false [.sl none (eraL (([ByteArray.empty, (ByteArray.mk #[108]), (ByteArray.mk #[82, 88]), (ByteArray.mk #[82, 32])]).map eT))]] : List Arg) = [.d false [.sl none (([ByteArray.empty, (ByteArray.mk #[108]), (ByteArray.mk #[82, 88]), (ByteArray.mk #[82, 32])]).map eT)]] from (by simp only [eraL_enc (h := eT) er_T])) (wk_spec_l1Cur_of hv6) (show (SV.d false (eraR [.sl (some 9) (([ByteArray.empty, (ByteArray.mk #[108]), (ByteArray.mk #[82, 88]), (ByteArray.mk #[82, 32])]).map eT)]) : SV) = .d false [.sl none (([ByteArray.empty, (ByteArray.mk #[108]), (ByteArray.mk #[82, 88]), (ByteArray.mk #[82, 32])]).map eT)] from (congrArg (fun z => SV.d false z) (erc_sl (eraL_enc er_T) rfl))))) ?_
    refine k_ret ?_
    refine q_r ?_
    obtain rfl := oi h
    exact ebr [(.p (.string v6.1), 4)]
   ·replace h := ite_f hc2_4 h
    refine k_skip ?_
    refine q_n ?_
    refine k_sreg (r_gq [(0, .box (eCu v4.2)), (4, .p (.string x3.2.2.2))] [] trivial) ?_
    refine k_ret ?_
    obtain rfl := oi h
    exact ebr [(.p (.string x3.2.2.2), 4)]
  ·refine k_block ?_
   obtain ⟨y8, hl_x7, hk_x7⟩ := bs h
   clear h
   refine k_loop (J := fun (x : ((List Int) × Int × Int × ByteArray)) => [(0, .box (eCu (x.1, x.2.1, x.2.2.1))), (5, .p (.string x.2.2.2)), (6, .p (iV x2.2.2.2))]) hl_x7 (wk_of (by kernel_rfl) (by kernel_rfl)) (fun x7 o_x7 h hy_x7 => ?_)
   unfold spec_l1Cur_kneadingWord_b1 at h
   refine k_seq ?_
   refine k_sreg (r_gq [(0, .box (eCu (x7.1, x7.2.1, x7.2.2.1))), (5, .p (.string x7.2.2.2)), (6, .p (iV x2.2.2.2)), (19, .p (.bool (decide ((x7.2.2.2.size : Int) < x2.2.2.2))))] [] trivial) ?_
   refine kc (decide ((x7.2.2.2.size : Int) < x2.2.2.2)) (fun hc5_8 => ?_) (fun hc5_8 => ?_)
   ·replace h := ite_t hc5_8 h
    refine k_skip ?_
    refine q_n ?_
    refine k_block ?_
    replace h := bs h
    obtain ⟨v10, hv10, h⟩ := h
    replace h := bs h
    obtain ⟨u11, hu11, h⟩ := h
    refine k_reg (r_gq [(0, .box (eCu v10.2)), (5, .p (.string (x7.2.2.2 ++ v10.1))), (6, .p (iV x2.2.2.2))] [(3, {lend := some (some [.d false [.sl none (([(ByteArray.mk #[76]), (ByteArray.mk #[82]), (ByteArray.mk #[82]), (ByteArray.mk #[76]), (ByteArray.mk #[67])]).map eT)]], [.p (.string v10.1)], .box (eCu v10.2), false), fix := some (22, .d false [.sl none (([(ByteArray.mk #[76]), (ByteArray.mk #[82]), (ByteArray.mk #[82]), (ByteArray.mk #[76]), (ByteArray.mk #[67])]).map eT)])})] (A4 (show ([.d false [.sl none (eraL (([(ByteArray.mk #[76]), (ByteArray.mk #[82]), (ByteArray.mk #[82]), (ByteArray.mk #[76]), (ByteArray.mk #[67])]).map eT))]] : List Arg) = [.d false [.sl none (([(ByteArray.mk #[76]), (ByteArray.mk #[82]), (ByteArray.mk #[82]), (ByteArray.mk #[76]), (ByteArray.mk #[67])]).map eT)]] from (by simp only [eraL_enc (h := eT) er_T])) (wk_spec_l1Cur_of hv10) (show (SV.d false (eraR [.sl (some 9) (([(ByteArray.mk #[76]), (ByteArray.mk #[82]), (ByteArray.mk #[82]), (ByteArray.mk #[76]), (ByteArray.mk #[67])]).map eT)]) : SV) = .d false [.sl none (([(ByteArray.mk #[76]), (ByteArray.mk #[82]), (ByteArray.mk #[82]), (ByteArray.mk #[76]), (ByteArray.mk #[67])]).map eT)] from (congrArg (fun z => SV.d false z) (erc_sl (eraL_enc er_T) rfl))) (guardO_some hu11))) ?_
    refine b_n ?_
    exact lqn (v10.2.1, v10.2.2.1, v10.2.2.2, (x7.2.2.2 ++ v10.1)) h
   ·replace h := ite_f hc5_8 h
    refine k_exit ?_
    refine q_x ?_
    refine lq_x ?_
    refine b_x ?_
    have hyy := hy_x7 _ (oi h).symm
    subst hyy
    have h := hk_x7
    refine q_n ?_
    exact jx x7 h
 ·replace h := bs h
  obtain ⟨v12, hv12, h⟩ := h
  refine k_sreg (r_gq [(0, .box (eCu v12.2)), (5, .p (.string ByteArray.empty)), (6, .p (iV (w64 (1 + v1.1)))), (12, .p (.bool v12.1))] [(1, {lend := some (none, [.p (.bool v12.1)], .box (eCu v12.2), false)})] (A1 (wk_spec_l1Cur_one hv12))) ?_
  refine kc v12.1 (fun hc2_12 => ?_) (fun hc2_12 => ?_)
  ·replace h := ite_t hc2_12 h
   replace h := bs h
   obtain ⟨v14, hv14, h⟩ := h
   refine k_reg (r_gq [(0, .box (eCu v14.2)), (5, .p (.string ByteArray.empty)), (6, .p (iV (w64 (30 + v14.1))))] [(1, {lend := some (none, [.p (iV v14.1)], .box (eCu v14.2), false)})] (A1 (wk_spec_l1Cur_pick hv14))) ?_
   refine q_n ?_
   exact jx (v14.2.1, v14.2.2.1, v14.2.2.2, (w64 (30 + v14.1))) h
  ·replace h := ite_f hc2_12 h
   refine k_skip ?_
   refine q_n ?_
   exact jx (v12.2.1, v12.2.2.1, v12.2.2.2, (w64 (1 + v1.1))) h
theorem wk_spec_DrawHeightFor {a0 : (List Int)}  {r : ByteArray} (h : spec_DrawHeightFor a0 = some r) : Meets Tryz.prog 21 [.d false [.sl none (a0.map (eU .u8))]] { vals := [.p (.string r)] } := by
 refine mo Tryz.func21 [(0, .d false [.sl none (a0.map (eU .u8))])] ?_
 unfold spec_DrawHeightFor at h
 refine k_sreg (r_gq [(0, .d false [.sl none (a0.map (eU .u8))])] [] trivial) ?_
 refine k_sreg (r_gq [(3, .addr 6 [(0, 0)]), (6, .box (eCu (a0, 0, 0)))] [] trivial) ?_
 replace h := bs h
 obtain ⟨v1, hv1, h⟩ := h
 replace h := bs h
 obtain ⟨v2, hv2, h⟩ := h
 refine k_sreg (r_gq [(2, .p (.string v2.1))] [(2, {lend := some (none, [.p (.string v1.1)], .box (eCu v1.2), false)}), (4, {lend := some (some [.d false [.sl none (([(ByteArray.mk #[82, 76, 76, 67]), (ByteArray.mk #[82, 76, 82, 67]), (ByteArray.mk #[82, 76, 67]), (ByteArray.mk #[82, 67]), (ByteArray.mk #[67]), (ByteArray.mk #[82, 76, 76]), (ByteArray.mk #[82, 82, 82, 76]), (ByteArray.mk #[76, 76, 76, 76]), (ByteArray.mk #[82, 76, 76, 76, 76]), (ByteArray.mk #[76]), v1.1]).map eT)]], [.p (.string v2.1)], .box (eCu v2.2), false), fix := some (10, .d false [.sl none (([(ByteArray.mk #[82, 76, 76, 67]), (ByteArray.mk #[82, 76, 82, 67]), (ByteArray.mk #[82, 76, 67]), (ByteArray.mk #[82, 67]), (ByteArray.mk #[67]), (ByteArray.mk #[82, 76, 76]), (ByteArray.mk #[82, 82, 82, 76]), (ByteArray.mk #[76, 76, 76, 76]), (ByteArray.mk #[82, 76, 76, 76, 76]), (ByteArray.mk #[76]), v1.1]).map eT)])})] (A4 (wk_spec_l1Cur_kneadingWord hv1) (show ([.d false [.sl none (eraL (([(ByteArray.mk #[82, 76, 76, 67]), (ByteArray.mk #[82, 76, 82, 67]), (ByteArray.mk #[82, 76, 67]), (ByteArray.mk #[82, 67]), (ByteArray.mk #[67]), (ByteArray.mk #[82, 76, 76]), (ByteArray.mk #[82, 82, 82, 76]), (ByteArray.mk #[76, 76, 76, 76]), (ByteArray.mk #[82, 76, 76, 76, 76]), (ByteArray.mk #[76]), v1.1]).map eT))]] : List Arg) = [.d false [.sl none (([(ByteArray.mk #[82, 76, 76, 67]), (ByteArray.mk #[82, 76, 82, 67]), (ByteArray.mk #[82, 76, 67]), (ByteArray.mk #[82, 67]), (ByteArray.mk #[67]), (ByteArray.mk #[82, 76, 76]), (ByteArray.mk #[82, 82, 82, 76]), (ByteArray.mk #[76, 76, 76, 76]), (ByteArray.mk #[82, 76, 76, 76, 76]), (ByteArray.mk #[76]), v1.1]).map eT)]] from (by simp only [eraL_enc (h := eT) er_T])) (wk_spec_l1Cur_of hv2) (show (SV.d false (eraR [.sl (some 9) (([(ByteArray.mk #[82, 76, 76, 67]), (ByteArray.mk #[82, 76, 82, 67]), (ByteArray.mk #[82, 76, 67]), (ByteArray.mk #[82, 67]), (ByteArray.mk #[67]), (ByteArray.mk #[82, 76, 76]), (ByteArray.mk #[82, 82, 82, 76]), (ByteArray.mk #[76, 76, 76, 76]), (ByteArray.mk #[82, 76, 76, 76, 76]), (ByteArray.mk #[76]), v1.1]).map eT)]) : SV) = .d false [.sl none (([(ByteArray.mk #[82, 76, 76, 67]), (ByteArray.mk #[82, 76, 82, 67]), (ByteArray.mk #[82, 76, 67]), (ByteArray.mk #[82, 67]), (ByteArray.mk #[67]), (ByteArray.mk #[82, 76, 76]), (ByteArray.mk #[82, 82, 82, 76]), (ByteArray.mk #[76, 76, 76, 76]), (ByteArray.mk #[82, 76, 76, 76, 76]), (ByteArray.mk #[76]), v1.1]).map eT)] from (congrArg (fun z => SV.d false z) (erc_sl (eraL_enc er_T) rfl))))) ?_
 refine k_ret ?_
 obtain rfl := oi h
 exact er [(.p (.string v2.1), 2)]
theorem wk_impl_tentMap {a0 : Qr}  {r : (List Qp)} (h : impl_tentMap a0 = some r) : Meets Tryz.prog 34 [.v (vRt a0)] { vals := [.ov false [.sl (some 78) (r.map ePt)]] } := by
 refine mo Tryz.func34 [(0, .p (vRt a0))] ?_
 unfold impl_tentMap at h
 refine k_sreg (r_gq [(1, .box (eRt a0))] [] trivial) ?_
 replace h := bs h
 obtain ⟨v1, hv1, h⟩ := h
 replace h := bs h
 obtain ⟨v2, hv2, h⟩ := h
 replace h := bs h
 obtain ⟨v3, hv3, h⟩ := h
 replace h := bs h
 obtain ⟨v4, hv4, h⟩ := h
 refine k_sreg (r_dq Tryz_mixed 9 [] [(2, .ov false [.sl (some 78) (([(v1, v2), ((1, 2), a0), (v3, v4)]).map ePt)])] [(0, {call := some (none, [.p (vRt v1)], true)}), (1, {call := some (none, [.p (vRt v2)], true)}), (6, {call := some (none, [.p (vRt v3)], true)}), (7, {call := some (none, [.p (vRt v4)], true)})] (A4 (wk_impl_zero hv1) (wk_impl_zero hv2) (wk_impl_oneRat hv3) (wk_impl_zero hv4))) ?_
 refine k_ret ?_
 obtain rfl := oi h
 exact er [(.ov false [.sl (some 78) (([(v1, v2), ((1, 2), a0), (v3, v4)]).map ePt)], 2)]
theorem wk_impl_HeightFor {a0 : ByteArray}  {r : (Qr × Bool)} (h : impl_HeightFor a0 = some r) : Meets Tryz.prog 6 [.v (.string a0)] { vals := [.p (vRt r.1), .p (.bool r.2)] } := by
 refine mo Tryz.func6 [(0, .p (.string a0))] ?_
 unfold impl_HeightFor at h
 refine k_sreg (r_gq [(0, .p (.string a0)), (2, .box [rI 0, rI 0])] [] trivial) ?_
 refine k_seq ?_
 replace h := bs h
 obtain ⟨v1, hv1, h⟩ := h
 refine k_sreg (l1 := [(0, .p (.string a0)), (2, .box [rI 0, rI 0]), (16, .p (.bool ((!v1) || (decide ((a0.size : Int) > 4)))))]) ?_ ?_
 ·rcases ft (!v1) with ha0 | ha0
  ·exact RegOk.of_eq (l2 := [(0, .p (.string a0)), (2, .box [rI 0, rI 0]), (16, .p (.bool ((!v1) || (decide ((a0.size : Int) > 4)))))]) (r_gq [(0, .p (.string a0)), (2, .box [rI 0, rI 0]), (16, .p (.bool true))] [(1, {call := some (none, [.p (.bool v1)], true)}), (4, gT), (5, gT), (6, gT), (7, bT)] (A5 (wk_impl_isKneadingWord hv1) ha0 ha0 ha0 ha0)) (by simp [ha0])
  ·exact RegOk.of_eq (l2 := [(0, .p (.string a0)), (2, .box [rI 0, rI 0]), (16, .p (.bool ((!v1) || (decide ((a0.size : Int) > 4)))))]) (r_gq [(0, .p (.string a0)), (2, .box [rI 0, rI 0]), (16, .p (.bool (decide ((a0.size : Int) > 4))))] [(1, {call := some (none, [.p (.bool v1)], true)}), (4, gF), (5, gF), (6, gF), (7, bF)] (A5 (wk_impl_isKneadingWord hv1) ha0 ha0 ha0 ha0)) (by simp [ha0])
 ·refine kc ((!v1) || (decide ((a0.size : Int) > 4))) (fun hc2_1 => ?_) (fun hc2_1 => ?_)
  ·replace h := ite_t hc2_1 h
   refine k_sreg (r_gq [(2, .box [rI 0, rI 0]), (3, .p (.bool false))] [] trivial) ?_
   refine k_ret ?_
   refine q_r ?_
   obtain rfl := oi h
   exact er [(.p (.agg #[.int .i64 0, .int .i64 0]), 2), (.p (.bool false), 3)]
  ·replace h := ite_f hc2_1 h
   refine k_skip ?_
   refine q_n ?_
   refine k_join (J := fun (x : Unit) => [(2, .box [rI 0, rI 0])]) (K := fun x => impl_HeightFor_k1 x = some r) (fun x3 h => ?_) ?_
   ·unfold impl_HeightFor_k1 at h
    refine k_sreg (r_gq [(2, .box [rI 0, rI 0]), (3, .p (.bool false))] [] trivial) ?_
    refine k_ret ?_
    obtain rfl := oi h
    exact er [(.p (.agg #[.int .i64 0, .int .i64 0]), 2), (.p (.bool false), 3)]
   ·refine k_sreg (r_gq [(0, .p (.string a0)), (2, .box [rI 0, rI 0]), (4, .p (iV 100))] [] trivial) ?_
    refine k_block ?_
    obtain ⟨y5, hl_x4, hk_x4⟩ := bs h
    clear h
    refine k_loop (J := fun (x : Int) => [(0, .p (.string a0)), (2, .box [rI 0, rI 0]), (4, .p (iV x))]) hl_x4 (wk_of (by kernel_rfl) (by kernel_rfl)) (fun x4 o_x4 h hy_x4 => ?_)
    unfold impl_HeightFor_b1 at h
    refine k_seq ?_
    refine k_sreg (r_gq [(0, .p (.string a0)), (2, .box [rI 0, rI 0]), (4, .p (iV x4)), (19, .p (.bool (decide (x4 ≥ 51))))] [] trivial) ?_
    refine kc (decide (x4 ≥ 51)) (fun hc5_5 => ?_) (fun hc5_5 => ?_)
    ·replace h := ite_t hc5_5 h
     refine k_skip ?_
     refine q_n ?_
     refine k_seq ?_
     refine k_block ?_
     replace h := bs h
     obtain ⟨v7, hv7, h⟩ := h
     refine k_sreg (r_gq [(0, .p (.string a0)), (2, .box [rI 0, rI 0]), (4, .p (iV x4)), (5, .box (eRt v7.1))] [(1, {call := some (none, [.p (vRt v7.1), .p (.bool v7.2)], true)})] (A1 (wk_impl_lowest hv7))) ?_
     replace h := bs h
     obtain ⟨v8, hv8, h⟩ := h
     replace h := bs h
     obtain ⟨v9, hv9, h⟩ := h
     refine k_sreg (r_gq [(0, .p (.string a0)), (2, .box [rI 0, rI 0]), (4, .p (iV x4)), (5, .box (eRt v7.1)), (7, .p (.string v9.1)), (8, .p (.bool v9.2))] [(1, {call := some (none, [.ov false [.sl (some 78) (v8.map ePt)]], true)}), (4, {call := some (some [.d false [.sl none (v8.map ePt)], wI (a0.size : Int)], [.p (.string v9.1), .p (.bool v9.2)], true)})] (A4 (wk_impl_tentMap hv8) (show List.all [.ov false [.sl (some 78) (v8.map ePt)]] simpleR = true from (sa_o (wnR1 (wnL_enc (wn_P (wn_P wn_I wn_I) (wn_P wn_I wn_I))) rfl) rfl)) (show ([.d false [.sl none (eraL (v8.map ePt))], wI (a0.size : Int)] : List Arg) = [.d false [.sl none (v8.map ePt)], wI (a0.size : Int)] from (by simp only [eraL_enc (h := ePt) (era_P (era_P er_I er_I) (era_P er_I er_I))])) (wk_impl_KneadingOf hv9))) ?_
     refine k_seq ?_
     refine k_sreg (r_gq [(0, .p (.string a0)), (2, .box [rI 0, rI 0]), (4, .p (iV x4)), (5, .box (eRt v7.1)), (7, .p (.string v9.1)), (36, .p (.bool (!v9.2)))] [] trivial) ?_
     refine kc (!v9.2) (fun hc7_9 => ?_) (fun hc7_9 => ?_)
     ·replace h := ite_t hc7_9 h
      refine k_sreg (r_gq [(2, .box [rI 0, rI 0]), (3, .p (.bool false))] [] trivial) ?_
      refine k_ret ?_
      refine q_r ?_
      refine b_r ?_
      refine q_r ?_
      refine lq_r ?_
      refine b_r ?_
      refine q_r ?_
      have hyy := hy_x4 _ (oi h).symm
      subst hyy
      have h := hk_x4
      dsimp only [Sum.elim] at h
      obtain rfl := oi h
      exact er [(.p (.agg #[.int .i64 0, .int .i64 0]), 2), (.p (.bool false), 3)]
     ·replace h := ite_f hc7_9 h
      refine k_skip ?_
      refine q_n ?_
      replace h := bs h
      obtain ⟨v11, hv11, h⟩ := h
      refine k_sreg (r_gq [(0, .p (.string a0)), (2, .box [rI 0, rI 0]), (4, .p (iV x4)), (5, .box (eRt v7.1)), (41, .p (.bool (decide (v11 ≤ 0))))] [(2, {call := some (none, [.p (iV v11)], true)})] (A1 (wk_impl_compareKneading hv11))) ?_
      refine kc (decide (v11 ≤ 0)) (fun hc6_11 => ?_) (fun hc6_11 => ?_)
      ·replace h := ite_t hc6_11 h
       refine k_sreg (r_gq [(2, .box (eRt v7.1)), (3, .p (.bool true))] [] trivial) ?_
       refine k_ret ?_
       refine b_r ?_
       refine q_r ?_
       refine lq_r ?_
       refine b_r ?_
       refine q_r ?_
       have hyy := hy_x4 _ (oi h).symm
       subst hyy
       have h := hk_x4
       dsimp only [Sum.elim] at h
       obtain rfl := oi h
       exact er [(.p (vRt v7.1), 2), (.p (.bool true), 3)]
      ·replace h := ite_f hc6_11 h
       refine k_skip ?_
       refine b_n ?_
       refine q_n ?_
       refine k_reg (r_gq [(0, .p (.string a0)), (2, .box [rI 0, rI 0]), (4, .p (iV (w64 (x4 - 1))))] [] trivial) ?_
       exact lqn (w64 (x4 - 1)) h
    ·replace h := ite_f hc5_5 h
     refine k_exit ?_
     refine q_x ?_
     refine lq_x ?_
     refine b_x ?_
     have hyy := hy_x4 _ (oi h).symm
     subst hyy
     have h := hk_x4
     dsimp only [Sum.elim] at h
     refine q_n ?_
     exact jx () h
theorem wk_spec_knGood {a0 : ByteArray} {a1 : ByteArray}  {r : Bool} (h : spec_knGood a0 a1 = some r) : Meets Tryz.prog 27 [.v (.string a0), .v (.string a1)] { vals := [.p (.bool r)] } := by
 refine mo Tryz.func27 [(0, .p (.string a0)), (1, .p (.string a1))] ?_
 unfold spec_knGood at h
 refine k_sreg (r_gq [(0, .p (.string a0)), (1, .p (.string a1))] [] trivial) ?_
 refine k_join (J := fun (x : Unit) => [(0, .p (.string a0))]) (K := fun x => spec_knGood_k1 a0 x = some r) (fun x1 h => ?_) ?_
 ·unfold spec_knGood_k1 at h
  replace h := bs h
  obtain ⟨v2, hv2, h⟩ := h
  refine k_sreg (r_gq [(4, .p (.bool v2))] [(2, {call := some (none, [.p (.bool v2)], true)})] (A1 (wk_spec_knLength hv2))) ?_
  refine k_ret ?_
  obtain rfl := oi h
  exact er [(.p (.bool v2), 4)]
 ·refine k_sreg (r_gq [(0, .p (.string a0)), (1, .p (.string a1)), (5, .p (iV 0))] [] trivial) ?_
  refine k_block ?_
  obtain ⟨y4, hl_x3, hk_x3⟩ := bs h
  clear h
  refine k_loop (J := fun (x : Int) => [(0, .p (.string a0)), (1, .p (.string a1)), (5, .p (iV x))]) hl_x3 (wk_of (by kernel_rfl) (by kernel_rfl)) (fun x3 o_x3 h hy_x3 => ?_)
  unfold spec_knGood_b1 at h
  refine k_seq ?_
  refine k_sreg (r_gq [(0, .p (.string a0)), (1, .p (.string a1)), (5, .p (iV x3)), (11, .p (.bool (decide (x3 < (a0.size : Int)))))] [] trivial) ?_
  refine kc (decide (x3 < (a0.size : Int))) (fun hc5_4 => ?_) (fun hc5_4 => ?_)
  ·replace h := ite_t hc5_4 h
   refine k_skip ?_
   refine q_n ?_
   refine k_join (J := fun (x : Unit) => [(0, .p (.string a0)), (1, .p (.string a1)), (5, .p (iV x3))]) (K := fun x => spec_knGood_k2 x3 x = some o_x3) (fun x6 h => ?_) ?_
   ·unfold spec_knGood_k2 at h
    refine k_reg (r_gq [(0, .p (.string a0)), (1, .p (.string a1)), (5, .p (iV (w64 (x3 + 1))))] [] trivial) ?_
    exact lqn (w64 (x3 + 1)) h
   ·refine k_block ?_
    refine k_sreg (r_gq [(0, .p (.string a0)), (1, .p (.string a1)), (5, .p (iV x3)), (6, .p (.bool false))] [] trivial) ?_
    refine k_join (J := fun (x : Bool) => [(0, .p (.string a0)), (1, .p (.string a1)), (5, .p (iV x3)), (6, .p (.bool x))]) (K := fun x => spec_knGood_k3 x3 x = some o_x3) (fun x7 h => ?_) ?_
    ·unfold spec_knGood_k3 at h
     refine k_sreg (r_gq [(0, .p (.string a0)), (1, .p (.string a1)), (5, .p (iV x3)), (31, .p (.bool (!x7)))] [] trivial) ?_
     refine kc (!x7) (fun hc6_7 => ?_) (fun hc6_7 => ?_)
     ·replace h := ite_t hc6_7 h
      refine k_sreg (r_gq [(4, .p (.bool false))] [] trivial) ?_
      refine k_ret ?_
      refine b_r ?_
      refine q_r ?_
      refine lq_r ?_
      refine b_r ?_
      refine q_r ?_
      have hyy := hy_x3 _ (oi h).symm
      subst hyy
      have h := hk_x3
      dsimp only [Sum.elim] at h
      obtain rfl := oi h
      exact er [(.p (.bool false), 4)]
     ·replace h := ite_f hc6_7 h
      refine k_skip ?_
      refine b_n ?_
      refine q_n ?_
      exact jx () h
    ·refine k_sreg (r_gq [(0, .p (.string a0)), (1, .p (.string a1)), (5, .p (iV x3)), (6, .p (.bool false)), (7, .p (iV 0))] [] trivial) ?_
     refine k_block ?_
     obtain ⟨y10, hl_x9, hk_x9⟩ := bs h
     clear h
     refine k_loop (J := fun (x : (Bool × Int)) => [(0, .p (.string a0)), (1, .p (.string a1)), (5, .p (iV x3)), (6, .p (.bool x.1)), (7, .p (iV x.2))]) hl_x9 (wk_of (by kernel_rfl) (by kernel_rfl)) (fun x9 o_x9 h hy_x9 => ?_)
     unfold spec_knGood_b2 at h
     refine k_seq ?_
     refine k_sreg (r_gq [(0, .p (.string a0)), (1, .p (.string a1)), (5, .p (iV x3)), (6, .p (.bool x9.1)), (7, .p (iV x9.2)), (17, .p (.bool (decide (x9.2 < (a1.size : Int)))))] [] trivial) ?_
     refine kc (decide (x9.2 < (a1.size : Int))) (fun hc10_10 => ?_) (fun hc10_10 => ?_)
     ·replace h := ite_t hc10_10 h
      refine k_skip ?_
      refine q_n ?_
      refine k_seq ?_
      refine k_block ?_
      replace h := bs h
      obtain ⟨w14, hw14, h⟩ := h
      refine k_reg (l1 := [(0, .p (.string a0)), (1, .p (.string a1)), (5, .p (iV x3)), (6, .p (.bool w14)), (7, .p (iV x9.2))]) ?_ ?_
      ·clear h
       rcases ft x9.1 with ha2 | ha2
       ·replace hw14 := ite_t ha2 hw14
        have hw14 := oi hw14
        subst hw14
        exact (r_dq Tryz_mixed 8 [] [(0, .p (.string a0)), (1, .p (.string a1)), (5, .p (iV x3)), (6, .p (.bool true)), (7, .p (iV x9.2))] [(2, gT), (3, gT), (4, gT), (5, gT), (6, gT), (7, gT), (8, gT), (9, bT)] (B6 ha2 ha2 ha2 ha2 ha2 ha2 (A2 ha2 ha2)))
       ·replace hw14 := ite_f ha2 hw14
        replace hw14 := bs hw14
        obtain ⟨u12, hu12, hw14⟩ := hw14
        replace hw14 := bs hw14
        obtain ⟨u13, hu13, hw14⟩ := hw14
        have hw14 := oi hw14
        subst hw14
        exact (r_dq Tryz_mixed 8 [] [(0, .p (.string a0)), (1, .p (.string a1)), (5, .p (iV x3)), (6, .p (.bool ((strAt a0 x3) == (strAt a1 x9.2)))), (7, .p (iV x9.2))] [(2, gF), (3, gF), (4, {g := some false, pv := some (.int .u8 (strAt a0 x3))}), (5, gF), (6, gF), (7, {g := some false, pv := some (.int .u8 (strAt a1 x9.2))}), (8, gF), (9, bF)] (B6 ha2 ha2 ha2 (show PureAt Tryz.prog (.index 9 (.tmp 22) (.tmp 23)) [.string a0, .int .i64 x3] (.int .u8 (strAt a0 x3)) from (pure_sidx (by kernel_rfl) (guardO_some hu12))) ha2 ha2 (A4 ha2 (show PureAt Tryz.prog (.index 9 (.tmp 25) (.tmp 26)) [.string a1, .int .i64 x9.2] (.int .u8 (strAt a1 x9.2)) from (pure_sidx (by kernel_rfl) (guardO_some hu13))) ha2 ha2)))
      ·refine b_n ?_
       refine q_n ?_
       refine k_reg (r_gq [(0, .p (.string a0)), (1, .p (.string a1)), (5, .p (iV x3)), (6, .p (.bool w14)), (7, .p (iV (w64 (x9.2 + 1))))] [] trivial) ?_
       exact lqn (w14, (w64 (x9.2 + 1))) h
     ·replace h := ite_f hc10_10 h
      refine k_exit ?_
      refine q_x ?_
      refine lq_x ?_
      refine b_x ?_
      have hyy := hy_x9 _ (oi h).symm
      subst hyy
      have h := hk_x9
      refine q_n ?_
      exact jx x9.1 h
  ·replace h := ite_f hc5_4 h
   refine k_exit ?_
   refine q_x ?_
   refine lq_x ?_
   refine b_x ?_
   have hyy := hy_x3 _ (oi h).symm
   subst hyy
   have h := hk_x3
   dsimp only [Sum.elim] at h
   refine q_n ?_
   exact jx () h
theorem wk_spec_knRank {a0 : Int}  {r : Int} (h : spec_knRank a0 = some r) : Meets Tryz.prog 63 [.v (.int .u8 a0)] { vals := [.p (iV r)] } := by
 refine mo Tryz.func63 [(0, .p (.int .u8 a0))] ?_
 unfold spec_knRank at h
 refine k_sreg (r_gq [(0, .p (.int .u8 a0))] [] trivial) ?_
 refine k_seq ?_
 refine k_sreg (r_gq [(3, .p (.int .u8 a0))] [] trivial) ?_
 refine k_block ?_
 refine k_sreg (r_gq [(3, .p (.int .u8 a0)), (4, .p (.bool (a0 == 76)))] [] trivial) ?_
 refine kc (a0 == 76) (fun hc3_0 => ?_) (fun hc3_0 => ?_)
 ·replace h := ite_t hc3_0 h
  refine k_sreg (r_gq [(2, .p (iV 0))] [] trivial) ?_
  refine k_ret ?_
  refine b_r ?_
  refine q_r ?_
  obtain rfl := oi h
  exact er [(.p (iV 0), 2)]
 ·replace h := ite_f hc3_0 h
  refine k_sreg (r_gq [(6, .p (.bool (a0 == 67)))] [] trivial) ?_
  refine kc (a0 == 67) (fun hc3_1 => ?_) (fun hc3_1 => ?_)
  ·replace h := ite_t hc3_1 h
   refine k_sreg (r_gq [(2, .p (iV 1))] [] trivial) ?_
   refine k_ret ?_
   refine b_r ?_
   refine q_r ?_
   obtain rfl := oi h
   exact er [(.p (iV 1), 2)]
  ·replace h := ite_f hc3_1 h
   refine k_skip ?_
   refine b_n ?_
   refine q_n ?_
   refine k_sreg (r_gq [(2, .p (iV 2))] [] trivial) ?_
   refine k_ret ?_
   obtain rfl := oi h
   exact er [(.p (iV 2), 2)]
theorem wk_spec_knCompare {a0 : ByteArray} {a1 : ByteArray}  {r : Int} (h : spec_knCompare a0 a1 = some r) : Meets Tryz.prog 31 [.v (.string a0), .v (.string a1)] { vals := [.p (iV r)] } := by
 refine mo Tryz.func31 [(0, .p (.string a0)), (1, .p (.string a1))] ?_
 unfold spec_knCompare at h
 refine k_sreg (r_gq [(0, .p (.string a0)), (1, .p (.string a1))] [] trivial) ?_
 refine k_sreg (r_gq [(0, .p (.string a0)), (1, .p (.string a1)), (5, .p (iV 1))] [] trivial) ?_
 refine k_join (J := fun (x : Unit) => []) (K := fun x => spec_knCompare_k1 x = some r) (fun x1 h => ?_) ?_
 ·unfold spec_knCompare_k1 at h
  refine k_sreg (r_gq [(4, .p (iV 0))] [] trivial) ?_
  refine k_ret ?_
  obtain rfl := oi h
  exact er [(.p (iV 0), 4)]
 ·refine k_sreg (r_gq [(0, .p (.string a0)), (1, .p (.string a1)), (5, .p (iV 1)), (6, .p (iV 0))] [] trivial) ?_
  refine k_block ?_
  obtain ⟨y3, hl_x2, hk_x2⟩ := bs h
  clear h
  refine k_loop (J := fun (x : Qr) => [(0, .p (.string a0)), (1, .p (.string a1)), (5, .p (iV x.1)), (6, .p (iV x.2))]) hl_x2 (wk_of (by kernel_rfl) (by kernel_rfl)) (fun x2 o_x2 h hy_x2 => ?_)
  unfold spec_knCompare_b1 at h
  refine k_seq ?_
  refine k_sreg (r_gq [(0, .p (.string a0)), (1, .p (.string a1)), (5, .p (iV x2.1)), (6, .p (iV x2.2)), (12, .p (.bool (decide (x2.2 < (a0.size : Int)))))] [] trivial) ?_
  refine kc (decide (x2.2 < (a0.size : Int))) (fun hc5_3 => ?_) (fun hc5_3 => ?_)
  ·replace h := ite_t hc5_3 h
   refine k_skip ?_
   refine q_n ?_
   refine k_seq ?_
   refine k_block ?_
   refine k_seq ?_
   replace h := bs h
   obtain ⟨u5, hu5, h⟩ := h
   replace h := bs h
   obtain ⟨u6, hu6, h⟩ := h
   refine k_sreg (r_dq Tryz_mixed 6 [] [(0, .p (.string a0)), (1, .p (.string a1)), (5, .p (iV x2.1)), (6, .p (iV x2.2)), (21, .p (.bool ((strAt a0 x2.2) != (strAt a1 x2.2))))] [(2, {pv := some (.int .u8 (strAt a0 x2.2))}), (5, {pv := some (.int .u8 (strAt a1 x2.2))})] (A2 (show PureAt Tryz.prog (.index 9 (.tmp 15) (.tmp 16)) [.string a0, .int .i64 x2.2] (.int .u8 (strAt a0 x2.2)) from (pure_sidx (by kernel_rfl) (guardO_some hu5))) (show PureAt Tryz.prog (.index 9 (.tmp 18) (.tmp 19)) [.string a1, .int .i64 x2.2] (.int .u8 (strAt a1 x2.2)) from (pure_sidx (by kernel_rfl) (guardO_some hu6))))) ?_
   refine kc ((strAt a0 x2.2) != (strAt a1 x2.2)) (fun hc7_6 => ?_) (fun hc7_6 => ?_)
   ·replace h := ite_t hc7_6 h
    replace h := bs h
    obtain ⟨v8, hv8, h⟩ := h
    replace h := bs h
    obtain ⟨v9, hv9, h⟩ := h
    refine k_sreg (r_dq Tryz_mixed 7 [] [(5, .p (iV x2.1)), (7, .p (iV v8)), (8, .p (iV v9))] [(2, {pv := some (.int .u8 (strAt a0 x2.2))}), (3, {call := some (none, [.p (iV v8)], true)}), (6, {pv := some (.int .u8 (strAt a1 x2.2))}), (7, {call := some (none, [.p (iV v9)], true)})] (A4 (show PureAt Tryz.prog (.index 9 (.tmp 22) (.tmp 23)) [.string a0, .int .i64 x2.2] (.int .u8 (strAt a0 x2.2)) from (pure_sidx (by kernel_rfl) (guardO_some hu5))) (wk_spec_knRank hv8) (show PureAt Tryz.prog (.index 9 (.tmp 26) (.tmp 27)) [.string a1, .int .i64 x2.2] (.int .u8 (strAt a1 x2.2)) from (pure_sidx (by kernel_rfl) (guardO_some hu6))) (wk_spec_knRank hv9))) ?_
    replace h := bs h
    obtain ⟨v10, hv10, h⟩ := h
    refine k_sreg (r_gq [(4, .p (iV (w64 (x2.1 * v10))))] [(4, {call := some (none, [.p (iV v10)], true)})] (A1 (wk_spec_l1Sign hv10))) ?_
    refine k_ret ?_
    refine q_r ?_
    refine b_r ?_
    refine q_r ?_
    refine lq_r ?_
    refine b_r ?_
    refine q_r ?_
    have hyy := hy_x2 _ (oi h).symm
    subst hyy
    have h := hk_x2
    dsimp only [Sum.elim] at h
    obtain rfl := oi h
    exact er [(.p (iV (w64 (x2.1 * v10))), 4)]
   ·replace h := ite_f hc7_6 h
    refine k_skip ?_
    refine q_n ?_
    refine k_sreg (r_gq [(0, .p (.string a0)), (1, .p (.string a1)), (5, .p (iV x2.1)), (6, .p (iV x2.2)), (39, .p (.bool ((strAt a0 x2.2) == 82)))] [(2, {pv := some (.int .u8 (strAt a0 x2.2))})] (A1 (show PureAt Tryz.prog (.index 9 (.tmp 36) (.tmp 37)) [.string a0, .int .i64 x2.2] (.int .u8 (strAt a0 x2.2)) from (pure_sidx (by kernel_rfl) (guardO_some hu5))))) ?_
    refine kc ((strAt a0 x2.2) == 82) (fun hc6_10 => ?_) (fun hc6_10 => ?_)
    ·replace h := ite_t hc6_10 h
     refine k_reg (r_gq [(0, .p (.string a0)), (1, .p (.string a1)), (5, .p (iV (w64 (0 - x2.1)))), (6, .p (iV x2.2))] [] trivial) ?_
     refine b_n ?_
     refine q_n ?_
     refine k_reg (r_gq [(0, .p (.string a0)), (1, .p (.string a1)), (5, .p (iV (w64 (0 - x2.1)))), (6, .p (iV (w64 (x2.2 + 1))))] [] trivial) ?_
     exact lqn ((w64 (0 - x2.1)), (w64 (x2.2 + 1))) h
    ·replace h := ite_f hc6_10 h
     refine k_skip ?_
     refine b_n ?_
     refine q_n ?_
     refine k_reg (r_gq [(0, .p (.string a0)), (1, .p (.string a1)), (5, .p (iV x2.1)), (6, .p (iV (w64 (x2.2 + 1))))] [] trivial) ?_
     exact lqn (x2.1, (w64 (x2.2 + 1))) h
  ·replace h := ite_f hc5_3 h
   refine k_exit ?_
   refine q_x ?_
   refine lq_x ?_
   refine b_x ?_
   have hyy := hy_x2 _ (oi h).symm
   subst hyy
   have h := hk_x2
   dsimp only [Sum.elim] at h
   refine q_n ?_
   exact jx () h
theorem wk_spec_HeightFor {a0 : ByteArray}  {r : (Qr × Bool)} (h : spec_HeightFor a0 = some r) : Meets Tryz.prog 5 [.v (.string a0)] { vals := [.p (vRt r.1), .p (.bool r.2)] } := by
 refine mo Tryz.func5 [(0, .p (.string a0))] ?_
 unfold spec_HeightFor at h
 refine k_sreg (r_gq [(0, .p (.string a0)), (2, .box [rI 0, rI 0])] [] trivial) ?_
 refine k_seq ?_
 replace h := bs h
 obtain ⟨v1, hv1, h⟩ := h
 refine k_sreg (l1 := [(0, .p (.string a0)), (2, .box [rI 0, rI 0]), (16, .p (.bool ((!v1) || (decide ((a0.size : Int) > 4)))))]) ?_ ?_
 ·rcases ft (!v1) with ha0 | ha0
  ·exact RegOk.of_eq (l2 := [(0, .p (.string a0)), (2, .box [rI 0, rI 0]), (16, .p (.bool ((!v1) || (decide ((a0.size : Int) > 4)))))]) (r_gq [(0, .p (.string a0)), (2, .box [rI 0, rI 0]), (16, .p (.bool true))] [(1, {call := some (none, [.p (.bool v1)], true)}), (4, gT), (5, gT), (6, gT), (7, bT)] (A5 (wk_spec_knGood hv1) ha0 ha0 ha0 ha0)) (by simp [ha0])
  ·exact RegOk.of_eq (l2 := [(0, .p (.string a0)), (2, .box [rI 0, rI 0]), (16, .p (.bool ((!v1) || (decide ((a0.size : Int) > 4)))))]) (r_gq [(0, .p (.string a0)), (2, .box [rI 0, rI 0]), (16, .p (.bool (decide ((a0.size : Int) > 4))))] [(1, {call := some (none, [.p (.bool v1)], true)}), (4, gF), (5, gF), (6, gF), (7, bF)] (A5 (wk_spec_knGood hv1) ha0 ha0 ha0 ha0)) (by simp [ha0])
 ·refine kc ((!v1) || (decide ((a0.size : Int) > 4))) (fun hc2_1 => ?_) (fun hc2_1 => ?_)
  ·replace h := ite_t hc2_1 h
   refine k_sreg (r_gq [(2, .box [rI 0, rI 0]), (3, .p (.bool false))] [] trivial) ?_
   refine k_ret ?_
   refine q_r ?_
   obtain rfl := oi h
   exact er [(.p (.agg #[.int .i64 0, .int .i64 0]), 2), (.p (.bool false), 3)]
  ·replace h := ite_f hc2_1 h
   refine k_skip ?_
   refine q_n ?_
   refine k_join (J := fun (x : Unit) => [(2, .box [rI 0, rI 0])]) (K := fun x => spec_HeightFor_k1 x = some r) (fun x3 h => ?_) ?_
   ·unfold spec_HeightFor_k1 at h
    refine k_sreg (r_gq [(2, .box [rI 0, rI 0]), (3, .p (.bool false))] [] trivial) ?_
    refine k_ret ?_
    obtain rfl := oi h
    exact er [(.p (.agg #[.int .i64 0, .int .i64 0]), 2), (.p (.bool false), 3)]
   ·refine k_sreg (r_gq [(0, .p (.string a0)), (2, .box [rI 0, rI 0]), (4, .p (iV 100))] [] trivial) ?_
    refine k_block ?_
    obtain ⟨y5, hl_x4, hk_x4⟩ := bs h
    clear h
    refine k_loop (J := fun (x : Int) => [(0, .p (.string a0)), (2, .box [rI 0, rI 0]), (4, .p (iV x))]) hl_x4 (wk_of (by kernel_rfl) (by kernel_rfl)) (fun x4 o_x4 h hy_x4 => ?_)
    unfold spec_HeightFor_b1 at h
    refine k_seq ?_
    refine k_sreg (r_gq [(0, .p (.string a0)), (2, .box [rI 0, rI 0]), (4, .p (iV x4)), (19, .p (.bool (decide (x4 > 50))))] [] trivial) ?_
    refine kc (decide (x4 > 50)) (fun hc5_5 => ?_) (fun hc5_5 => ?_)
    ·replace h := ite_t hc5_5 h
     refine k_skip ?_
     refine q_n ?_
     refine k_seq ?_
     refine k_block ?_
     replace h := bs h
     obtain ⟨v7, hv7, h⟩ := h
     refine k_sreg (r_gq [(0, .p (.string a0)), (2, .box [rI 0, rI 0]), (4, .p (iV x4)), (5, .box (eRt v7.1))] [(1, {call := some (none, [.p (vRt v7.1), .p (.bool v7.2)], true)})] (A1 (wk_spec_raMake hv7))) ?_
     replace h := bs h
     obtain ⟨v8, hv8, h⟩ := h
     replace h := bs h
     obtain ⟨v9, hv9, h⟩ := h
     refine k_sreg (r_gq [(0, .p (.string a0)), (2, .box [rI 0, rI 0]), (4, .p (iV x4)), (5, .box (eRt v7.1)), (7, .p (.string v9.1)), (8, .p (.bool v9.2))] [(1, {call := some (none, [.ov false [.sl (some 78) (v8.map ePt)]], true)}), (4, {call := some (some [.d false [.sl none (v8.map ePt)], wI (a0.size : Int)], [.p (.string v9.1), .p (.bool v9.2)], true)})] (A4 (wk_spec_knTent hv8) (show List.all [.ov false [.sl (some 78) (v8.map ePt)]] simpleR = true from (sa_o (wnR1 (wnL_enc (wn_P (wn_P wn_I wn_I) (wn_P wn_I wn_I))) rfl) rfl)) (show ([.d false [.sl none (eraL (v8.map ePt))], wI (a0.size : Int)] : List Arg) = [.d false [.sl none (v8.map ePt)], wI (a0.size : Int)] from (by simp only [eraL_enc (h := ePt) (era_P (era_P er_I er_I) (era_P er_I er_I))])) (wk_spec_knWord hv9))) ?_
     replace h := bs h
     obtain ⟨w11, hw11, h⟩ := h
     refine k_sreg (l1 := [(0, .p (.string a0)), (2, .box [rI 0, rI 0]), (4, .p (iV x4)), (5, .box (eRt v7.1)), (41, .p (.bool w11))]) ?_ ?_
     ·clear h
      rcases ft v9.2 with ha2 | ha2
      ·replace hw11 := ite_t ha2 hw11
       replace hw11 := bs hw11
       obtain ⟨v10, hv10, hw11⟩ := hw11
       have hw11 := oi hw11
       subst hw11
       exact (r_gq [(0, .p (.string a0)), (2, .box [rI 0, rI 0]), (4, .p (iV x4)), (5, .box (eRt v7.1)), (41, .p (.bool (decide (v10 ≤ 0))))] [(2, gT), (3, gT), (4, {g := some true, call := some (none, [.p (iV v10)], true)}), (5, gT), (6, bT)] (A6 ha2 ha2 ha2 (wk_spec_knCompare hv10) ha2 ha2))
      ·replace hw11 := ite_f ha2 hw11
       have hw11 := oi hw11
       subst hw11
       exact (r_gq [(0, .p (.string a0)), (2, .box [rI 0, rI 0]), (4, .p (iV x4)), (5, .box (eRt v7.1)), (41, .p (.bool false))] [(2, gF), (3, gF), (4, gF), (5, gF), (6, bF)] (A5 ha2 ha2 ha2 ha2 ha2))
     ·refine kc w11 (fun hc6_11 => ?_) (fun hc6_11 => ?_)
      ·replace h := ite_t hc6_11 h
       refine k_sreg (r_gq [(2, .box (eRt v7.1)), (3, .p (.bool true))] [] trivial) ?_
       refine k_ret ?_
       refine b_r ?_
       refine q_r ?_
       refine lq_r ?_
       refine b_r ?_
       refine q_r ?_
       have hyy := hy_x4 _ (oi h).symm
       subst hyy
       have h := hk_x4
       dsimp only [Sum.elim] at h
       obtain rfl := oi h
       exact er [(.p (vRt v7.1), 2), (.p (.bool true), 3)]
      ·replace h := ite_f hc6_11 h
       refine k_skip ?_
       refine b_n ?_
       refine q_n ?_
       refine k_reg (r_gq [(0, .p (.string a0)), (2, .box [rI 0, rI 0]), (4, .p (iV (w64 (x4 - 1))))] [] trivial) ?_
       exact lqn (w64 (x4 - 1)) h
    ·replace h := ite_f hc5_5 h
     refine k_exit ?_
     refine q_x ?_
     refine lq_x ?_
     refine b_x ?_
     have hyy := hy_x4 _ (oi h).symm
     subst hyy
     have h := hk_x4
     dsimp only [Sum.elim] at h
     refine q_n ?_
     exact jx () h
theorem wk_impl_TentOf {a0 : Qr}  {r : ((List Qp) × Bool)} (h : impl_TentOf a0 = some r) : Meets Tryz.prog 22 [.v (vRt a0)] { vals := [.ov false [.sl (some 78) (r.1.map ePt)], .p (.bool r.2)] } := by
 refine mo Tryz.func22 [(0, .p (vRt a0))] ?_
 unfold impl_TentOf at h
 refine k_sreg (r_gq [(1, .box (eRt a0))] [] trivial) ?_
 replace h := bs h
 obtain ⟨v1, hv1, h⟩ := h
 refine k_sreg (r_gq [(1, .box (eRt a0)), (4, .ov false [.sl (some 78) (v1.map ePt)])] [(1, {call := some (none, [.ov false [.sl (some 78) (v1.map ePt)]], true)})] (A2 (wk_impl_tentMap hv1) (show List.all [.ov false [.sl (some 78) (v1.map ePt)]] simpleR = true from (sa_o (wnR1 (wnL_enc (wn_P (wn_P wn_I wn_I) (wn_P wn_I wn_I))) rfl) rfl)))) ?_
 refine k_seq ?_
 replace h := bs h
 obtain ⟨v2, hv2, h⟩ := h
 refine k_sreg (l1 := [(4, .ov false [.sl (some 78) (v1.map ePt)]), (14, .p (.bool ((!v2) || (a0.1 == 0))))]) ?_ ?_
 ·rcases ft (!v2) with ha0 | ha0
  ·exact RegOk.of_eq (l2 := [(4, .ov false [.sl (some 78) (v1.map ePt)]), (14, .p (.bool ((!v2) || (a0.1 == 0))))]) (r_gq [(4, .ov false [.sl (some 78) (v1.map ePt)]), (14, .p (.bool true))] [(1, {call := some (some [.d false [.sl none (v1.map ePt)]], [.p (.bool v2)], true)}), (4, gT), (5, gT), (6, gT), (7, bT)] (A6 (show ([.d false [.sl none (eraL (v1.map ePt))]] : List Arg) = [.d false [.sl none (v1.map ePt)]] from (by simp only [eraL_enc (h := ePt) (era_P (era_P er_I er_I) (era_P er_I er_I))])) (wk_impl_isMap hv2) ha0 ha0 ha0 ha0)) (by simp [ha0])
  ·exact RegOk.of_eq (l2 := [(4, .ov false [.sl (some 78) (v1.map ePt)]), (14, .p (.bool ((!v2) || (a0.1 == 0))))]) (r_gq [(4, .ov false [.sl (some 78) (v1.map ePt)]), (14, .p (.bool (a0.1 == 0)))] [(1, {call := some (some [.d false [.sl none (v1.map ePt)]], [.p (.bool v2)], true)}), (4, gF), (5, gF), (6, gF), (7, bF)] (A6 (show ([.d false [.sl none (eraL (v1.map ePt))]] : List Arg) = [.d false [.sl none (v1.map ePt)]] from (by simp only [eraL_enc (h := ePt) (era_P (era_P er_I er_I) (era_P er_I er_I))])) (wk_impl_isMap hv2) ha0 ha0 ha0 ha0)) (by simp [ha0])
 ·refine kc ((!v2) || (a0.1 == 0)) (fun hc2_2 => ?_) (fun hc2_2 => ?_)
  ·replace h := ite_t hc2_2 h
   refine k_sreg (r_gq [(2, .ov false [.sl (some 78) []]), (3, .p (.bool false))] [] trivial) ?_
   refine k_ret ?_
   refine q_r ?_
   obtain rfl := oi h
   exact er [(.ov false [.sl (some 78) []], 2), (.p (.bool false), 3)]
  ·replace h := ite_f hc2_2 h
   refine k_skip ?_
   refine q_n ?_
   refine k_sreg (r_gq [(2, .ov false [.sl (some 78) (v1.map ePt)]), (3, .p (.bool true))] [] trivial) ?_
   refine k_ret ?_
   obtain rfl := oi h
   exact er [(.ov false [.sl (some 78) (v1.map ePt)], 2), (.p (.bool true), 3)]
theorem wk_spec_TentOf {a0 : Qr}  {r : ((List Qp) × Bool)} (h : spec_TentOf a0 = some r) : Meets Tryz.prog 23 [.v (vRt a0)] { vals := [.ov false [.sl (some 78) (r.1.map ePt)], .p (.bool r.2)] } := by
 refine mo Tryz.func23 [(0, .p (vRt a0))] ?_
 unfold spec_TentOf at h
 refine k_sreg (r_gq [(1, .box (eRt a0))] [] trivial) ?_
 refine k_seq ?_
 replace h := bs h
 obtain ⟨v1, hv1, h⟩ := h
 refine k_sreg (l1 := [(1, .box (eRt a0)), (11, .p (.bool ((!v1) || (a0.1 == 0))))]) ?_ ?_
 ·rcases ft (!v1) with ha0 | ha0
  ·exact RegOk.of_eq (l2 := [(1, .box (eRt a0)), (11, .p (.bool ((!v1) || (a0.1 == 0))))]) (r_gq [(1, .box (eRt a0)), (11, .p (.bool true))] [(1, {call := some (none, [.p (.bool v1)], true)}), (4, gT), (5, gT), (6, gT), (7, bT)] (A5 (wk_spec_imCoord hv1) ha0 ha0 ha0 ha0)) (by simp [ha0])
  ·exact RegOk.of_eq (l2 := [(1, .box (eRt a0)), (11, .p (.bool ((!v1) || (a0.1 == 0))))]) (r_gq [(1, .box (eRt a0)), (11, .p (.bool (a0.1 == 0)))] [(1, {call := some (none, [.p (.bool v1)], true)}), (4, gF), (5, gF), (6, gF), (7, bF)] (A5 (wk_spec_imCoord hv1) ha0 ha0 ha0 ha0)) (by simp [ha0])
 ·refine kc ((!v1) || (a0.1 == 0)) (fun hc2_1 => ?_) (fun hc2_1 => ?_)
  ·replace h := ite_t hc2_1 h
   refine k_sreg (r_gq [(2, .ov false [.sl (some 78) []]), (3, .p (.bool false))] [] trivial) ?_
   refine k_ret ?_
   refine q_r ?_
   obtain rfl := oi h
   exact er [(.ov false [.sl (some 78) []], 2), (.p (.bool false), 3)]
  ·replace h := ite_f hc2_1 h
   refine k_skip ?_
   refine q_n ?_
   replace h := bs h
   obtain ⟨v3, hv3, h⟩ := h
   refine k_sreg (r_gq [(2, .ov false [.sl (some 78) (v3.map ePt)]), (3, .p (.bool true))] [(1, {call := some (none, [.ov false [.sl (some 78) (v3.map ePt)]], true)})] (A2 (wk_spec_knTent hv3) (show List.all [.ov false [.sl (some 78) (v3.map ePt)]] simpleR = true from (sa_o (wnR1 (wnL_enc (wn_P (wn_P wn_I wn_I) (wn_P wn_I wn_I))) rfl) rfl)))) ?_
   refine k_ret ?_
   obtain rfl := oi h
   exact er [(.ov false [.sl (some 78) (v3.map ePt)], 2), (.p (.bool true), 3)]
theorem wk_impl_CompareKneading {a0 : ByteArray} {a1 : ByteArray}  {r : (Int × Bool)} (h : impl_CompareKneading a0 a1 = some r) : Meets Tryz.prog 24 [.v (.string a0), .v (.string a1)] { vals := [.p (iV r.1), .p (.bool r.2)] } := by
 refine mo Tryz.func24 [(0, .p (.string a0)), (1, .p (.string a1))] ?_
 unfold impl_CompareKneading at h
 refine k_sreg (r_gq [(0, .p (.string a0)), (1, .p (.string a1))] [] trivial) ?_
 refine k_seq ?_
 replace h := bs h
 obtain ⟨v1, hv1, h⟩ := h
 replace h := bs h
 obtain ⟨w3, hw3, h⟩ := h
 refine k_sreg (l1 := [(0, .p (.string a0)), (1, .p (.string a1)), (20, .p (.bool w3))]) ?_ ?_
 ·clear h
  rcases ft (!v1) with ha0 | ha0
  ·replace hw3 := ite_t ha0 hw3
   have hw3 := oi hw3
   subst hw3
   exact (r_gq [(0, .p (.string a0)), (1, .p (.string a1)), (20, .p (.bool true))] [(1, {call := some (none, [.p (.bool v1)], true)}), (4, gT), (5, gT), (6, gT), (7, bT), (9, gT), (10, gT), (11, gT), (12, gT), (13, gT), (14, bT)] (B6 (wk_impl_isKneadingWord hv1) ha0 ha0 ha0 ha0 (show true = true from rfl) (A5 (show true = true from rfl) (show true = true from rfl) (show true = true from rfl) (show true = true from rfl) (show true = true from rfl))))
  ·replace hw3 := ite_f ha0 hw3
   replace hw3 := bs hw3
   obtain ⟨v2, hv2, hw3⟩ := hw3
   rcases ft (!v2) with ha1 | ha1
   ·replace hw3 := ite_t ha1 hw3
    have hw3 := oi hw3
    subst hw3
    exact (r_gq [(0, .p (.string a0)), (1, .p (.string a1)), (20, .p (.bool true))] [(1, {call := some (none, [.p (.bool v1)], true)}), (4, gF), (5, {g := some false, call := some (none, [.p (.bool v2)], true)}), (6, gF), (7, bF), (9, gT), (10, gT), (11, gT), (12, gT), (13, gT), (14, bT)] (B6 (wk_impl_isKneadingWord hv1) ha0 ha0 (wk_impl_isKneadingWord hv2) ha0 ha0 (A6 ha1 ha1 ha1 ha1 ha1 ha1)))
   ·replace hw3 := ite_f ha1 hw3
    have hw3 := oi hw3
    subst hw3
    exact (r_gq [(0, .p (.string a0)), (1, .p (.string a1)), (20, .p (.bool ((a0.size : Int) != (a1.size : Int))))] [(1, {call := some (none, [.p (.bool v1)], true)}), (4, gF), (5, {g := some false, call := some (none, [.p (.bool v2)], true)}), (6, gF), (7, bF), (9, gF), (10, gF), (11, gF), (12, gF), (13, gF), (14, bF)] (B6 (wk_impl_isKneadingWord hv1) ha0 ha0 (wk_impl_isKneadingWord hv2) ha0 ha0 (A6 ha1 ha1 ha1 ha1 ha1 ha1)))
 ·refine kc w3 (fun hc2_3 => ?_) (fun hc2_3 => ?_)
  ·replace h := ite_t hc2_3 h
   refine k_sreg (r_gq [(4, .p (iV 0)), (5, .p (.bool false))] [] trivial) ?_
   refine k_ret ?_
   refine q_r ?_
   obtain rfl := oi h
   exact er [(.p (iV 0), 4), (.p (.bool false), 5)]
  ·replace h := ite_f hc2_3 h
   refine k_skip ?_
   refine q_n ?_
   replace h := bs h
   obtain ⟨v5, hv5, h⟩ := h
   refine k_sreg (r_gq [(4, .p (iV v5)), (5, .p (.bool true))] [(2, {call := some (none, [.p (iV v5)], true)})] (A1 (wk_impl_compareKneading hv5))) ?_
   refine k_ret ?_
   obtain rfl := oi h
   exact er [(.p (iV v5), 4), (.p (.bool true), 5)]
theorem wk_laws_pSameMap {a0 : (List Qp)} {a1 : (List Qp)}  {r : Bool} (h : laws_pSameMap a0 a1 = some r) : Meets Tryz.prog 25 [.d false [.sl none (a0.map ePt)], .d false [.sl none (a1.map ePt)]] { vals := [.p (.bool r)] } := by
 refine mo Tryz.func25 [(0, .d false [.sl none (a0.map ePt)]), (1, .d false [.sl none (a1.map ePt)])] ?_
 unfold laws_pSameMap at h
 refine k_sreg (r_gq [(0, .d false [.sl none (a0.map ePt)]), (1, .d false [.sl none (a1.map ePt)])] [] trivial) ?_
 refine k_seq ?_
 refine k_sreg (r_gq [(0, .d false [.sl none (a0.map ePt)]), (1, .d false [.sl none (a1.map ePt)]), (10, .p (.bool ((a0.length : Int) != (a1.length : Int))))] [(1, {n := some a0.length}), (3, {n := some a1.length})] (A2 (show (a0.map ePt).length = a0.length from (List.length_map ..)) (show (a1.map ePt).length = a1.length from (List.length_map ..)))) ?_
 refine kc ((a0.length : Int) != (a1.length : Int)) (fun hc2_0 => ?_) (fun hc2_0 => ?_)
 ·replace h := ite_t hc2_0 h
  refine k_sreg (r_gq [(4, .p (.bool false))] [] trivial) ?_
  refine k_ret ?_
  refine q_r ?_
  obtain rfl := oi h
  exact er [(.p (.bool false), 4)]
 ·replace h := ite_f hc2_0 h
  refine k_skip ?_
  refine q_n ?_
  refine k_join (J := fun (x : Unit) => []) (K := fun x => laws_pSameMap_k1 x = some r) (fun x2 h => ?_) ?_
  ·unfold laws_pSameMap_k1 at h
   refine k_sreg (r_gq [(4, .p (.bool true))] [] trivial) ?_
   refine k_ret ?_
   obtain rfl := oi h
   exact er [(.p (.bool true), 4)]
  ·refine k_sreg (r_gq [(0, .d false [.sl none (a0.map ePt)]), (1, .d false [.sl none (a1.map ePt)]), (12, .p (iV (a0.length : Int))), (13, .p (iV 0))] [(1, {n := some a0.length})] (A1 (show (a0.map ePt).length = a0.length from (List.length_map ..)))) ?_
   refine k_block ?_
   obtain ⟨y4, hl_x3, hk_x3⟩ := bs h
   clear h
   refine k_loop (J := fun (x : Int) => [(0, .d false [.sl none (a0.map ePt)]), (1, .d false [.sl none (a1.map ePt)]), (12, .p (iV (a0.length : Int))), (13, .p (iV x))]) hl_x3 (wk_of (by kernel_rfl) (by kernel_rfl)) (fun x3 o_x3 h hy_x3 => ?_)
   unfold laws_pSameMap_b1 at h
   refine k_sreg (r_gq [(0, .d false [.sl none (a0.map ePt)]), (1, .d false [.sl none (a1.map ePt)]), (12, .p (iV (a0.length : Int))), (13, .p (iV x3)), (14, .p (.bool (decide (x3 < (a0.length : Int)))))] [] trivial) ?_
   refine k_seq ?_
   refine kc (decide (x3 < (a0.length : Int))) (fun hc5_4 => ?_) (fun hc5_4 => ?_)
   ·replace h := ite_t hc5_4 h
    refine k_skip ?_
    refine q_n ?_
    refine k_seq ?_
    refine k_block ?_
    refine k_sreg (r_gq [(0, .d false [.sl none (a0.map ePt)]), (1, .d false [.sl none (a1.map ePt)]), (5, .p (iV x3)), (12, .p (iV (a0.length : Int))), (13, .p (iV x3))] [] trivial) ?_
    replace h := bs h
    obtain ⟨v6, hv6, h⟩ := h
    replace h := bs h
    obtain ⟨v7, hv7, h⟩ := h
    refine k_sreg (r_dq Tryz_mixed 8 [] [(0, .d false [.sl none (a0.map ePt)]), (1, .d false [.sl none (a1.map ePt)]), (12, .p (iV (a0.length : Int))), (13, .p (iV x3)), (24, .p (.bool (!(((v6.1.1 == v7.1.1) && (v6.1.2 == v7.1.2)) && ((v6.2.1 == v7.2.1) && (v6.2.2 == v7.2.2))))))] [(2, {row := some (ePt v6)}), (6, {row := some (ePt v7)}), (8, {pv := some (.bool (!(((v6.1.1 == v7.1.1) && (v6.1.2 == v7.1.2)) && ((v6.2.1 == v7.2.1) && (v6.2.2 == v7.2.2)))))})] (A5 (idxO_some hv6).1 (map_get ePt (idxO_some hv6).2) (idxO_some hv7).1 (map_get ePt (idxO_some hv7).2) (show PureAt Tryz.prog (.binOp .neq 78 (.tmp 19) (.tmp 23) 78) [vPt v6, vPt v7] (.bool (!(((v6.1.1 == v7.1.1) && (v6.1.2 == v7.1.2)) && ((v6.2.1 == v7.2.1) && (v6.2.2 == v7.2.2))))) from (pure_neq4 (by kernel_rfl))))) ?_
    refine kc (!(((v6.1.1 == v7.1.1) && (v6.1.2 == v7.1.2)) && ((v6.2.1 == v7.2.1) && (v6.2.2 == v7.2.2)))) (fun hc6_7 => ?_) (fun hc6_7 => ?_)
    ·replace h := ite_t hc6_7 h
     refine k_sreg (r_gq [(4, .p (.bool false))] [] trivial) ?_
     refine k_ret ?_
     refine b_r ?_
     refine q_r ?_
     refine lq_r ?_
     refine b_r ?_
     refine q_r ?_
     have hyy := hy_x3 _ (oi h).symm
     subst hyy
     have h := hk_x3
     dsimp only [Sum.elim] at h
     obtain rfl := oi h
     exact er [(.p (.bool false), 4)]
    ·replace h := ite_f hc6_7 h
     refine k_skip ?_
     refine b_n ?_
     refine q_n ?_
     refine k_reg (r_gq [(0, .d false [.sl none (a0.map ePt)]), (1, .d false [.sl none (a1.map ePt)]), (12, .p (iV (a0.length : Int))), (13, .p (iV (w64 (x3 + 1))))] [] trivial) ?_
     exact lqn (w64 (x3 + 1)) h
   ·replace h := ite_f hc5_4 h
    refine k_exit ?_
    refine q_x ?_
    refine lq_x ?_
    refine b_x ?_
    have hyy := hy_x3 _ (oi h).symm
    subst hyy
    have h := hk_x3
    dsimp only [Sum.elim] at h
    refine q_n ?_
    exact jx () h
theorem wk_spec_l1Cur_among4 {a0 : Cu}  {r : (Qr × Cu)} (h : spec_l1Cur_among4 a0 = some r) : MeetsB Tryz.prog 56 (.box (eCu a0)) [] [.p (vRt r.1)] (.box (eCu r.2)) := by
 refine mob Tryz.func56 [(0, .box (eCu a0))] ?_
 unfold spec_l1Cur_among4 at h
 refine k_sreg (r_gq [(0, .box (eCu a0)), (2, .box [rI 0, rI 0])] [] trivial) ?_
 refine k_seq ?_
 replace h := bs h
 obtain ⟨v1, hv1, h⟩ := h
 refine k_sreg (r_gq [(0, .box (eCu v1.2)), (2, .box [rI 0, rI 0]), (4, .p (iV v1.1))] [(1, {lend := some (none, [.p (iV v1.1)], .box (eCu v1.2), false)})] (A1 (wk_spec_l1Cur_pick hv1))) ?_
 refine k_block ?_
 refine k_sreg (r_gq [(0, .box (eCu v1.2)), (2, .box [rI 0, rI 0]), (4, .p (iV v1.1)), (5, .p (.bool (v1.1 == 0)))] [] trivial) ?_
 refine kc (v1.1 == 0) (fun hc3_1 => ?_) (fun hc3_1 => ?_)
 ·replace h := ite_t hc3_1 h
  replace h := bs h
  obtain ⟨v3, hv3, h⟩ := h
  refine k_sreg (r_gq [(0, .box (eCu v3.2)), (2, .box (eRt v3.1))] [(1, {lend := some (none, [.p (vRt v3.1)], .box (eCu v3.2), false)})] (A1 (wk_spec_l1Cur_anyRat hv3))) ?_
  refine k_ret ?_
  refine b_r ?_
  refine q_r ?_
  obtain rfl := oi h
  exact ebr [(.p (vRt v3.1), 2)]
 ·replace h := ite_f hc3_1 h
  refine k_sreg (r_gq [(0, .box (eCu v1.2)), (2, .box [rI 0, rI 0]), (9, .p (.bool (v1.1 == 1)))] [] trivial) ?_
  refine kc (v1.1 == 1) (fun hc3_3 => ?_) (fun hc3_3 => ?_)
  ·replace h := ite_t hc3_3 h
   replace h := bs h
   obtain ⟨v5, hv5, h⟩ := h
   replace h := bs h
   obtain ⟨v6, hv6, h⟩ := h
   refine k_sreg (r_gq [(0, .box (eCu v6.2)), (2, .box [rI v5.1, rI v6.1])] [(1, {lend := some (none, [.p (iV v5.1)], .box (eCu v5.2), false)}), (4, {lend := some (some [.d false [.sl none (([100, 101, 1]).map eI)]], [.p (iV v6.1)], .box (eCu v6.2), false), fix := some (14, .d false [.sl none (([100, 101, 1]).map eI)])})] (A4 (wk_spec_l1Cur_pick hv5) (show ([.d false [.sl none (eraL (([100, 101, 1]).map eI))]] : List Arg) = [.d false [.sl none (([100, 101, 1]).map eI)]] from (by simp only [eraL_enc (h := eI) er_I])) (wk_spec_l1Cur_among hv6) (show (SV.d false (eraR [.sl (some 3) (([100, 101, 1]).map eI)]) : SV) = .d false [.sl none (([100, 101, 1]).map eI)] from (congrArg (fun z => SV.d false z) (erc_sl (eraL_enc er_I) rfl))))) ?_
   refine k_ret ?_
   refine b_r ?_
   refine q_r ?_
   obtain rfl := oi h
   exact ebr [(.p (.agg #[.int .i64 v5.1, .int .i64 v6.1]), 2)]
  ·replace h := ite_f hc3_3 h
   refine k_skip ?_
   refine b_n ?_
   refine q_n ?_
   replace h := bs h
   obtain ⟨v7, hv7, h⟩ := h
   refine k_sreg (r_gq [(0, .box (eCu v7.2)), (2, .box (eRt v7.1))] [(1, {lend := some (none, [.p (vRt v7.1)], .box (eCu v7.2), false)})] (A1 (wk_spec_l1Cur_among3 hv7))) ?_
   refine k_ret ?_
   obtain rfl := oi h
   exact ebr [(.p (vRt v7.1), 2)]
theorem wk_spec_DrawTentOf {a0 : (List Int)}  {r : Qr} (h : spec_DrawTentOf a0 = some r) : Meets Tryz.prog 26 [.d false [.sl none (a0.map (eU .u8))]] { vals := [.p (vRt r)] } := by
 refine mo Tryz.func26 [(0, .d false [.sl none (a0.map (eU .u8))])] ?_
 unfold spec_DrawTentOf at h
 refine k_sreg (r_gq [(0, .d false [.sl none (a0.map (eU .u8))]), (2, .box [rI 0, rI 0])] [] trivial) ?_
 refine k_sreg (r_gq [(2, .box [rI 0, rI 0]), (3, .addr 6 [(0, 0)]), (6, .box (eCu (a0, 0, 0)))] [] trivial) ?_
 replace h := bs h
 obtain ⟨v1, hv1, h⟩ := h
 refine k_sreg (r_gq [(2, .box (eRt v1.1))] [(1, {lend := some (none, [.p (vRt v1.1)], .box (eCu v1.2), false)})] (A1 (wk_spec_l1Cur_among4 hv1))) ?_
 refine k_ret ?_
 obtain rfl := oi h
 exact er [(.p (vRt v1.1), 2)]
end Go.PV

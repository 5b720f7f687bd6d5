/-
  Walks through the functions that the law reaches: each answers as its plain definition does.
  Conditions: none.
-/
import Derived.KernelRfl
import Derived.Shelf.LaysM
import Derived.Shelf.Strconv.Itoa3
import Derived.Test.YtlajjggemadajaaDoorDf
import Derived.Test.YtlajjggemadajaaDoorProg
open Go Go.PV Go.Proofs
set_option linter.all false
namespace Go.PV
attribute [local irreducible] pvC pvL pvD sOp seqQ blockQ Meets MeetsB Ok OkL RegOk agree endQ seqL blockL loopQ endL endLB
theorem Tryd_mixed : Tryd.prog.follows .mixedOrders = true := by kernel_rfl
theorem Tryd_und3 : Tryd.prog.underlying 3 = some (.int .i64) := by kernel_rfl
theorem Tryd_und5 : Tryd.prog.underlying 5 = some (.int .u8) := by kernel_rfl
theorem wk_laws_toRat {a0 : Qr}  {r : Qr} (h : laws_toRat a0 = some r) : Meets Tryd.prog 11 [.v (vRt a0)] { vals := [.p (vRt r)] } := by
 refine mo Tryd.func11 [(0, .p (vRt a0))] ?_
 unfold laws_toRat at h
 refine k_sreg (r_gq [(1, .box (eRt a0)), (2, .box [rI 0, rI 0])] [] trivial) ?_
 refine k_sreg (r_gq [(1, .box (eRt a0)), (2, .box [rI 0, rI 0]), (3, .box [rI 0, rI 0])] [] trivial) ?_
 refine k_sreg (r_gq [(1, .box (eRt a0)), (2, .box [rI 0, rI 0]), (3, .box [rI a0.1, rI 0])] [] trivial) ?_
 refine k_sreg (r_gq [(2, .box [rI 0, rI 0]), (3, .box (eRt a0))] [] trivial) ?_
 refine k_sreg (r_gq [(2, .box (eRt a0))] [] trivial) ?_
 refine k_ret ?_
 obtain rfl := oi h
 exact er [(.p (vRt a0), 2)]
theorem wk_spec_l1In {a0 : Int} {a1 : Int} {a2 : Int}  {r : Bool} (h : spec_l1In a0 a1 a2 = some r) : Meets Tryd.prog 26 [wI a0, wI a1, wI a2] { vals := [.p (.bool r)] } := by
 refine mo Tryd.func26 [(0, .p (iV a0)), (1, .p (iV a1)), (2, .p (iV a2))] ?_
 unfold spec_l1In at h
 refine k_sreg (r_gq [(0, .p (iV a0)), (1, .p (iV a1)), (2, .p (iV a2))] [] trivial) ?_
 refine k_sreg (l1 := [(6, .p (.bool ((decide (a0 ≥ a1)) && (decide (a0 ≤ a2)))))]) ?_ ?_
 ·rcases ft (decide (a0 ≥ a1)) with ha0 | ha0
  ·exact RegOk.of_eq (l2 := [(6, .p (.bool ((decide (a0 ≥ a1)) && (decide (a0 ≤ a2)))))]) (r_gq [(6, .p (.bool (decide (a0 ≤ a2))))] [(4, gT), (5, gT), (6, gT), (7, bT)] (A4 ha0 ha0 ha0 ha0)) (by simp [ha0])
  ·exact RegOk.of_eq (l2 := [(6, .p (.bool ((decide (a0 ≥ a1)) && (decide (a0 ≤ a2)))))]) (r_gq [(6, .p (.bool false))] [(4, gF), (5, gF), (6, gF), (7, bF)] (A4 ha0 ha0 ha0 ha0)) (by simp [ha0])
 ·refine k_ret ?_
  obtain rfl := oi h
  exact er [(.p (.bool ((decide (a0 ≥ a1)) && (decide (a0 ≤ a2)))), 6)]
theorem wk_spec_l1Most {a0 : Int} {a1 : Int}  {r : Int} (h : spec_l1Most a0 a1 = some r) : Meets Tryd.prog 55 [wI a0, wI a1] { vals := [.p (iV r)] } := by
 refine mo Tryd.func55 [(0, .p (iV a0)), (1, .p (iV a1))] ?_
 unfold spec_l1Most at h
 refine k_sreg (r_gq [(0, .p (iV a0)), (1, .p (iV a1))] [] trivial) ?_
 refine k_seq ?_
 refine k_sreg (r_gq [(0, .p (iV a0)), (1, .p (iV a1)), (7, .p (.bool (decide (a0 > a1))))] [] trivial) ?_
 refine kc (decide (a0 > a1)) (fun hc2_0 => ?_) (fun hc2_0 => ?_)
 ·replace h := ite_t hc2_0 h
  refine k_sreg (r_gq [(4, .p (iV a0))] [] trivial) ?_
  refine k_ret ?_
  refine q_r ?_
  obtain rfl := oi h
  exact er [(.p (iV a0), 4)]
 ·replace h := ite_f hc2_0 h
  refine k_skip ?_
  refine q_n ?_
  refine k_sreg (r_gq [(4, .p (iV a1))] [] trivial) ?_
  refine k_ret ?_
  obtain rfl := oi h
  exact er [(.p (iV a1), 4)]
theorem wk_spec_l1Abs {a0 : Int}  {r : Int} (h : spec_l1Abs a0 = some r) : Meets Tryd.prog 43 [wI a0] { vals := [.p (iV r)] } := by
 refine mo Tryd.func43 [(0, .p (iV a0))] ?_
 unfold spec_l1Abs at h
 refine k_sreg (r_gq [(0, .p (iV a0))] [] trivial) ?_
 replace h := bs h
 obtain ⟨v1, hv1, h⟩ := h
 refine k_sreg (r_gq [(2, .p (iV v1))] [(3, {call := some (none, [.p (iV v1)], true)})] (A1 (wk_spec_l1Most hv1))) ?_
 refine k_ret ?_
 obtain rfl := oi h
 exact er [(.p (iV v1), 2)]
theorem wk_spec_raCommon {a0 : Int} {a1 : Int}  {r : Int} (h : spec_raCommon a0 a1 = some r) : Meets Tryd.prog 42 [wI a0, wI a1] { vals := [.p (iV r)] } := by
 refine mo Tryd.func42 [(0, .p (iV a0)), (1, .p (iV a1))] ?_
 unfold spec_raCommon at h
 refine k_sreg (r_gq [(0, .p (iV a0)), (1, .p (iV a1))] [] trivial) ?_
 refine k_join (J := fun (x : Int) => [(0, .p (iV x))]) (K := fun x => spec_raCommon_k1 x = some r) (fun x1 h => ?_) ?_
 ·unfold spec_raCommon_k1 at h
  refine k_sreg (r_gq [(4, .p (iV x1))] [] trivial) ?_
  refine k_ret ?_
  obtain rfl := oi h
  exact er [(.p (iV x1), 4)]
 ·refine k_block ?_
  obtain ⟨y3, hl_x2, hk_x2⟩ := bs h
  clear h
  refine k_loop (J := fun (x : Qr) => [(0, .p (iV x.1)), (1, .p (iV x.2))]) hl_x2 (wk_of (by kernel_rfl) (by kernel_rfl)) (fun x2 o_x2 h hy_x2 => ?_)
  unfold spec_raCommon_b1 at h
  refine k_seq ?_
  refine k_sreg (r_gq [(0, .p (iV x2.1)), (1, .p (iV x2.2)), (7, .p (.bool (decide (x2.2 > 0))))] [] trivial) ?_
  refine kc (decide (x2.2 > 0)) (fun hc5_3 => ?_) (fun hc5_3 => ?_)
  ·replace h := ite_t hc5_3 h
   refine k_skip ?_
   refine q_n ?_
   refine k_block ?_
   replace h := bs h
   obtain ⟨u5, hu5, h⟩ := h
   refine k_sreg (r_gq [(1, .p (iV x2.2)), (5, .p (iV (Int.tmod x2.1 x2.2)))] [] (A1 (guardO_some hu5))) ?_
   refine k_sreg (r_gq [(0, .p (iV x2.2)), (5, .p (iV (Int.tmod x2.1 x2.2)))] [] trivial) ?_
   refine k_reg (r_gq [(0, .p (iV x2.2)), (1, .p (iV (Int.tmod x2.1 x2.2)))] [] trivial) ?_
   refine b_n ?_
   exact lqn (x2.2, (Int.tmod x2.1 x2.2)) h
  ·replace h := ite_f hc5_3 h
   refine k_exit ?_
   refine q_x ?_
   refine lq_x ?_
   refine b_x ?_
   have hyy := hy_x2 _ (oi h).symm
   subst hyy
   have h := hk_x2
   refine q_n ?_
   exact jx x2.1 h
theorem wk_spec_raGood {a0 : Qr}  {r : Bool} (h : spec_raGood a0 = some r) : Meets Tryd.prog 20 [.v (vRt a0)] { vals := [.p (.bool r)] } := by
 refine mo Tryd.func20 [(0, .p (vRt a0))] ?_
 unfold spec_raGood at h
 refine k_sreg (r_gq [(1, .box (eRt a0))] [] trivial) ?_
 replace h := bs h
 obtain ⟨v1, hv1, h⟩ := h
 replace h := bs h
 obtain ⟨w5, hw5, h⟩ := h
 refine k_sreg (l1 := [(2, .p (.bool w5))]) ?_ ?_
 ·clear h
  rcases ft v1 with ha0 | ha0
  ·replace hw5 := ite_t ha0 hw5
   replace hw5 := bs hw5
   obtain ⟨v2, hv2, hw5⟩ := hw5
   rcases ft v2 with ha1 | ha1
   ·replace hw5 := ite_t ha1 hw5
    replace hw5 := bs hw5
    obtain ⟨v3, hv3, hw5⟩ := hw5
    replace hw5 := bs hw5
    obtain ⟨v4, hv4, hw5⟩ := hw5
    have hw5 := oi hw5
    subst hw5
    exact (r_dq Tryd_mixed 14 [] [(2, .p (.bool (v4 == 1)))] [(2, {call := some (none, [.p (.bool v1)], true)}), (4, gT), (5, gT), (6, {g := some true, call := some (none, [.p (.bool v2)], true)}), (7, bT), (9, gT), (10, gT), (11, {g := some true, call := some (none, [.p (iV v3)], true)}), (12, gT), (13, gT), (14, {g := some true, call := some (none, [.p (iV v4)], true)}), (15, gT), (16, bT)] (B6 (wk_spec_l1In hv1) ha0 ha0 ha0 (wk_spec_l1In hv2) ha0 (B6 ha1 ha1 ha1 (wk_spec_l1Abs hv3) ha1 ha1 (A4 ha1 (wk_spec_raCommon hv4) ha1 ha1))))
   ·replace hw5 := ite_f ha1 hw5
    have hw5 := oi hw5
    subst hw5
    exact (r_dq Tryd_mixed 14 [] [(2, .p (.bool false))] [(2, {call := some (none, [.p (.bool v1)], true)}), (4, gT), (5, gT), (6, {g := some true, call := some (none, [.p (.bool v2)], true)}), (7, bT), (9, gF), (10, gF), (11, gF), (12, gF), (13, gF), (14, gF), (15, gF), (16, bF)] (B6 (wk_spec_l1In hv1) ha0 ha0 ha0 (wk_spec_l1In hv2) ha0 (B6 ha1 ha1 ha1 ha1 ha1 ha1 (A2 ha1 ha1))))
  ·replace hw5 := ite_f ha0 hw5
   have hw5 := oi hw5
   subst hw5
   exact (r_dq Tryd_mixed 14 [] [(2, .p (.bool false))] [(2, {call := some (none, [.p (.bool v1)], true)}), (4, gF), (5, gF), (6, gF), (7, bF), (9, gF), (10, gF), (11, gF), (12, gF), (13, gF), (14, gF), (15, gF), (16, bF)] (B6 (wk_spec_l1In hv1) ha0 ha0 ha0 ha0 (show false = false from rfl) (B6 (show false = false from rfl) (show false = false from rfl) (show false = false from rfl) (show false = false from rfl) (show false = false from rfl) (show false = false from rfl) (A1 (show false = false from rfl)))))
 ·refine k_ret ?_
  obtain rfl := oi h
  exact er [(.p (.bool w5), 2)]
theorem wk_spec_l1Sign {a0 : Int}  {r : Int} (h : spec_l1Sign a0 = some r) : Meets Tryd.prog 44 [wI a0] { vals := [.p (iV r)] } := by
 refine mo Tryd.func44 [(0, .p (iV a0))] ?_
 unfold spec_l1Sign at h
 refine k_sreg (r_gq [(0, .p (iV a0))] [] trivial) ?_
 refine k_seq ?_
 refine k_block ?_
 refine k_sreg (r_gq [(0, .p (iV a0)), (3, .p (.bool (decide (a0 > 0))))] [] trivial) ?_
 refine kc (decide (a0 > 0)) (fun hc3_0 => ?_) (fun hc3_0 => ?_)
 ·replace h := ite_t hc3_0 h
  refine k_sreg (r_gq [(2, .p (iV 1))] [] trivial) ?_
  refine k_ret ?_
  refine b_r ?_
  refine q_r ?_
  obtain rfl := oi h
  exact er [(.p (iV 1), 2)]
 ·replace h := ite_f hc3_0 h
  refine k_sreg (r_gq [(6, .p (.bool (decide (a0 < 0))))] [] trivial) ?_
  refine kc (decide (a0 < 0)) (fun hc3_1 => ?_) (fun hc3_1 => ?_)
  ·replace h := ite_t hc3_1 h
   refine k_sreg (r_gq [(2, .p (iV (-1)))] [] trivial) ?_
   refine k_ret ?_
   refine b_r ?_
   refine q_r ?_
   obtain rfl := oi h
   exact er [(.p (iV (-1)), 2)]
  ·replace h := ite_f hc3_1 h
   refine k_skip ?_
   refine b_n ?_
   refine q_n ?_
   refine k_sreg (r_gq [(2, .p (iV 0))] [] trivial) ?_
   refine k_ret ?_
   obtain rfl := oi h
   exact er [(.p (iV 0), 2)]
theorem wk_spec_raCmp {a0 : Qr} {a1 : Qr}  {r : Int} (h : spec_raCmp a0 a1 = some r) : Meets Tryd.prog 21 [.v (vRt a0), .v (vRt a1)] { vals := [.p (iV r)] } := by
 refine mo Tryd.func21 [(0, .p (vRt a0)), (1, .p (vRt a1))] ?_
 unfold spec_raCmp at h
 refine k_sreg (r_gq [(2, .box (eRt a0)), (3, .box (eRt a1))] [] trivial) ?_
 replace h := bs h
 obtain ⟨v1, hv1, h⟩ := h
 refine k_sreg (r_gq [(4, .p (iV v1))] [(11, {call := some (none, [.p (iV v1)], true)})] (A1 (wk_spec_l1Sign hv1))) ?_
 refine k_ret ?_
 obtain rfl := oi h
 exact er [(.p (iV v1), 4)]
theorem wk_spec_l1Num_r {rc : (Int → Option ByteArray)} {a0 : Int} (hrc : ∀ x0 y, rc x0 = some y → Meets Tryd.prog 46 [wI x0] { vals := [.p (.string y)] }) {r : ByteArray} (h : spec_l1Num_r rc a0 = some r) : Meets Tryd.prog 46 [wI a0] { vals := [.p (.string r)] } := by
 refine mo Tryd.func46 [(0, .p (iV a0))] ?_
 unfold spec_l1Num_r at h
 refine k_sreg (r_gq [(0, .p (iV a0))] [] trivial) ?_
 refine k_seq ?_
 refine k_sreg (r_gq [(0, .p (iV a0)), (4, .p (.bool (decide (a0 < 10))))] [] trivial) ?_
 refine kc (decide (a0 < 10)) (fun hc2_0 => ?_) (fun hc2_0 => ?_)
 ·replace h := ite_t hc2_0 h
  refine k_sreg (r_gq [(2, .p (.string (byteB (IntKind.wrap .u8 (w64 (48 + a0))))))] [(2, {pv := some (.int .u8 (IntKind.wrap .u8 (w64 (48 + a0))))}), (4, {bts := some [UInt8.ofNat (Int.toNat (IntKind.wrap .u8 (w64 (48 + a0))))]})] (A2 (show PureAt Tryd.prog (.convert 3 5 (.tmp 6)) [.int .i64 (w64 (48 + a0))] (.int .u8 (IntKind.wrap .u8 (w64 (48 + a0)))) from (pure_conv Tryd_und3 Tryd_und5)) (show ([UInt8.ofNat (Int.toNat (IntKind.wrap .u8 (w64 (48 + a0))))] ≠ [] ∧ [[C.raw (.int .u8 (IntKind.wrap .u8 (w64 (48 + a0))))]] = [UInt8.ofNat (Int.toNat (IntKind.wrap .u8 (w64 (48 + a0))))].map fun c => [C.raw (.int .u8 (c.toNat : Int))]) from bts1))) ?_
  refine k_ret ?_
  refine q_r ?_
  obtain rfl := oi h
  exact er [(.p (.string (byteB (IntKind.wrap .u8 (w64 (48 + a0))))), 2)]
 ·replace h := ite_f hc2_0 h
  refine k_skip ?_
  refine q_n ?_
  replace h := bs h
  obtain ⟨v2, hv2, h⟩ := h
  replace h := bs h
  obtain ⟨u3, hu3, h⟩ := h
  refine k_sreg (r_dq Tryd_mixed 9 [] [(2, .p (.string (v2 ++ (byteB (IntKind.wrap .u8 (w64 (48 + (Int.tmod a0 10))))))))] [(2, {call := some (none, [.p (.string v2)], true)}), (6, {pv := some (.int .u8 (IntKind.wrap .u8 (w64 (48 + (Int.tmod a0 10)))))}), (8, {bts := some [UInt8.ofNat (Int.toNat (IntKind.wrap .u8 (w64 (48 + (Int.tmod a0 10)))))]})] (A6 (show 10 ≠ (0 : Int) from (by decide)) (hrc _ _ hv2) (show 10 ≠ (0 : Int) from (by decide)) (show PureAt Tryd.prog (.convert 3 5 (.tmp 15)) [.int .i64 (w64 (48 + (Int.tmod a0 10)))] (.int .u8 (IntKind.wrap .u8 (w64 (48 + (Int.tmod a0 10))))) from (pure_conv Tryd_und3 Tryd_und5)) (show ([UInt8.ofNat (Int.toNat (IntKind.wrap .u8 (w64 (48 + (Int.tmod a0 10)))))] ≠ [] ∧ [[C.raw (.int .u8 (IntKind.wrap .u8 (w64 (48 + (Int.tmod a0 10)))))]] = [UInt8.ofNat (Int.toNat (IntKind.wrap .u8 (w64 (48 + (Int.tmod a0 10)))))].map fun c => [C.raw (.int .u8 (c.toNat : Int))]) from bts1) (guardO_some hu3))) ?_
  refine k_ret ?_
  obtain rfl := oi h
  exact er [(.p (.string (v2 ++ (byteB (IntKind.wrap .u8 (w64 (48 + (Int.tmod a0 10))))))), 2)]
theorem wk_spec_l1Num_f : ∀ (k : Nat) {a0 : Int} {r : ByteArray} (h : spec_l1Num_f k a0 = some r), Meets Tryd.prog 46 [wI a0] { vals := [.p (.string r)] }
 | 0, _, _, h => by cases h
 | k + 1, _, _, h => wk_spec_l1Num_r (fun _ _ hy => wk_spec_l1Num_f k hy) h
theorem wk_spec_l1Num {a0 : Int} {r : ByteArray} (h : spec_l1Num a0 = some r) : Meets Tryd.prog 46 [wI a0] { vals := [.p (.string r)] } := by
 obtain ⟨k, hk⟩ := fuelO_some h
 exact wk_spec_l1Num_f k hk
theorem wk_spec_l1Int {a0 : Int}  {r : ByteArray} (h : spec_l1Int a0 = some r) : Meets Tryd.prog 45 [wI a0] { vals := [.p (.string r)] } := by
 refine mo Tryd.func45 [(0, .p (iV a0))] ?_
 unfold spec_l1Int at h
 refine k_sreg (r_gq [(0, .p (iV a0))] [] trivial) ?_
 refine k_seq ?_
 refine k_sreg (r_gq [(0, .p (iV a0)), (4, .p (.bool (decide (a0 < 0))))] [] trivial) ?_
 refine kc (decide (a0 < 0)) (fun hc2_0 => ?_) (fun hc2_0 => ?_)
 ·replace h := ite_t hc2_0 h
  replace h := bs h
  obtain ⟨v2, hv2, h⟩ := h
  replace h := bs h
  obtain ⟨u3, hu3, h⟩ := h
  refine k_sreg (r_gq [(2, .p (.string ((ByteArray.mk #[45]) ++ v2)))] [(2, {call := some (none, [.p (.string v2)], true)})] (A2 (wk_spec_l1Num hv2) (guardO_some hu3))) ?_
  refine k_ret ?_
  refine q_r ?_
  obtain rfl := oi h
  exact er [(.p (.string ((ByteArray.mk #[45]) ++ v2)), 2)]
 ·replace h := ite_f hc2_0 h
  refine k_skip ?_
  refine q_n ?_
  replace h := bs h
  obtain ⟨v4, hv4, h⟩ := h
  refine k_sreg (r_gq [(2, .p (.string v4))] [(1, {call := some (none, [.p (.string v4)], true)})] (A1 (wk_spec_l1Num hv4))) ?_
  refine k_ret ?_
  obtain rfl := oi h
  exact er [(.p (.string v4), 2)]
theorem wk_spec_raText {a0 : Qr}  {r : ByteArray} (h : spec_raText a0 = some r) : Meets Tryd.prog 22 [.v (vRt a0)] { vals := [.p (.string r)] } := by
 refine mo Tryd.func22 [(0, .p (vRt a0))] ?_
 unfold spec_raText at h
 refine k_sreg (r_gq [(1, .box (eRt a0))] [] trivial) ?_
 replace h := bs h
 obtain ⟨v1, hv1, h⟩ := h
 replace h := bs h
 obtain ⟨u2, hu2, h⟩ := h
 replace h := bs h
 obtain ⟨v3, hv3, h⟩ := h
 replace h := bs h
 obtain ⟨u4, hu4, h⟩ := h
 refine k_sreg (r_dq Tryd_mixed 7 [] [(2, .p (.string ((v1 ++ (ByteArray.mk #[47])) ++ v3)))] [(2, {call := some (none, [.p (.string v1)], true)}), (6, {call := some (none, [.p (.string v3)], true)})] (A4 (wk_spec_l1Int hv1) (guardO_some hu2) (wk_spec_l1Num hv3) (guardO_some hu4))) ?_
 refine k_ret ?_
 obtain rfl := oi h
 exact er [(.p (.string ((v1 ++ (ByteArray.mk #[47])) ++ v3)), 2)]
theorem wk_spec_BoundsText {a0 : Qr} {a1 : Qr}  {r : (ByteArray × Bool)} (h : spec_BoundsText a0 a1 = some r) : Meets Tryd.prog 10 [.v (vRt a0), .v (vRt a1)] { vals := [.p (.string r.1), .p (.bool r.2)] } := by
 refine mo Tryd.func10 [(0, .p (vRt a0)), (1, .p (vRt a1))] ?_
 unfold spec_BoundsText at h
 refine k_sreg (r_gq [(2, .box (eRt a0)), (3, .box (eRt a1))] [] trivial) ?_
 refine k_seq ?_
 replace h := bs h
 obtain ⟨v1, hv1, h⟩ := h
 replace h := bs h
 obtain ⟨w4, hw4, h⟩ := h
 refine k_sreg (l1 := [(2, .box (eRt a0)), (3, .box (eRt a1)), (19, .p (.bool w4))]) ?_ ?_
 ·clear h
  rcases ft (!v1) with ha0 | ha0
  ·replace hw4 := ite_t ha0 hw4
   have hw4 := oi hw4
   subst hw4
   exact (r_gq [(2, .box (eRt a0)), (3, .box (eRt a1)), (19, .p (.bool true))] [(1, {call := some (none, [.p (.bool v1)], true)}), (4, gT), (5, gT), (6, gT), (7, bT), (9, gT), (10, gT), (11, gT), (12, gT), (13, bT)] (B6 (wk_spec_raGood hv1) ha0 ha0 ha0 ha0 (show true = true from rfl) (A4 (show true = true from rfl) (show true = true from rfl) (show true = true from rfl) (show true = true from rfl))))
  ·replace hw4 := ite_f ha0 hw4
   replace hw4 := bs hw4
   obtain ⟨v2, hv2, hw4⟩ := hw4
   rcases ft (!v2) with ha1 | ha1
   ·replace hw4 := ite_t ha1 hw4
    have hw4 := oi hw4
    subst hw4
    exact (r_gq [(2, .box (eRt a0)), (3, .box (eRt a1)), (19, .p (.bool true))] [(1, {call := some (none, [.p (.bool v1)], true)}), (4, gF), (5, {g := some false, call := some (none, [.p (.bool v2)], true)}), (6, gF), (7, bF), (9, gT), (10, gT), (11, gT), (12, gT), (13, bT)] (B6 (wk_spec_raGood hv1) ha0 ha0 (wk_spec_raGood hv2) ha0 ha0 (A5 ha1 ha1 ha1 ha1 ha1)))
   ·replace hw4 := ite_f ha1 hw4
    replace hw4 := bs hw4
    obtain ⟨v3, hv3, hw4⟩ := hw4
    have hw4 := oi hw4
    subst hw4
    exact (r_gq [(2, .box (eRt a0)), (3, .box (eRt a1)), (19, .p (.bool (decide (v3 > 0))))] [(1, {call := some (none, [.p (.bool v1)], true)}), (4, gF), (5, {g := some false, call := some (none, [.p (.bool v2)], true)}), (6, gF), (7, bF), (9, gF), (10, gF), (11, {g := some false, call := some (none, [.p (iV v3)], true)}), (12, gF), (13, bF)] (B6 (wk_spec_raGood hv1) ha0 ha0 (wk_spec_raGood hv2) ha0 ha0 (A6 ha1 ha1 ha1 (wk_spec_raCmp hv3) ha1 ha1)))
 ·refine kc w4 (fun hc2_4 => ?_) (fun hc2_4 => ?_)
  ·replace h := ite_t hc2_4 h
   refine k_sreg (r_gq [(4, .p (.string ByteArray.empty)), (5, .p (.bool false))] [] trivial) ?_
   refine k_ret ?_
   refine q_r ?_
   obtain rfl := oi h
   exact er [(.p (.string ByteArray.empty), 4), (.p (.bool false), 5)]
  ·replace h := ite_f hc2_4 h
   refine k_skip ?_
   refine q_n ?_
   replace h := bs h
   obtain ⟨v6, hv6, h⟩ := h
   replace h := bs h
   obtain ⟨u7, hu7, h⟩ := h
   replace h := bs h
   obtain ⟨v8, hv8, h⟩ := h
   replace h := bs h
   obtain ⟨u9, hu9, h⟩ := h
   refine k_sreg (r_dq Tryd_mixed 5 [] [(4, .p (.string ((v6 ++ (ByteArray.mk #[46, 46])) ++ v8))), (5, .p (.bool true))] [(1, {call := some (none, [.p (.string v6)], true)}), (4, {call := some (none, [.p (.string v8)], true)})] (A4 (wk_spec_raText hv6) (guardO_some hu7) (wk_spec_raText hv8) (guardO_some hu9))) ?_
   refine k_ret ?_
   obtain rfl := oi h
   exact er [(.p (.string ((v6 ++ (ByteArray.mk #[46, 46])) ++ v8)), 4), (.p (.bool true), 5)]
theorem wk_impl_within {a0 : Int} {a1 : Int} {a2 : Int}  {r : Bool} (h : impl_within a0 a1 a2 = some r) : Meets Tryd.prog 31 [wI a0, wI a1, wI a2] { vals := [.p (.bool r)] } := by
 refine mo Tryd.func31 [(0, .p (iV a0)), (1, .p (iV a1)), (2, .p (iV a2))] ?_
 unfold impl_within at h
 refine k_sreg (r_gq [(0, .p (iV a0)), (1, .p (iV a1)), (2, .p (iV a2))] [] trivial) ?_
 refine k_sreg (l1 := [(6, .p (.bool ((decide (a1 ≤ a0)) && (decide (a0 ≤ a2)))))]) ?_ ?_
 ·rcases ft (decide (a1 ≤ a0)) with ha0 | ha0
  ·exact RegOk.of_eq (l2 := [(6, .p (.bool ((decide (a1 ≤ a0)) && (decide (a0 ≤ a2)))))]) (r_gq [(6, .p (.bool (decide (a0 ≤ a2))))] [(4, gT), (5, gT), (6, gT), (7, bT)] (A4 ha0 ha0 ha0 ha0)) (by simp [ha0])
  ·exact RegOk.of_eq (l2 := [(6, .p (.bool ((decide (a1 ≤ a0)) && (decide (a0 ≤ a2)))))]) (r_gq [(6, .p (.bool false))] [(4, gF), (5, gF), (6, gF), (7, bF)] (A4 ha0 ha0 ha0 ha0)) (by simp [ha0])
 ·refine k_ret ?_
  obtain rfl := oi h
  exact er [(.p (.bool ((decide (a1 ≤ a0)) && (decide (a0 ≤ a2)))), 6)]
theorem wk_impl_abs {a0 : Int}  {r : Int} (h : impl_abs a0 = some r) : Meets Tryd.prog 57 [wI a0] { vals := [.p (iV r)] } := by
 refine mo Tryd.func57 [(0, .p (iV a0))] ?_
 unfold impl_abs at h
 refine k_sreg (r_gq [(0, .p (iV a0))] [] trivial) ?_
 refine k_seq ?_
 refine k_sreg (r_gq [(0, .p (iV a0)), (4, .p (.bool (decide (a0 < 0))))] [] trivial) ?_
 refine kc (decide (a0 < 0)) (fun hc2_0 => ?_) (fun hc2_0 => ?_)
 ·replace h := ite_t hc2_0 h
  refine k_sreg (r_gq [(2, .p (iV (w64 (0 - a0))))] [] trivial) ?_
  refine k_ret ?_
  refine q_r ?_
  obtain rfl := oi h
  exact er [(.p (iV (w64 (0 - a0))), 2)]
 ·replace h := ite_f hc2_0 h
  refine k_skip ?_
  refine q_n ?_
  refine k_sreg (r_gq [(2, .p (iV a0))] [] trivial) ?_
  refine k_ret ?_
  obtain rfl := oi h
  exact er [(.p (iV a0), 2)]
theorem wk_impl_greatestDivisor {a0 : Int} {a1 : Int}  {r : Int} (h : impl_greatestDivisor a0 a1 = some r) : Meets Tryd.prog 52 [wI a0, wI a1] { vals := [.p (iV r)] } := by
 refine mo Tryd.func52 [(0, .p (iV a0)), (1, .p (iV a1))] ?_
 unfold impl_greatestDivisor at h
 refine k_sreg (r_gq [(0, .p (iV a0)), (1, .p (iV a1))] [] trivial) ?_
 replace h := bs h
 obtain ⟨v1, hv1, h⟩ := h
 replace h := bs h
 obtain ⟨v2, hv2, h⟩ := h
 refine k_sreg (r_gq [(0, .p (iV v1)), (1, .p (iV v2))] [(1, {call := some (none, [.p (iV v1)], true)}), (3, {call := some (none, [.p (iV v2)], true)})] (A2 (wk_impl_abs hv1) (wk_impl_abs hv2))) ?_
 refine k_join (J := fun (x : Int) => [(0, .p (iV x))]) (K := fun x => impl_greatestDivisor_k1 x = some r) (fun x3 h => ?_) ?_
 ·unfold impl_greatestDivisor_k1 at h
  refine k_sreg (r_gq [(4, .p (iV x3))] [] trivial) ?_
  refine k_ret ?_
  obtain rfl := oi h
  exact er [(.p (iV x3), 4)]
 ·refine k_block ?_
  obtain ⟨y5, hl_x4, hk_x4⟩ := bs h
  clear h
  refine k_loop (J := fun (x : Qr) => [(0, .p (iV x.1)), (1, .p (iV x.2))]) hl_x4 (wk_of (by kernel_rfl) (by kernel_rfl)) (fun x4 o_x4 h hy_x4 => ?_)
  unfold impl_greatestDivisor_b1 at h
  refine k_seq ?_
  refine k_sreg (r_gq [(0, .p (iV x4.1)), (1, .p (iV x4.2)), (10, .p (.bool (x4.2 != 0)))] [] trivial) ?_
  refine kc (x4.2 != 0) (fun hc5_5 => ?_) (fun hc5_5 => ?_)
  ·replace h := ite_t hc5_5 h
   refine k_skip ?_
   refine q_n ?_
   refine k_block ?_
   replace h := bs h
   obtain ⟨u7, hu7, h⟩ := h
   refine k_reg (r_dq Tryd_mixed 5 [] [(0, .p (iV x4.2)), (1, .p (iV (Int.tmod x4.1 x4.2)))] [] (A1 (guardO_some hu7))) ?_
   refine b_n ?_
   exact lqn (x4.2, (Int.tmod x4.1 x4.2)) h
  ·replace h := ite_f hc5_5 h
   refine k_exit ?_
   refine q_x ?_
   refine lq_x ?_
   refine b_x ?_
   have hyy := hy_x4 _ (oi h).symm
   subst hyy
   have h := hk_x4
   refine q_n ?_
   exact jx x4.1 h
theorem wk_impl_isRat {a0 : Qr}  {r : Bool} (h : impl_isRat a0 = some r) : Meets Tryd.prog 35 [.v (vRt a0)] { vals := [.p (.bool r)] } := by
 refine mo Tryd.func35 [(0, .p (vRt a0))] ?_
 unfold impl_isRat at h
 refine k_sreg (r_gq [(1, .box (eRt a0))] [] trivial) ?_
 replace h := bs h
 obtain ⟨v1, hv1, h⟩ := h
 replace h := bs h
 obtain ⟨w4, hw4, h⟩ := h
 refine k_sreg (l1 := [(2, .p (.bool w4))]) ?_ ?_
 ·clear h
  rcases ft v1 with ha0 | ha0
  ·replace hw4 := ite_t ha0 hw4
   replace hw4 := bs hw4
   obtain ⟨v2, hv2, hw4⟩ := hw4
   rcases ft v2 with ha1 | ha1
   ·replace hw4 := ite_t ha1 hw4
    replace hw4 := bs hw4
    obtain ⟨v3, hv3, hw4⟩ := hw4
    have hw4 := oi hw4
    subst hw4
    exact (r_gq [(2, .p (.bool (v3 == 1)))] [(2, {call := some (none, [.p (.bool v1)], true)}), (4, gT), (5, gT), (6, {g := some true, call := some (none, [.p (.bool v2)], true)}), (7, bT), (9, gT), (10, gT), (11, gT), (12, gT), (13, {g := some true, call := some (none, [.p (iV v3)], true)}), (14, gT), (15, bT)] (B6 (wk_impl_within hv1) ha0 ha0 ha0 (wk_impl_within hv2) ha0 (B6 ha1 ha1 ha1 ha1 ha1 (wk_impl_greatestDivisor hv3) (A2 ha1 ha1))))
   ·replace hw4 := ite_f ha1 hw4
    have hw4 := oi hw4
    subst hw4
    exact (r_gq [(2, .p (.bool false))] [(2, {call := some (none, [.p (.bool v1)], true)}), (4, gT), (5, gT), (6, {g := some true, call := some (none, [.p (.bool v2)], true)}), (7, bT), (9, gF), (10, gF), (11, gF), (12, gF), (13, gF), (14, gF), (15, bF)] (B6 (wk_impl_within hv1) ha0 ha0 ha0 (wk_impl_within hv2) ha0 (B6 ha1 ha1 ha1 ha1 ha1 ha1 (A1 ha1))))
  ·replace hw4 := ite_f ha0 hw4
   have hw4 := oi hw4
   subst hw4
   exact (r_gq [(2, .p (.bool false))] [(2, {call := some (none, [.p (.bool v1)], true)}), (4, gF), (5, gF), (6, gF), (7, bF), (9, gF), (10, gF), (11, gF), (12, gF), (13, gF), (14, gF), (15, bF)] (B6 (wk_impl_within hv1) ha0 ha0 ha0 ha0 (show false = false from rfl) (A6 (show false = false from rfl) (show false = false from rfl) (show false = false from rfl) (show false = false from rfl) (show false = false from rfl) (show false = false from rfl))))
 ·refine k_ret ?_
  obtain rfl := oi h
  exact er [(.p (.bool w4), 2)]
theorem wk_impl_areRats {a0 : (List Qr)}  {r : Bool} (h : impl_areRats a0 = some r) : Meets Tryd.prog 23 [.d false [.sl none (a0.map eRt)]] { vals := [.p (.bool r)] } := by
 refine mo Tryd.func23 [(0, .d false [.sl none (a0.map eRt)])] ?_
 unfold impl_areRats at h
 refine k_sreg (r_gq [(0, .d false [.sl none (a0.map eRt)])] [] trivial) ?_
 refine k_join (J := fun (x : Unit) => []) (K := fun x => impl_areRats_k1 x = some r) (fun x1 h => ?_) ?_
 ·unfold impl_areRats_k1 at h
  refine k_sreg (r_gq [(2, .p (.bool true))] [] trivial) ?_
  refine k_ret ?_
  obtain rfl := oi h
  exact er [(.p (.bool true), 2)]
 ·refine k_sreg (r_gq [(5, .d false [.sl none (a0.map eRt)]), (6, .p (iV (a0.length : Int))), (7, .p (iV 0))] [(1, {n := some a0.length})] (A1 (show (a0.map eRt).length = a0.length from (List.length_map ..)))) ?_
  refine k_block ?_
  obtain ⟨y3, hl_x2, hk_x2⟩ := bs h
  clear h
  refine k_loop (J := fun (x : Int) => [(5, .d false [.sl none (a0.map eRt)]), (6, .p (iV (a0.length : Int))), (7, .p (iV x))]) hl_x2 (wk_of (by kernel_rfl) (by kernel_rfl)) (fun x2 o_x2 h hy_x2 => ?_)
  unfold impl_areRats_b1 at h
  refine k_sreg (r_gq [(5, .d false [.sl none (a0.map eRt)]), (6, .p (iV (a0.length : Int))), (7, .p (iV x2)), (8, .p (.bool (decide (x2 < (a0.length : Int)))))] [] trivial) ?_
  refine k_seq ?_
  refine kc (decide (x2 < (a0.length : Int))) (fun hc5_3 => ?_) (fun hc5_3 => ?_)
  ·replace h := ite_t hc5_3 h
   refine k_skip ?_
   refine q_n ?_
   refine k_seq ?_
   refine k_block ?_
   replace h := bs h
   obtain ⟨v5, hv5, h⟩ := h
   refine k_sreg (r_gq [(4, .box (eRt v5)), (5, .d false [.sl none (a0.map eRt)]), (6, .p (iV (a0.length : Int))), (7, .p (iV x2))] [(0, {row := some (eRt v5)})] (A2 (idxO_some hv5).1 (map_get eRt (idxO_some hv5).2))) ?_
   replace h := bs h
   obtain ⟨v6, hv6, h⟩ := h
   refine k_sreg (r_gq [(5, .d false [.sl none (a0.map eRt)]), (6, .p (iV (a0.length : Int))), (7, .p (iV x2)), (13, .p (.bool (!v6)))] [(1, {call := some (none, [.p (.bool v6)], true)})] (A1 (wk_impl_isRat hv6))) ?_
   refine kc (!v6) (fun hc6_6 => ?_) (fun hc6_6 => ?_)
   ·replace h := ite_t hc6_6 h
    refine k_sreg (r_gq [(2, .p (.bool false))] [] trivial) ?_
    refine k_ret ?_
    refine b_r ?_
    refine q_r ?_
    refine lq_r ?_
    refine b_r ?_
    refine q_r ?_
    have hyy := hy_x2 _ (oi h).symm
    subst hyy
    have h := hk_x2
    dsimp only [Sum.elim] at h
    obtain rfl := oi h
    exact er [(.p (.bool false), 2)]
   ·replace h := ite_f hc6_6 h
    refine k_skip ?_
    refine b_n ?_
    refine q_n ?_
    refine k_reg (r_gq [(5, .d false [.sl none (a0.map eRt)]), (6, .p (iV (a0.length : Int))), (7, .p (iV (w64 (x2 + 1))))] [] trivial) ?_
    exact lqn (w64 (x2 + 1)) h
  ·replace h := ite_f hc5_3 h
   refine k_exit ?_
   refine q_x ?_
   refine lq_x ?_
   refine b_x ?_
   have hyy := hy_x2 _ (oi h).symm
   subst hyy
   have h := hk_x2
   dsimp only [Sum.elim] at h
   refine q_n ?_
   exact jx () h
theorem wk_impl_compare {a0 : Qr} {a1 : Qr}  {r : Int} (h : impl_compare a0 a1 = some r) : Meets Tryd.prog 47 [.v (vRt a0), .v (vRt a1)] { vals := [.p (iV r)] } := by
 refine mo Tryd.func47 [(0, .p (vRt a0)), (1, .p (vRt a1))] ?_
 unfold impl_compare at h
 refine k_sreg (r_gq [(2, .box (eRt a0)), (3, .box (eRt a1))] [] trivial) ?_
 refine k_seq ?_
 refine k_sreg (r_dq Tryd_mixed 11 [] [(5, .p (iV (w64 (a0.1 * a1.2)))), (6, .p (iV (w64 (a1.1 * a0.2))))] [] trivial) ?_
 refine k_block ?_
 refine k_sreg (r_gq [(5, .p (iV (w64 (a0.1 * a1.2)))), (6, .p (iV (w64 (a1.1 * a0.2)))), (17, .p (.bool (decide ((w64 (a0.1 * a1.2)) < (w64 (a1.1 * a0.2))))))] [] trivial) ?_
 refine kc (decide ((w64 (a0.1 * a1.2)) < (w64 (a1.1 * a0.2)))) (fun hc3_0 => ?_) (fun hc3_0 => ?_)
 ·replace h := ite_t hc3_0 h
  refine k_sreg (r_gq [(4, .p (iV (-1)))] [] trivial) ?_
  refine k_ret ?_
  refine b_r ?_
  refine q_r ?_
  obtain rfl := oi h
  exact er [(.p (iV (-1)), 4)]
 ·replace h := ite_f hc3_0 h
  refine k_sreg (r_gq [(21, .p (.bool (decide ((w64 (a0.1 * a1.2)) > (w64 (a1.1 * a0.2))))))] [] trivial) ?_
  refine kc (decide ((w64 (a0.1 * a1.2)) > (w64 (a1.1 * a0.2)))) (fun hc3_1 => ?_) (fun hc3_1 => ?_)
  ·replace h := ite_t hc3_1 h
   refine k_sreg (r_gq [(4, .p (iV 1))] [] trivial) ?_
   refine k_ret ?_
   refine b_r ?_
   refine q_r ?_
   obtain rfl := oi h
   exact er [(.p (iV 1), 4)]
  ·replace h := ite_f hc3_1 h
   refine k_skip ?_
   refine b_n ?_
   refine q_n ?_
   refine k_sreg (r_gq [(4, .p (iV 0))] [] trivial) ?_
   refine k_ret ?_
   obtain rfl := oi h
   exact er [(.p (iV 0), 4)]
theorem wk_impl_less {a0 : Qr} {a1 : Qr}  {r : Bool} (h : impl_less a0 a1 = some r) : Meets Tryd.prog 24 [.v (vRt a0), .v (vRt a1)] { vals := [.p (.bool r)] } := by
 refine mo Tryd.func24 [(0, .p (vRt a0)), (1, .p (vRt a1))] ?_
 unfold impl_less at h
 refine k_sreg (r_gq [(2, .box (eRt a0)), (3, .box (eRt a1))] [] trivial) ?_
 replace h := bs h
 obtain ⟨v1, hv1, h⟩ := h
 refine k_sreg (r_gq [(4, .p (.bool (decide (v1 < 0))))] [(2, {call := some (none, [.p (iV v1)], true)})] (A1 (wk_impl_compare hv1))) ?_
 refine k_ret ?_
 obtain rfl := oi h
 exact er [(.p (.bool (decide (v1 < 0))), 4)]
end Go.PV
namespace Go.Proofs
open Go.Shelf
def Tryd.laysM171_ren : Go.Shelf.Ren := ⟨fun | 171 => 48 | 243 => 56 | 246 => 59 | 283 => 60 | 284 => 61 | 285 => 62 | 286 => 63 | 129 => 65 | 317 => 64 | 318 => 66 | 319 => 67 | 320 => 68 | 337 => 69 | 338 => 70 | n => n, fun | 3 => 3 | 9 => 9 | 2 => 2 | 4 => 4 | 171 => 80 | 0 => 0 | 53 => 81 | 37 => 62 | 5 => 5 | 173 => 84 | 212 => 87 | 51 => 88 | 20 => 20 | 213 => 89 | 46 => 91 | 232 => 94 | 233 => 95 | n => n, fun | 17 => 0 | 18 => 1 | 19 => 2 | n => n⟩
theorem Tryd.laysM171 : Go.Proofs.LaysM.n171 Tryd.prog Tryd.laysM171_ren := {
 mixed := by kernel_rfl
 f129 := Tryd.func65.trans (congrArg some (by kernel_rfl))
 f171 := Tryd.func48.trans (congrArg some (by kernel_rfl))
 f243 := Tryd.func56.trans (congrArg some (by kernel_rfl))
 f246 := Tryd.func59.trans (congrArg some (by kernel_rfl))
 f283 := Tryd.func60.trans (congrArg some (by kernel_rfl))
 f284 := Tryd.func61.trans (congrArg some (by kernel_rfl))
 f285 := Tryd.func62.trans (congrArg some (by kernel_rfl))
 f286 := Tryd.func63.trans (congrArg some (by kernel_rfl))
 f317 := Tryd.func64.trans (congrArg some (by kernel_rfl))
 f318 := Tryd.func66.trans (congrArg some (by kernel_rfl))
 f319 := Tryd.func67.trans (congrArg some (by kernel_rfl))
 f320 := Tryd.func68.trans (congrArg some (by kernel_rfl))
 f337 := Tryd.func69.trans (congrArg some (by kernel_rfl))
 f338 := Tryd.func70.trans (congrArg some (by kernel_rfl))
 t0 := Tryd.underlying0
 a0 := Tryd.isAgg0
 z0 := Tryd.sizeOf0
 v0 := Tryd.zeroValue0
 t2 := Tryd.underlying2
 a2 := Tryd.isAgg2
 z2 := Tryd.sizeOf2
 v2 := Tryd.zeroValue2
 t3 := Tryd.underlying3
 a3 := Tryd.isAgg3
 z3 := Tryd.sizeOf3
 v3 := Tryd.zeroValue3
 t4 := Tryd.underlying4
 a4 := Tryd.isAgg4
 z4 := Tryd.sizeOf4
 v4 := Tryd.zeroValue4
 t5 := Tryd.underlying5
 a5 := Tryd.isAgg5
 z5 := Tryd.sizeOf5
 v5 := Tryd.zeroValue5
 t9 := Tryd.underlying9
 a9 := Tryd.isAgg9
 z9 := Tryd.sizeOf9
 v9 := Tryd.zeroValue9
 t20 := Tryd.underlying20
 a20 := Tryd.isAgg20
 z20 := Tryd.sizeOf20
 v20 := Tryd.zeroValue20
 t37 := Tryd.underlying62
 a37 := Tryd.isAgg62
 z37 := Tryd.sizeOf62
 v37 := Tryd.zeroValue62
 t46 := Tryd.underlying91
 a46 := Tryd.isAgg91
 z46 := Tryd.sizeOf91
 v46 := Tryd.zeroValue91
 t51 := Tryd.underlying88
 a51 := Tryd.isAgg88
 z51 := Tryd.sizeOf88
 v51 := Tryd.zeroValue88
 t53 := Tryd.underlying81
 a53 := Tryd.isAgg81
 z53 := Tryd.sizeOf81
 v53 := Tryd.zeroValue81
 t171 := Tryd.underlying80
 a171 := Tryd.isAgg80
 z171 := Tryd.sizeOf80
 v171 := Tryd.zeroValue80
 t173 := Tryd.underlying84
 a173 := Tryd.isAgg84
 z173 := Tryd.sizeOf84
 v173 := Tryd.zeroValue84
 t212 := Tryd.underlying87
 a212 := Tryd.isAgg87
 z212 := Tryd.sizeOf87
 v212 := Tryd.zeroValue87
 t213 := Tryd.underlying89
 a213 := Tryd.isAgg89
 z213 := Tryd.sizeOf89
 t232 := Tryd.underlying94
 a232 := Tryd.isAgg94
 z232 := Tryd.sizeOf94
 v232 := Tryd.zeroValue94
 t233 := Tryd.underlying95
 a233 := Tryd.isAgg95
 z233 := Tryd.sizeOf95
 v233 := Tryd.zeroValue95
 g17 := by kernel_rfl
 g18 := by kernel_rfl
 g19 := by kernel_rfl
 i0 := by kernel_rfl
 i2 := by kernel_rfl
 i3 := by kernel_rfl
 i4 := by kernel_rfl
 i5 := by kernel_rfl
 i9 := by kernel_rfl
 i20 := by kernel_rfl
 i37 := by kernel_rfl
 i46 := by kernel_rfl
 i51 := by kernel_rfl
 i53 := by kernel_rfl
 i171 := by kernel_rfl
 i173 := by kernel_rfl
 i212 := by kernel_rfl
 i232 := by kernel_rfl
 i233 := by kernel_rfl
 m17 := by kernel_rfl
 m18 := by kernel_rfl
 m19 := by kernel_rfl }
open Go.RowKit Go.Sort Go.Lib in
theorem Tryd.strconv_Itoa (n : Int) (h0 : -9223372036854775808 ≤ n) (h1 : n ≤ 9223372036854775807) (w : World) (htab : Lib.TabIs Tryd.prog w "internal/strconv.uint64pow10" .u64 Lib.pow10Tab) :
  Calls Tryd.prog 48 #[.int .i64 n] w fun e w' => e = .returned (.string ⟨(Lib.itoa n).toArray⟩) ∧ ∃ k os, w' = grow (w.drewN k) os := Any.strconv_Itoa Tryd.laysM171 n h0 h1 w htab
end Go.Proofs
namespace Go.PV
open Go Go.PV Go.Proofs
theorem wk_strconv_Itoa {a0 : Int} {r : ByteArray} (h : strconv_Itoa a0 = some r) : Meets Tryd.prog 48 [wI a0] { vals := [.p (.string r)] } := by
 unfold strconv_Itoa at h
 obtain ⟨u1, hu1, h⟩ := bind_some' h
 have hg := guardO_some hu1
 obtain rfl := Option.some.inj h
 exact meets_itoa (by kernel_rfl) (by kernel_rfl) fun w hw => Go.Proofs.Tryd.strconv_Itoa a0 hg.1 hg.2 w hw
theorem wk_impl_ratText {a0 : Qr}  {r : ByteArray} (h : impl_ratText a0 = some r) : Meets Tryd.prog 25 [.v (vRt a0)] { vals := [.p (.string r)] } := by
 refine mo Tryd.func25 [(0, .p (vRt a0))] ?_
 unfold impl_ratText at h
 refine k_sreg (r_gq [(1, .box (eRt a0))] [] trivial) ?_
 replace h := bs h
 obtain ⟨v1, hv1, h⟩ := h
 replace h := bs h
 obtain ⟨u2, hu2, h⟩ := h
 replace h := bs h
 obtain ⟨v3, hv3, h⟩ := h
 replace h := bs h
 obtain ⟨u4, hu4, h⟩ := h
 refine k_sreg (r_dq Tryd_mixed 7 [] [(2, .p (.string ((v1 ++ (ByteArray.mk #[47])) ++ v3)))] [(2, {call := some (none, [.p (.string v1)], true)}), (6, {call := some (none, [.p (.string v3)], true)})] (A4 (wk_strconv_Itoa hv1) (guardO_some hu2) (wk_strconv_Itoa hv3) (guardO_some hu4))) ?_
 refine k_ret ?_
 obtain rfl := oi h
 exact er [(.p (.string ((v1 ++ (ByteArray.mk #[47])) ++ v3)), 2)]
theorem wk_impl_BoundsText {a0 : Qr} {a1 : Qr}  {r : (ByteArray × Bool)} (h : impl_BoundsText a0 a1 = some r) : Meets Tryd.prog 12 [.v (vRt a0), .v (vRt a1)] { vals := [.p (.string r.1), .p (.bool r.2)] } := by
 refine mo Tryd.func12 [(0, .p (vRt a0)), (1, .p (vRt a1))] ?_
 unfold impl_BoundsText at h
 refine k_sreg (r_gq [(2, .box (eRt a0)), (3, .box (eRt a1))] [] trivial) ?_
 refine k_seq ?_
 replace h := bs h
 obtain ⟨v1, hv1, h⟩ := h
 replace h := bs h
 obtain ⟨w3, hw3, h⟩ := h
 refine k_sreg (l1 := [(2, .box (eRt a0)), (3, .box (eRt a1)), (15, .p (.bool w3))]) ?_ ?_
 ·clear h
  rcases ft (!v1) with ha0 | ha0
  ·replace hw3 := ite_t ha0 hw3
   have hw3 := oi hw3
   subst hw3
   exact (r_gq [(2, .box (eRt a0)), (3, .box (eRt a1)), (15, .p (.bool true))] [(3, {call := some (some [.d false [.sl none (([a0, a1]).map eRt)]], [.p (.bool v1)], true)}), (6, gT), (7, gT), (8, gT), (9, bT)] (A6 (show ([.d false [.sl none (eraL (([a0, a1]).map eRt))]] : List Arg) = [.d false [.sl none (([a0, a1]).map eRt)]] from (by simp only [eraL_enc (h := eRt) (era_P er_I er_I)])) (wk_impl_areRats hv1) ha0 ha0 ha0 ha0))
  ·replace hw3 := ite_f ha0 hw3
   replace hw3 := bs hw3
   obtain ⟨v2, hv2, hw3⟩ := hw3
   have hw3 := oi hw3
   subst hw3
   exact (r_gq [(2, .box (eRt a0)), (3, .box (eRt a1)), (15, .p (.bool v2))] [(3, {call := some (some [.d false [.sl none (([a0, a1]).map eRt)]], [.p (.bool v1)], true)}), (6, gF), (7, gF), (8, {g := some false, call := some (none, [.p (.bool v2)], true)}), (9, bF)] (B6 (show ([.d false [.sl none (eraL (([a0, a1]).map eRt))]] : List Arg) = [.d false [.sl none (([a0, a1]).map eRt)]] from (by simp only [eraL_enc (h := eRt) (era_P er_I er_I)])) (wk_impl_areRats hv1) ha0 ha0 ha0 (wk_impl_less hv2) (A1 ha0)))
 ·refine kc w3 (fun hc2_3 => ?_) (fun hc2_3 => ?_)
  ·replace h := ite_t hc2_3 h
   refine k_sreg (r_gq [(4, .p (.string ByteArray.empty)), (5, .p (.bool false))] [] trivial) ?_
   refine k_ret ?_
   refine q_r ?_
   obtain rfl := oi h
   exact er [(.p (.string ByteArray.empty), 4), (.p (.bool false), 5)]
  ·replace h := ite_f hc2_3 h
   refine k_skip ?_
   refine q_n ?_
   replace h := bs h
   obtain ⟨v5, hv5, h⟩ := h
   replace h := bs h
   obtain ⟨u6, hu6, h⟩ := h
   replace h := bs h
   obtain ⟨v7, hv7, h⟩ := h
   replace h := bs h
   obtain ⟨u8, hu8, h⟩ := h
   refine k_sreg (r_dq Tryd_mixed 5 [] [(4, .p (.string ((v5 ++ (ByteArray.mk #[46, 46])) ++ v7))), (5, .p (.bool true))] [(1, {call := some (none, [.p (.string v5)], true)}), (4, {call := some (none, [.p (.string v7)], true)})] (A4 (wk_impl_ratText hv5) (guardO_some hu6) (wk_impl_ratText hv7) (guardO_some hu8))) ?_
   refine k_ret ?_
   obtain rfl := oi h
   exact er [(.p (.string ((v5 ++ (ByteArray.mk #[46, 46])) ++ v7)), 4), (.p (.bool true), 5)]
theorem wk_laws_FnExactBoundsText {a0 : Qr} {a1 : Qr}  {r : Bool} (h : laws_FnExactBoundsText a0 a1 = some r) : Meets Tryd.prog 4 [.v (vRt a0), .v (vRt a1)] { vals := [.p (.bool r)] } := by
 refine mo Tryd.func4 [(0, .p (vRt a0)), (1, .p (vRt a1))] ?_
 unfold laws_FnExactBoundsText at h
 refine k_sreg (r_gq [(2, .box (eRt a0)), (3, .box (eRt a1))] [] trivial) ?_
 replace h := bs h
 obtain ⟨v1, hv1, h⟩ := h
 replace h := bs h
 obtain ⟨v2, hv2, h⟩ := h
 replace h := bs h
 obtain ⟨v3, hv3, h⟩ := h
 refine k_sreg (r_dq Tryd_mixed 4 [] [(2, .box (eRt a0)), (3, .box (eRt a1)), (5, .p (.string v3.1)), (6, .p (.bool v3.2))] [(1, {call := some (none, [.p (vRt v1)], true)}), (3, {call := some (none, [.p (vRt v2)], true)}), (4, {call := some (none, [.p (.string v3.1), .p (.bool v3.2)], true)})] (A3 (wk_laws_toRat hv1) (wk_laws_toRat hv2) (wk_spec_BoundsText hv3))) ?_
 replace h := bs h
 obtain ⟨v4, hv4, h⟩ := h
 replace h := bs h
 obtain ⟨v5, hv5, h⟩ := h
 replace h := bs h
 obtain ⟨v6, hv6, h⟩ := h
 refine k_sreg (r_dq Tryd_mixed 4 [] [(5, .p (.string v3.1)), (6, .p (.bool v3.2)), (7, .p (.string v6.1)), (8, .p (.bool v6.2))] [(1, {call := some (none, [.p (vRt v4)], true)}), (3, {call := some (none, [.p (vRt v5)], true)}), (4, {call := some (none, [.p (.string v6.1), .p (.bool v6.2)], true)})] (A3 (wk_laws_toRat hv4) (wk_laws_toRat hv5) (wk_impl_BoundsText hv6))) ?_
 refine k_seq ?_
 refine k_sreg (l1 := [(32, .p (.bool ((!(v6.1.toList == v3.1.toList)) || (!(v6.2 == v3.2)))))]) ?_ ?_
 ·rcases ft (!(v6.1.toList == v3.1.toList)) with ha0 | ha0
  ·exact RegOk.of_eq (l2 := [(32, .p (.bool ((!(v6.1.toList == v3.1.toList)) || (!(v6.2 == v3.2)))))]) (r_gq [(32, .p (.bool true))] [(4, gT), (5, gT), (6, gT), (7, bT)] (A4 ha0 ha0 ha0 ha0)) (by simp [ha0])
  ·exact RegOk.of_eq (l2 := [(32, .p (.bool ((!(v6.1.toList == v3.1.toList)) || (!(v6.2 == v3.2)))))]) (r_gq [(32, .p (.bool (!(v6.2 == v3.2))))] [(4, gF), (5, gF), (6, gF), (7, bF)] (A4 ha0 ha0 ha0 ha0)) (by simp [ha0])
 ·refine kc ((!(v6.1.toList == v3.1.toList)) || (!(v6.2 == v3.2))) (fun hc2_6 => ?_) (fun hc2_6 => ?_)
  ·replace h := ite_t hc2_6 h
   refine k_sreg (r_gq [(4, .p (.bool false))] [] trivial) ?_
   refine k_ret ?_
   refine q_r ?_
   obtain rfl := oi h
   exact er [(.p (.bool false), 4)]
  ·replace h := ite_f hc2_6 h
   refine k_skip ?_
   refine q_n ?_
   refine k_sreg (r_gq [(4, .p (.bool true))] [] trivial) ?_
   refine k_ret ?_
   obtain rfl := oi h
   exact er [(.p (.bool true), 4)]
end Go.PV

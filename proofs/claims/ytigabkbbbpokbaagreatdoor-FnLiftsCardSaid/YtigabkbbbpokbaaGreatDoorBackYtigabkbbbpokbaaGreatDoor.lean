/-
  The library's iterator over a slice, from its end.
  Conditions: none.
-/
import Derived.RangeFuncBox
import Derived.RangeFuncLeaves
import Derived.Shelf.Abstract
import Derived.WalkKit
import Derived.OwnWalkIn
import Derived.TacticsInMore
import Derived.LoopNIn
import Derived.LoopIn
import Derived.Test.YtigabkbbbpokbaaGreatDoorPvCx
import Derived.Test.YtigabkbbbpokbaaGreatDoorProg
set_option linter.all false
namespace Go.PV
open Go Go.Proofs
open Go.RowKit Go.Shelf
attribute [local go_sem] Oper.semAt_some
set_option maxRecDepth 100000 in
set_option maxHeartbeats 2000000 in
theorem ysb1 (F : Fence) (n : Nat) (hfn : F.fn 93) (hro : F.round = none) (hn : 1 ≤ n) (l Bs bo b off cap : Nat) (xs : List ((Int × Int) × (Int × Int))) (hlen : xs.length ≤ 1000000000) (Z : Nat → Prop) (hZ1 : Z Bs) (hZ2 : Z b) (J Jx : List (Fin xs.length) → World → Prop)
    (hY : ∀ pre (x : Fin xs.length) W, J pre W → pre.length < xs.length → YieldAt F (n - 1) Tryz.prog l #[.int .i64 ((xs.length - 1 - x.1 : Nat) : Int), .agg #[.int .i64 (xs[xs.length - 1 - x.1].1.1), .int .i64 (xs[xs.length - 1 - x.1].1.2), .int .i64 (xs[xs.length - 1 - x.1].2.1), .int .i64 (xs[xs.length - 1 - x.1].2.2)]] W fun e W' =>
      (e = .returned (.bool true) ∧ J (pre ++ [x]) W' ∧ ∀ b, Z b → W'.heap[b]? = W.heap[b]?) ∨ (e = .returned (.bool false) ∧ Jx (pre ++ [x]) W'))
    (W : World) (hBs : W.cell? ⟨Bs, bo, none⟩ = some (.slice (some ⟨b, off, none⟩) xs.length cap)) (hc : ∀ i (hi : i < xs.length), W.cell? ⟨b, off + i * 4, none⟩ = some (.int .i64 xs[i].1.1) ∧ W.cell? ⟨b, off + i * 4 + 1, none⟩ = some (.int .i64 xs[i].1.2) ∧ W.cell? ⟨b, off + i * 4 + 2, none⟩ = some (.int .i64 xs[i].2.1) ∧ W.cell? ⟨b, off + i * 4 + 3, none⟩ = some (.int .i64 xs[i].2.2)) (h0 : J [] W) :
    CallsIn F n Tryz.prog 93 #[.func (.yield l) #[] #[], .pointer (some ⟨Bs, bo, none⟩)] W fun e W' => (∃ v, e = .returned v) ∧ (J (List.finRange xs.length) W' ∨ ∃ pre, Jx pre W') := by
  refine callsIn_of_wp Tryz.func93 rfl hfn ?_ hro
  simp only [Tryz.ntmps93, List.size_toArray, List.length_cons, List.length_nil, Nat.reduceAdd, Nat.reduceSub, Array.replicate_succ, Array.replicate_zero, List.push_toArray, List.append_toArray, List.nil_append, List.cons_append]
  gi_wp2
  gi_loopw [3] (fun i wr => ∃ k : Nat, k ≤ xs.length ∧ i = .int .i64 ((xs.length : Int) - 1 - k) ∧ J ((List.finRange xs.length).take k) wr ∧ ∀ b, Z b → wr.heap[b]? = W.heap[b]?)
    (fun i _ => (intOf i + 1).toNat)
  case atStart => exact ⟨0, Nat.zero_le _, by simp, by simpa using h0, fun _ _ => rfl⟩
  case round =>
    obtain ⟨k, hk, rfl, hJs, hz⟩ := hrel
    have hbs : wr.cell? ⟨Bs, bo, none⟩ = some (.slice (some ⟨b, off, none⟩) xs.length cap) := (World.cell?_of_block (a := ⟨Bs, bo, none⟩) (hz Bs hZ1)).trans hBs
    by_cases hlt : k < xs.length
    · obtain ⟨fn, tmps, assign, body, hy, hR⟩ := hY _ ⟨k, hlt⟩ wr hJs (by rw [List.length_take, List.length_finRange]; omega)
      dsimp only at hy
      have ei : ((xs.length : Int) - 1 - k).toNat = xs.length - 1 - k := by omega
      have ek : ((xs.length - 1 - k : Nat) : Int) = (xs.length : Int) - 1 - k := by omega
      rw [ek] at hy
      have hcx : ∀ o, wr.cell? ⟨b, o, none⟩ = W.cell? ⟨b, o, none⟩ := fun o => World.cell?_of_block (a := ⟨b, o, none⟩) (hz b hZ2)
      obtain ⟨c0, c1, c2, c3⟩ := hc (xs.length - 1 - k) (by omega)
      rw [← hcx] at c0 c1 c2 c3
      clear hcx
      gi_wp2
      refine hR.mono ?_
      rintro e W3 (⟨rfl, hJ3, hk3⟩ | ⟨rfl, hJx3⟩)
      · gi_wp2
        go_roundw
        case rel =>
          refine ⟨k + 1, by omega, ?_, ?_, fun b hb => (hk3 b hb).trans (hz b hb)⟩
          · congr 1; omega
          · rw [List.take_succ_eq_append_getElem (by simpa using hlt)]
            simpa using hJ3
        case measure => simp [intOf]; omega
      · gi_wp2
        refine bodyPost_ret (results_none rfl _ _ _) rfl ?_
        exact ⟨⟨_, rfl⟩, .inr ⟨_, hJx3⟩⟩
    · obtain rfl : k = xs.length := by omega
      gi_wp2
      go_end0
      exact ⟨⟨_, rfl⟩, .inl (by rw [List.take_of_length_le (by simp)] at hJs; exact hJs)⟩
set_option maxRecDepth 100000 in
set_option maxHeartbeats 2000000 in
theorem yww (F : Fence) (n : Nat) (hfn : F.fn 93) (hro : F.round = none) (hn : 1 ≤ n) (l Bs bo cap : Nat) (ad : Option Addr) (J : Prop) (W : World) (hBs : W.cell? ⟨Bs, bo, none⟩ = some (.slice ad 0 cap)) (R : World → Prop) (h0 : R W) :
    CallsIn F n Tryz.prog 93 #[.func (.yield l) #[] #[], .pointer (some ⟨Bs, bo, none⟩)] W fun e W' => (∃ v, e = .returned v) ∧ R W' := by
  refine callsIn_of_wp Tryz.func93 rfl hfn ?_ hro
  simp only [Tryz.ntmps93, List.size_toArray, List.length_cons, List.length_nil, Nat.reduceAdd, Nat.reduceSub, Array.replicate_succ, Array.replicate_zero, List.push_toArray, List.append_toArray, List.nil_append, List.cons_append]
  gi_wp2
  gi_loopw [3] (fun i wr => i = .int .i64 (-1) ∧ R wr) (fun _ _ => 0)
  case atStart => exact ⟨rfl, h0⟩
  case round =>
    obtain ⟨rfl, hJs⟩ := hrel
    gi_wp2
    go_end0
    exact ⟨⟨_, rfl⟩, hJs⟩
theorem yuz (xs : List ((Int × Int) × (Int × Int))) (hlen : xs.length ≤ 1000000000) : Turns Tryz.prog 93 [(false, [.pt [.sl none (xs.map (eP (eP eI eI) (eP eI eI)))]])]
    (fun x : Fin xs.length => #[.int .i64 ((xs.length - 1 - x.1 : Nat) : Int), .agg #[.int .i64 (xs[xs.length - 1 - x.1].1.1), .int .i64 (xs[xs.length - 1 - x.1].1.2), .int .i64 (xs[xs.length - 1 - x.1].2.1), .int .i64 (xs[xs.length - 1 - x.1].2.2)]])
    (fun ys => ys = List.finRange xs.length) (fun _ => True) xs.length := by
  rintro Z w v m ⟨hsh, hfz⟩ hZ hm
  obtain ⟨hcv, _⟩ : v.cells = #[v] ∧ _ := hsh
  have h1 := hfz 0 _ rfl
  have ev : v.cells.getD 0 undef = v := by rw [hcv]; rfl
  rw [ev] at h1
  cases h1 with
  | fn hn hs hr =>
    rename_i vals
    have h2 := hr 0 false _ 0 _ rfl rfl
    obtain ⟨hc2, _⟩ : (vals.getD 0 undef).cells = #[vals.getD 0 undef] ∧ _ := hs 0 false _ rfl
    have ev2 : (vals.getD 0 undef).cells.getD 0 undef = vals.getD 0 undef := by rw [hc2]; rfl
    rw [ev2] at h2
    obtain ⟨p, hvals⟩ : ∃ p, vals = #[p] := by
      have : vals.size = 1 := hn
      obtain ⟨l⟩ := vals
      match l, this with
      | [p], _ => exact ⟨p, rfl⟩
    subst hvals
    refine ⟨_, rfl, fun l J Jx W hW _ _ hY h0 => ?_⟩
    have h3 : Frz Z w p (.pt [.sl none (xs.map (eP (eP eI eI) (eP eI eI)))]) := h2
    cases h3 with
    | pt vs hz hcs hrs =>
      rename_i bs bo
      have k1 := hcs 0 _ rfl
      have k2 := hrs 0 _ rfl
      have same : ∀ b o, Z b → W.cell? ⟨b, o, none⟩ = w.cell? ⟨b, o, none⟩ := fun b o hb => World.cell?_of_block (a := ⟨b, o, none⟩) (hW.block b (hZ b hb))
      generalize hv0 : vs 0 = v0 at k1 k2
      generalize hrows : xs.map (eP (eP eI eI) (eP eI eI)) = rows at k2
      cases k2 with
      | nil =>
        have hx : xs = [] := by simpa using hrows
        subst hx
        refine (yww (Fx none) m trivial rfl hm l bs bo _ _ True W ((same bs _ hz).trans k1) (fun W' => J [] W') h0).mono fun e W' ⟨g1, g2⟩ => ⟨g1, .inl ⟨[], rfl, g2⟩⟩
      | sl ws hle hz2 hsz hcell hrep =>
        rename_i b off cap sz
        have hlen2 : rows.length = xs.length := by rw [← hrows, List.length_map]
        by_cases hx : xs = []
        · subst hx
          rw [hlen2] at k1
          refine (yww (Fx none) m trivial rfl hm l bs bo _ _ True W ((same bs _ hz).trans k1) (fun W' => J [] W') h0).mono fun e W' ⟨g1, g2⟩ => ⟨g1, .inl ⟨[], rfl, g2⟩⟩
        · have hpos : 0 < xs.length := List.length_pos_iff.2 hx
          have hrow : ∀ i (hi : i < xs.length), rows[i]? = some [.raw (.int .i64 xs[i].1.1), .raw (.int .i64 xs[i].1.2), .raw (.int .i64 xs[i].2.1), .raw (.int .i64 xs[i].2.2)] := fun i hi => by
            rw [← hrows, List.getElem?_map, List.getElem?_eq_getElem hi]
            rfl
          have hsz4 : sz = 4 := (hsz _ (List.mem_of_getElem? (hrow 0 hpos))).symm
          subst hsz4
          have raw : ∀ {v u : Value}, Frz Z w v (.raw u) → v = u := fun h => by cases h with | raw h => rfl
          have cell : ∀ i (hi : i < xs.length) o (u : Value), ([.raw (.int .i64 xs[i].1.1), .raw (.int .i64 xs[i].1.2), .raw (.int .i64 xs[i].2.1), .raw (.int .i64 xs[i].2.2)] : List C)[o]? = some (.raw u) → W.cell? ⟨b, off + i * 4 + o, none⟩ = some u := fun i hi o u ho => by
            rw [same b _ hz2, hcell i _ o _ (hrow i hi) ho, raw (hrep i _ o _ (hrow i hi) ho)]
          rw [hlen2] at k1
          refine (ysb1 (Fx none) m trivial rfl hm l bs bo b off cap xs hlen Z hz hz2 J Jx hY W ((same bs _ hz).trans k1) (fun i hi => ⟨cell i hi 0 _ rfl, cell i hi 1 _ rfl, cell i hi 2 _ rfl, cell i hi 3 _ rfl⟩) h0).mono ?_
          rintro e W' ⟨g1, g2 | ⟨pre, g2⟩⟩
          · exact ⟨g1, .inl ⟨_, rfl, g2⟩⟩
          · exact ⟨g1, .inr ⟨pre, trivial, g2⟩⟩
end Go.PV

/-
  A walk over pure values: where the order is open.
  Conditions: none.
-/
import Derived.Test.YtlajjggemadajaaPvX
set_option linter.all false
namespace Go.PV
variable {P : Program} {N : Nat} {w0 : World} {A : Nat → Prop} {I : List Nat}

theorem PureRun.congr {ev ev' : Operand → SV} {o : Oper} {v : Value} (h : ∀ x ∈ o.op.operands, ev x = ev' x) (hp : PureRun P ev o v) : PureRun P ev' o v := by
  obtain ⟨ρ, h1, h2⟩ := hp
  exact ⟨ρ, fun x hx => (h x hx).symm.trans (h1 x hx), h2⟩

theorem partsOf_congr {ev ev' : Operand → SV} {sz : Nat} : ∀ (l : List (Nat × Operand)) (k : Nat), (∀ x ∈ l, ev x.2 = ev' x.2) → sOp.partsOf ev sz l k = sOp.partsOf ev' sz l k
  | [], _, _ => rfl
  | (i, x) :: l, k, h => by
    simp only [sOp.partsOf]
    rw [h (i, x) (by simp), partsOf_congr l (k + 1) fun y hy => h y (by simp [hy])]
theorem fillC_congr {ev ev' : Operand → SV} {place : Nat → Option (Nat × Nat)} : ∀ (l : List (Nat × Operand)) (z : List C), (∀ x ∈ l, ev x.2 = ev' x.2) → sOp.fillC place ev z l = sOp.fillC place ev' z l
  | [], _, _ => rfl
  | (i, x) :: l, z, h => by
    simp only [sOp.fillC]
    rw [h (i, x) (by simp)]
    have ih := fun z => fillC_congr (place := place) l z fun y hy => h y (by simp [hy])
    simp only [ih]
theorem map_congr_mem {ev ev' : Operand → SV} {l : List Operand} (h : ∀ x ∈ l, ev x = ev' x) : l.map ev = l.map ev' := List.map_congr_left h

theorem sOp_congr {ev ev' : Operand → SV} {rt : Nat → SV} {o : Oper} {K : SV → Prop} (h : ∀ x ∈ o.op.operands, ev x = ev' x) (hs : sOp P ev rt o K) : sOp P ev' rt o K := by
  have pur : (∃ v, PureRun P ev o v ∧ K (.p v)) → ∃ v, PureRun P ev' o v ∧ K (.p v) := fun ⟨v, h1, h2⟩ => ⟨v, h1.congr h, h2⟩
  cases hop : o.op with
  | move x => simp only [sOp, hop] at hs ⊢; rw [← h x (by simp [hop, Op.operands])]; exact hs
  | pick c x y =>
    simp only [sOp, hop] at hs ⊢
    rw [← h c (by simp [hop, Op.operands]), ← h x (by simp [hop, Op.operands]), ← h y (by simp [hop, Op.operands])]; exact hs
  | binOp op t x y t' =>
    simp only [sOp, hop] at hs ⊢
    rw [← h x (by simp [hop, Op.operands]), ← h y (by simp [hop, Op.operands])]
    unfold binK at hs ⊢
    split at hs
    · rename_i hx hy
      obtain ⟨rfl, hs⟩ := hs
      refine ⟨rfl, ?_⟩
      unfold intK at hs ⊢
      cases op <;> first | exact hs | exact pur hs
    · unfold boolK at hs ⊢
      cases op <;> first | exact hs | exact pur hs
    · unfold strK at hs ⊢
      cases op <;> first | exact hs | exact pur hs
    · exact pur hs
  | unOp op t x =>
    cases op with
    | neg => simp only [sOp, hop] at hs ⊢; rw [← h x (by simp [hop, Op.operands])]; exact hs
    | not => simp only [sOp, hop] at hs ⊢; rw [← h x (by simp [hop, Op.operands])]; exact hs
    | _ => simp [sOp, hop] at hs
  | convert src dst x => simp only [sOp, hop] at hs ⊢; exact pur hs
  | load t x => simp only [sOp, hop] at hs ⊢; rw [← h x (by simp [hop, Op.operands])]; exact hs
  | fieldAddr t x k => simp only [sOp, hop] at hs ⊢; rw [← h x (by simp [hop, Op.operands])]; exact hs
  | indexAddr t x i => simp only [sOp, hop] at hs ⊢; rw [← h x (by simp [hop, Op.operands]), ← h i (by simp [hop, Op.operands])]; exact hs
  | extract x k => simp only [sOp, hop] at hs ⊢; rw [← h x (by simp [hop, Op.operands])]; exact hs
  | alloc t => simp only [sOp, hop] at hs ⊢; exact hs
  | makeSlice t l c => simp only [sOp, hop] at hs ⊢; rw [← h l (by simp [hop, Op.operands]), ← h c (by simp [hop, Op.operands])]; exact hs
  | buildSlice t n parts =>
    simp only [sOp, hop] at hs ⊢
    have hp : ∀ x ∈ parts.toList, ev x.2 = ev' x.2 := fun x hx => h x.2 (by simp [hop, Op.operands]; exact ⟨x.1, by simpa using hx⟩)
    obtain ⟨e, sz, h1, rows, h2, h3, h4, h5, h6, h7⟩ := hs
    exact ⟨e, sz, h1, rows, h2, h3, h4, h5, by rw [← partsOf_congr _ _ hp]; exact h6, h7⟩
  | slice t x lo hi mx =>
    cases mx with
    | some m => simp [sOp, hop] at hs
    | none =>
      simp only [sOp, hop] at hs ⊢
      have hx := h x (by simp [hop, Op.operands])
      have hb : ∀ (y : Option Operand) (k : Nat), (∀ z, y = some z → ev z = ev' z) → sOp.bnd ev y k = sOp.bnd ev' y k := fun y k hy => by
        cases y with
        | none => rfl
        | some z => simp only [sOp.bnd]; rw [hy z rfl]
      have hlo := fun k => hb lo k fun z hz => h z (by simp [hop, Op.operands, hz])
      have hhi := fun k => hb hi k fun z hz => h z (by simp [hop, Op.operands, hz])
      rw [← hx]
      split at hs
      · rename_i rows hxx
        obtain ⟨e, sz, h1, l, hh, h2, h3, h4, h5, h6, h7⟩ := hs
        rw [← hlo, ← hhi]
        exact ⟨e, sz, h1, l, hh, h2, h3, h4, h5, h6, h7⟩
      · exact pur hs
  | build t parts =>
    simp only [sOp, hop] at hs ⊢
    have hp : ∀ x ∈ parts.toList, ev x.2 = ev' x.2 := fun x hx => h x.2 (by simp [hop, Op.operands]; exact ⟨x.1, by simpa using hx⟩)
    obtain ⟨cs, h1, h2⟩ := hs
    refine ⟨cs, ?_, h2⟩
    unfold sOp.buildC at h1 ⊢
    split at h1
    · split at h1
      · cases h1
      · rename_i z fs hz hu hall
        rw [if_neg hall]
        rw [← fillC_congr _ _ hp]; exact h1
    · cases h1
  | makeFunc fn first caps =>
    cases fn with
    | func f =>
      simp only [sOp, hop] at hs ⊢
      obtain ⟨h0, as, h1, h2⟩ := hs
      refine ⟨h0, as, ?_, h2⟩
      rw [← map_congr_mem (ev := ev) fun x hx => h x (by simp [hop, Op.operands]; exact .inr (by simpa using hx))]
      exact h1
    | _ => simp [sOp, hop] at hs
  | field t x k => simp only [sOp, hop] at hs ⊢; exact pur hs
  | index t x i => simp only [sOp, hop] at hs ⊢; exact pur hs
  | call c =>
    obtain ⟨callee, args, ts⟩ := c
    have hargs : ∀ x ∈ args.toList, ev x = ev' x := fun x hx => h x (by simp [hop, Op.operands, Call.operands]; exact .inr (by simpa using hx))
    cases callee with
    | value fn =>
      simp only [sOp, hop] at hs ⊢
      rw [← h fn (by simp [hop, Op.operands, Call.operands]), ← map_congr_mem hargs]
      exact hs
    | invoke r m => simp only [sOp, hop] at hs ⊢; exact pur hs
    | builtin b =>
      cases b with
      | len =>
        simp only [sOp, hop] at hs ⊢
        obtain ⟨x, t, h1, h2, h3⟩ := hs
        exact ⟨x, t, h1, h2, by rw [← hargs x (by rw [h1]; simp)]; exact h3⟩
      | min =>
        simp only [sOp, hop] at hs ⊢
        obtain ⟨x, y, k, m, n, h1, h2, h3, h4⟩ := hs
        exact ⟨x, y, k, m, n, h1, by rw [← hargs x (by rw [h1]; simp)]; exact h2, by rw [← hargs y (by rw [h1]; simp)]; exact h3, h4⟩
      | max =>
        simp only [sOp, hop] at hs ⊢
        obtain ⟨x, y, k, m, n, h1, h2, h3, h4⟩ := hs
        exact ⟨x, y, k, m, n, h1, by rw [← hargs x (by rw [h1]; simp)]; exact h2, by rw [← hargs y (by rw [h1]; simp)]; exact h3, h4⟩
      | _ => simp only [sOp, hop] at hs ⊢; exact pur hs
  | _ => simp [sOp, hop] at hs
end Go.PV

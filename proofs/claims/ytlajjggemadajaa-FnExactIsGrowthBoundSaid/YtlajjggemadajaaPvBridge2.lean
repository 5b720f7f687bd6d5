/-
  A walk over pure values: from a contract to what the statement asks.
  Conditions: none.
-/
import Derived.Test.YtlajjggemadajaaPvBridge
import Derived.OpenShut
set_option linter.all false
namespace Go.PV
open Go.Deep Go.ChangeShapes Go.WideShapes Go.RowKit Go.ChangeMaps
variable {P : Program}

def Ty.agg : Ty → Bool
  | .one _ => true
  | .pair _ _ => true
  | _ => false

theorem enc_pos : ∀ (T : Ty) (x : T.α), 0 < (T.enc x).length
  | .int k, x => by simp [Ty.enc, eU]
  | .bool, x => by simp [Ty.enc, eB]
  | .str, x => by simp [Ty.enc, eT]
  | .sl a, x => by simp [Ty.enc, eF]
  | .one a, x => enc_pos a x
  | .pair a b, x => by
    have := enc_pos a x.1
    simp only [Ty.enc, eP, List.length_append]; omega

/-- An argument, read as data. -/
theorem arg_of {H : Type} {enc : TypeId × Value → H} {W : World} {base n : Nat} {T : Ty} {t : TypeId} {v : Value} {d : DataW H} {p : List MemPlace} (hT : tyX P n T (.inl t) = true)
    (hv : Value.okWide P W .any base t v) (h : DataW.Trod enc P W 0 (fun _ => true) true t v d p) :
    ∃ a : T.α, T.ok a ∧ ArgV (fun b => b < W.heap.size) W v (mkA T.agg (T.enc a)) := by
  have h0 := h
  obtain ⟨fuel, hf⟩ := h
  obtain ⟨a, h1, h2, h3⟩ := (stands_of (P := P) (enc := enc) n).1 T t hT fuel _ _ hf
  refine ⟨a, h1, mkA_ok ?_⟩
  have hcells : ∀ j, v.cells.toList.getD j undef = v.cells.getD j undef := fun j => by
    simp [List.getD, Array.getD_eq_getD_getElem?]
  refine ⟨?_, fun j c hj => by rw [← hcells]; exact h3 j c hj⟩
  cases n with
  | zero => simp [tyX] at hT
  | succ n =>
    have plain : T.agg = false → (∀ arr, v ≠ .agg arr) → VShape T.agg v (T.enc a).length := fun hg hna => by
      have hc : v.cells = #[v] := by
        cases v <;> first | rfl | exact absurd rfl (hna _)
      rw [hg]
      unfold VShape
      simp only [Bool.false_eq_true, if_false]
      exact ⟨hc, by rw [h2, hc]; rfl⟩
    cases T with
    | int k =>
      obtain ⟨x, rfl, _⟩ := open_int (tyX_int hT) hv h0
      exact plain rfl (by intro arr h; cases h)
    | bool =>
      obtain ⟨x, rfl, _⟩ := open_bool (tyX_bool hT) hv h0
      exact plain rfl (by intro arr h; cases h)
    | str =>
      obtain ⟨x, rfl, _⟩ := open_string (tyX_str hT) hv h0
      exact plain rfl (by intro arr h; cases h)
    | sl b =>
      obtain ⟨e, hu, _⟩ := tyX_sl hT
      obtain ⟨ad, len, cap, rfl⟩ := okWide_slice hu hv
      exact plain rfl (by intro arr h; cases h)
    | one b =>
      obtain ⟨fs, f, hu, _⟩ := tyX_one hT
      unfold Value.okWide at hv
      simp only [hu] at hv
      obtain ⟨cs, rfl, _⟩ := hv
      exact ⟨cs, rfl, by rw [h2]; rfl⟩
    | pair b c =>
      obtain ⟨fs, hu, _⟩ := tyX_pair hT
      unfold Value.okWide at hv
      simp only [hu] at hv
      obtain ⟨cs, rfl, _⟩ := hv
      exact ⟨cs, rfl, by rw [h2]; rfl⟩

/-- **A law's call**: it returns true, and nothing that was there has turned. -/
theorem law_calls {f : FuncId} {args : List Arg} {vals : Array Value} {W : World} {b : Bool} (hm : Meets P f args { vals := [.p (.bool b)] }) (hb : b = true) (ha : ArgsV (fun b => b < W.heap.size) W vals.toList args) :
    Calls P f vals W fun e W' => e = .returned (.bool true) ∧ Below W.heap.size W W' := by
  subst hb
  refine (hm.2 W (fun b => b < W.heap.size) [] vals (fun b hb => ⟨hb, by simp⟩) (by simp) List.nodup_nil ha.rep).mono fun e W' h => ?_
  obtain ⟨v, L, rfl, hp⟩ := h
  have hv := hp.val
  simp only [ResAt, RVat] at hv
  subst hv
  exact ⟨rfl, hp.ev.os, hp.ev.tape, hp.ev.output, hp.ev.size, fun k hk => hp.ev.block k hk (by simp)⟩
theorem argsV1 {Z : Nat → Prop} {W : World} {v : Value} {a : Arg} (h : ArgV Z W v a) : ArgsV Z W [v] [a] := ⟨h, trivial⟩
end Go.PV

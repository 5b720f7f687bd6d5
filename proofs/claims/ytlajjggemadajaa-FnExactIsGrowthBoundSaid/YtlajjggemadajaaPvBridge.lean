/-
  A walk over pure values: what the statement hands in, as data; what it wants to have back.
  Conditions: none.
-/
import Derived.Test.YtlajjggemadajaaPvRun6
import Derived.Deep.Slices
import Derived.WalkKit
import Derived.ProofKit
import Derived.Below
import Derived.Carry
set_option linter.all false
namespace Go.PV
open Go.Deep Go.ChangeShapes Go.WideShapes Go.RowKit
variable {P : Program}

inductive Ty where
  | int (k : IntKind)
  | bool
  | str
  | sl (a : Ty)
  | one (a : Ty)
  | pair (a b : Ty)
def Ty.α : Ty → Type
  | .int _ => Int
  | .bool => Bool
  | .str => ByteArray
  | .sl a => List a.α
  | .one a => a.α
  | .pair a b => a.α × b.α
def Ty.dflt : (T : Ty) → T.α
  | .int _ => (0 : Int)
  | .bool => false
  | .str => ByteArray.empty
  | .sl _ => []
  | .one a => a.dflt
  | .pair a b => (a.dflt, b.dflt)
def Ty.enc : (T : Ty) → T.α → List C
  | .int k => eU k
  | .bool => eB
  | .str => eT
  | .sl a => eF a.enc
  | .one a => a.enc
  | .pair a b => eP a.enc b.enc
/-- What may be taken for granted of what came in. -/
def Ty.ok : (T : Ty) → T.α → Prop
  | .int k => fun n => (Lit.int k n).wf = true
  | .bool => fun _ => True
  | .str => fun s => s.size ≤ maxLen
  | .sl a => fun (l : List a.α) => l.length ≤ maxLen ∧ ∀ x ∈ l, a.ok x
  | .one a => a.ok
  | .pair a b => fun x => a.ok x.1 ∧ b.ok x.2

def tyX (P : Program) : Nat → Ty → (TypeId ⊕ (List Field × Nat × Nat)) → Bool
  | 0, _, _ => false
  | n + 1, T, .inl t => (match T, P.underlying t with
    | .int k, some (.int k') => decide (k = k')
    | .bool, some .bool => true
    | .str, some .string => true
    | .sl a, some (.slice e) => tyX P n a (.inl e)
    | .one a, some (.struct fs) => (match fs.toList with
      | [f] => tyX P n a (.inr ([f], 0, P.cellsOf t))
      | _ => false)
    | .pair a b, some (.struct fs) => tyX P n (.pair a b) (.inr (fs.toList, 0, P.cellsOf t))
    | _, _ => false)
  | n + 1, T, .inr ([f], o, tot) => decide (f.offset = o) && decide (o + P.cellsOf f.type = tot) && tyX P n T (.inl f.type)
  | n + 1, .pair a b, .inr (f :: g :: l, o, tot) => decide (f.offset = o) && decide (o + P.cellsOf f.type ≤ tot) && tyX P n a (.inl f.type) && tyX P n b (.inr (g :: l, o + P.cellsOf f.type, tot))
  | _, _, _ => false

theorem tyX_int {n : Nat} {k : IntKind} {t : TypeId} (h : tyX P (n + 1) (.int k) (.inl t) = true) : P.underlying t = some (.int k) := by
  cases hu : P.underlying t with
  | none => simp [tyX, hu] at h
  | some d => cases d <;> simp [tyX, hu] at h <;> simp [h]
theorem tyX_bool {n : Nat} {t : TypeId} (h : tyX P (n + 1) .bool (.inl t) = true) : P.underlying t = some .bool := by
  cases hu : P.underlying t with
  | none => simp [tyX, hu] at h
  | some d => cases d <;> simp [tyX, hu] at h <;> simp
theorem tyX_str {n : Nat} {t : TypeId} (h : tyX P (n + 1) .str (.inl t) = true) : P.underlying t = some .string := by
  cases hu : P.underlying t with
  | none => simp [tyX, hu] at h
  | some d => cases d <;> simp [tyX, hu] at h <;> simp
theorem tyX_sl {n : Nat} {a : Ty} {t : TypeId} (h : tyX P (n + 1) (.sl a) (.inl t) = true) : ∃ e, P.underlying t = some (.slice e) ∧ tyX P n a (.inl e) = true := by
  cases hu : P.underlying t with
  | none => simp [tyX, hu] at h
  | some d => cases d <;> simp [tyX, hu] at h <;> exact ⟨_, rfl, h⟩
theorem tyX_one {n : Nat} {a : Ty} {t : TypeId} (h : tyX P (n + 1) (.one a) (.inl t) = true) : ∃ fs f, P.underlying t = some (.struct fs) ∧ fs.toList = [f] ∧ tyX P n a (.inr ([f], 0, P.cellsOf t)) = true := by
  cases hu : P.underlying t with
  | none => simp [tyX, hu] at h
  | some d =>
    cases d <;> simp only [tyX, hu, Bool.false_eq_true] at h
    rename_i fs
    split at h
    · rename_i f hf
      exact ⟨fs, f, rfl, hf, h⟩
    · cases h
theorem tyX_pair {n : Nat} {a b : Ty} {t : TypeId} (h : tyX P (n + 1) (.pair a b) (.inl t) = true) : ∃ fs, P.underlying t = some (.struct fs) ∧ tyX P n (.pair a b) (.inr (fs.toList, 0, P.cellsOf t)) = true := by
  cases hu : P.underlying t with
  | none => simp [tyX, hu] at h
  | some d => cases d <;> simp [tyX, hu] at h <;> exact ⟨_, rfl, h⟩

section
variable {H : Type} {enc : TypeId × Value → H} {w : World} {spare : Nat → Bool} {held : Bool}

/-- These cells stand for this datum. -/
def Stands (w : World) (T : Ty) (cs : List Value) : Prop := ∃ a : T.α, T.ok a ∧ (T.enc a).length = cs.length ∧ ∀ (j : Nat) (c : C), (T.enc a)[j]? = some c → Frz (fun b => b < w.heap.size) w (cs.getD j undef) c

theorem cell_lt {a : Addr} {v : Value} (h : w.cell? a = some v) : a.block < w.heap.size := by
  unfold World.cell? at h
  split at h
  · rename_i hx; exact (Array.getElem?_eq_some_iff.1 hx).1
  · cases h

theorem stands_of (n : Nat) : (∀ (T : Ty) (t : TypeId), tyX P n T (.inl t) = true → ∀ (fuel : Nat) (cs : List Value) (x : DataW H × List MemPlace), DataW.trod enc P w 0 spare held fuel t cs = some x → Stands w T cs) ∧
    (∀ (T : Ty) (fs : List Field) (o tot : Nat), tyX P n T (.inr (fs, o, tot)) = true → ∀ (fuel : Nat) (cs : List Value) (xs : List (DataW H × List MemPlace)), cs.length = tot → o ≤ tot →
      fs.mapM (fun f => DataW.trod enc P w 0 spare held fuel f.type ((cs.drop f.offset).take (P.cellsOf f.type))) = some xs → Stands w T (cs.drop o)) := by
  induction n with
  | zero => exact ⟨fun T t h => by simp [tyX] at h, fun T fs o tot h => by cases T <;> simp [tyX] at h⟩
  | succ n ih =>
    obtain ⟨ih1, ih2⟩ := ih
    constructor
    · intro T t h fuel cs x hx
      cases fuel with
      | zero => simp [DataW.trod] at hx
      | succ fuel =>
        cases T with
        | int k =>
          have hu := tyX_int h
          obtain ⟨m, hcs, _, hw⟩ := DataW.trod_int hu hx
          subst hcs
          refine ⟨m, hw, rfl, fun j c hj => ?_⟩
          cases j with
          | zero => simp [Ty.enc, eU] at hj; subst hj; exact .raw rfl
          | succ j => simp [Ty.enc, eU] at hj
        | bool =>
          have hu := tyX_bool h
          obtain ⟨b, hcs, _⟩ := DataW.trod_bool hu hx
          subst hcs
          refine ⟨b, trivial, rfl, fun j c hj => ?_⟩
          cases j with
          | zero => simp [Ty.enc, eB] at hj; subst hj; exact .raw rfl
          | succ j => simp [Ty.enc, eB] at hj
        | str =>
          have hu := tyX_str h
          obtain ⟨s, hcs, _, hw⟩ := DataW.trod_string hu hx
          subst hcs
          refine ⟨s, hw, rfl, fun j c hj => ?_⟩
          cases j with
          | zero => simp [Ty.enc, eT] at hj; subst hj; exact .raw rfl
          | succ j => simp [Ty.enc, eT] at hj
        | sl a =>
          obtain ⟨e, hu, h⟩ := tyX_sl h
          rcases open_slice hu hx with ⟨rfl, _⟩ | ⟨ad, len, cap, m, n', D, Pl, rfl, _, hl, hm, hmm, _, hel⟩
          · refine ⟨([] : List a.α), ⟨by simp, by simp⟩, rfl, fun j c hj => ?_⟩
            cases j with
            | zero => simp [Ty.enc, eF] at hj; subst hj; exact .nil
            | succ j => simp [Ty.enc, eF] at hj
          · have hml : len ≤ m := by rw [hmm]; split <;> omega
            have : Inhabited a.α := ⟨a.dflt⟩
            have step : ∀ i, i < len → ∃ y : a.α × List Value, w.cells? 0 (ad.add (i * P.cellsOf e)) (P.cellsOf e) = some y.2 ∧ a.ok y.1 ∧ (a.enc y.1).length = y.2.length ∧ ∀ (j : Nat) (c : C), (a.enc y.1)[j]? = some c → Frz (fun b => b < w.heap.size) w (y.2.getD j undef) c := fun i hi => by
              obtain ⟨cs', h1, h2⟩ := hel i (by omega)
              obtain ⟨y, h3, h4, h5⟩ := ih1 a e h n' cs' _ h2
              exact ⟨(y, cs'), h1, h3, h4, h5⟩
            obtain ⟨f, hf⟩ := choose_lt step
            refine ⟨(List.range len).map fun i => (f i).1, ⟨by simp; omega, ?_⟩, rfl, fun j c hj => ?_⟩
            · intro y hy
              obtain ⟨i, hi, rfl⟩ := List.mem_map.1 hy
              exact (hf i (List.mem_range.1 hi)).2.1
            · cases j with
              | succ j => simp [Ty.enc, eF] at hj
              | zero =>
                simp only [Ty.enc, eF, List.getElem?_cons_zero, Option.some.injEq] at hj
                subst hj
                show Frz _ w (.slice (some ad) len cap) _
                cases len with
                | zero => exact .nil
                | succ len =>
                  have hlen : ∀ i, i < len + 1 → (a.enc (f i).1).length = P.cellsOf e := fun i hi => by
                    rw [(hf i hi).2.2.1]; exact (World.cells?_some (hf i hi).1).2.1
                  have hget : ∀ (i : Nat) (row : List C), (List.map a.enc ((List.range (len + 1)).map fun i => (f i).1))[i]? = some row → i < len + 1 ∧ row = a.enc (f i).1 := fun i row hr => by
                    simp only [List.map_map, List.getElem?_map] at hr
                    by_cases hi : i < len + 1
                    · simp [hi] at hr; exact ⟨hi, hr.symm⟩
                    · simp [hi] at hr
                  have key : ∀ (i o : Nat) (row : List C) (c : C), (List.map a.enc ((List.range (len + 1)).map fun i => (f i).1))[i]? = some row → row[o]? = some c →
                      w.cell? (ad.add (i * P.cellsOf e + o)) = some ((f i).2.getD o undef) ∧ Frz (fun b => b < w.heap.size) w ((f i).2.getD o undef) c := fun i o row c hr ho => by
                    obtain ⟨hi, rfl⟩ := hget i row hr
                    have ho' : o < P.cellsOf e := by rw [← hlen i hi]; exact (List.getElem?_eq_some_iff.1 ho).1
                    obtain ⟨_, hl2, hc2⟩ := World.cells?_some (hf i hi).1
                    refine ⟨?_, (hf i hi).2.2.2 o c ho⟩
                    have := hc2 o ho'
                    rw [add_add] at this
                    rw [this]
                    rw [List.getElem?_eq_getElem (by omega)]
                    simp [List.getD, List.getElem?_eq_getElem (show o < (f i).2.length by omega)]
                  by_cases hz : P.cellsOf e = 0
                  · -- rows without cells
                    obtain ⟨b, off, spot⟩ := ad
                    exact absurd hz (by
                      intro hz
                      have h1 := hlen 0 (by omega)
                      rw [hz] at h1
                      have : ∀ (T : Ty) (x : T.α), (T.enc x).length ≠ 0 := by
                        intro T
                        induction T with
                        | int k => intro x; simp [Ty.enc, eU]
                        | bool => intro x; simp [Ty.enc, eB]
                        | str => intro x; simp [Ty.enc, eT]
                        | sl a _ => intro x; simp [Ty.enc, eF]
                        | one a ih => intro x; exact ih x
                        | pair a b iha ihb => intro x; simp only [Ty.enc, eP, List.length_append]; have := iha x.1; omega
                      exact this a _ h1)
                  · have hlt0 : 0 < (a.enc (f 0).1).length := by rw [hlen 0 (by omega)]; omega
                    have h00 := key 0 0 _ _ (by simp) (List.getElem?_eq_getElem hlt0)
                    obtain ⟨b, off, spot⟩ := ad
                    have hspot : spot = none := by
                      have := World.cell?_spot h00.1
                      simpa [Addr.add] using this
                    subst hspot
                    have hb := cell_lt h00.1
                    simp [Addr.add] at hb
                    have hadd : ∀ k, (Addr.mk b off none).add k = ⟨b, off + k, none⟩ := fun k => by
                      unfold Addr.add; split <;> simp_all
                    have h9 := Frz.sl (Z := fun b => b < w.heap.size) (w := w) (b := b) (off := off) (cap := cap) (sz := P.cellsOf e) (rows := List.map a.enc ((List.range (len + 1)).map fun i => (f i).1)) (fun i o => (f i).2.getD o undef)
                      (by simpa using hl) (by first | exact hb | (split at hb <;> exact hb)) (by
                        intro row hr
                        obtain ⟨i, hi⟩ := List.mem_iff_getElem?.1 hr
                        obtain ⟨h1, rfl⟩ := hget i row hi
                        exact hlen i h1)
                      (fun i row o c hr ho => by have := (key i o row c hr ho).1; rw [hadd] at this; rw [Nat.add_assoc]; exact this)
                      (fun i row o c hr ho => (key i o row c hr ho).2)
                    simpa using h9
        | one a =>
          obtain ⟨fs, f, hu, hfs, h⟩ := tyX_one h
          rw [DataW.trod_step] at hx
          unfold DataW.trodStep at hx
          simp only [hu] at hx
          · split at hx
            · rename_i hlen
              cases hm : fs.toList.mapM (fun f => DataW.trod enc P w 0 spare held fuel f.type ((cs.drop f.offset).take (P.cellsOf f.type))) with
              | none => simp [hm] at hx
              | some xs =>
                have := ih2 a fs.toList 0 (P.cellsOf t) (by rw [hfs]; exact h) fuel cs xs hlen (Nat.zero_le _) hm
                simpa [Stands, Ty.ok, Ty.enc, Ty.α] using this
            · cases hx
        | pair a b =>
          obtain ⟨fs, hu, h⟩ := tyX_pair h
          rw [DataW.trod_step] at hx
          unfold DataW.trodStep at hx
          simp only [hu] at hx
          split at hx
          · rename_i hlen
            cases hm : fs.toList.mapM (fun f => DataW.trod enc P w 0 spare held fuel f.type ((cs.drop f.offset).take (P.cellsOf f.type))) with
            | none => simp [hm] at hx
            | some xs =>
              have := ih2 (.pair a b) fs.toList 0 (P.cellsOf t) h fuel cs xs hlen (Nat.zero_le _) hm
              simpa using this
          · cases hx
    · intro T fs o tot h fuel cs xs hlen ho hm
      match fs with
      | [] => cases T <;> simp [tyX] at h
      | [f] =>
        have h' : f.offset = o ∧ o + P.cellsOf f.type = tot ∧ tyX P n T (.inl f.type) = true := by
          cases T <;> simpa [tyX, and_assoc] using h
        obtain ⟨h1, h2, h3⟩ := h'
        rw [List.mapM_cons] at hm
        cases hx : DataW.trod enc P w 0 spare held fuel f.type ((cs.drop f.offset).take (P.cellsOf f.type)) with
        | none => simp [hx] at hm
        | some x =>
          have := ih1 T f.type h3 fuel _ x hx
          rw [h1, List.take_of_length_le (by simp; omega)] at this
          exact this
      | f :: g :: l =>
        cases T with
        | pair a b =>
          simp only [tyX, Bool.and_eq_true, decide_eq_true_eq] at h
          obtain ⟨⟨⟨h1, h2⟩, h3⟩, h4⟩ := h
          rw [List.mapM_cons] at hm
          cases hx : DataW.trod enc P w 0 spare held fuel f.type ((cs.drop f.offset).take (P.cellsOf f.type)) with
          | none => simp [hx] at hm
          | some x =>
            cases hm2 : (g :: l).mapM (fun f => DataW.trod enc P w 0 spare held fuel f.type ((cs.drop f.offset).take (P.cellsOf f.type))) with
            | none => simp [hx, hm2] at hm
            | some xs' =>
              obtain ⟨y, g1, g2, g3⟩ := ih1 a f.type h3 fuel _ x hx
              obtain ⟨z, k1, k2, k3⟩ := ih2 b (g :: l) (o + P.cellsOf f.type) tot h4 fuel cs xs' hlen h2 hm2
              rw [h1] at g2 g3
              have hl1 : ((cs.drop o).take (P.cellsOf f.type)).length = P.cellsOf f.type := by simp; omega
              rw [hl1] at g2
              refine ⟨(y, z), ⟨g1, k1⟩, ?_, fun j c hj => ?_⟩
              · simp only [Ty.enc, eP, List.length_append, g2, k2, List.length_drop]; omega
              · simp only [Ty.enc, eP] at hj
                by_cases hjl : j < P.cellsOf f.type
                · rw [List.getElem?_append_left (by omega)] at hj
                  have := g3 j c hj
                  have e : ((cs.drop o).take (P.cellsOf f.type)).getD j undef = (cs.drop o).getD j undef := by
                    simp [List.getD, List.getElem?_take, hjl]
                  rwa [e] at this
                · rw [List.getElem?_append_right (by omega), g2] at hj
                  have := k3 _ c hj
                  have e : (cs.drop (o + P.cellsOf f.type)).getD (j - P.cellsOf f.type) undef = (cs.drop o).getD j undef := by
                    simp only [List.getD, List.getElem?_drop]
                    congr 2
                    omega
                  rwa [e] at this
        | _ => simp [tyX] at h
end
end Go.PV

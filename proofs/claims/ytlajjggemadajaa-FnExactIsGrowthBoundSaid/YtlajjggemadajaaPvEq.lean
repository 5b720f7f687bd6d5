/-
  A walk over pure values: structs of two whole numbers compared.
  Conditions: none.
-/
import Derived.Test.YtlajjggemadajaaPvRun6
import Derived.Laws.StructEq
set_option linter.all false
namespace Go.PV
variable {P : Program}

theorem run_eq2 {t : TypeId} {f g : Field} {k : IntKind} {x1 x2 y1 y2 : Int} (w : World) (hu : P.underlying t = some (.struct #[f, g])) (hs : P.stoodInHeld t = false)
    (hf : P.underlying f.type = some (.int k)) (hg : P.underlying g.type = some (.int k)) (n1 : (f.name != "_") = true) (n2 : (g.name != "_") = true) (o1 : f.offset = 0) (o2 : g.offset = 1) :
    (Op.equalIn 10000 t (.agg #[.int k x1, .int k x2]) (.agg #[.int k y1, .int k y2])).run P w = .ok ((x1 == y1) && (x2 == y2)) w := by
  have hfs : P.fieldsOf t = #[f, g] := by simp [Program.fieldsOf, hu]
  rw [run_equalIn_struct w 9999 t _ _ (by rw [hfs]; exact hu) hs, hfs]
  have e1 : f.name ≠ "_" := by simpa using n1
  have e2 : g.name ≠ "_" := by simpa using n2
  have p : ∀ (h : Field) (cs : Array Value) (v : Value), P.underlying h.type = some (.int k) → cs[h.offset]? = some v → (part h.type cs h.offset).run P w = .ok v w := fun h cs v h1 h2 => by
    simp [part, isAgg, run_underlying h1, h2]
  simp only [Op.eqFields, e1, e2, ne_eq, not_false_eq_true, if_true, Sem.run_bind]
  rw [p f _ (.int k x1) hf (by simp [o1])]
  simp only [Result.andThen_ok]
  rw [p f _ (.int k y1) hf (by simp [o1])]
  simp only [Result.andThen_ok]
  rw [run_equalIn_int w 9998 f.type k k x1 y1 hf]
  simp only [Result.andThen_ok]
  cases h : (x1 == y1)
  · simp
  · simp only [Bool.not_true, Bool.false_eq_true, if_false, Sem.run_bind]
    rw [p g _ (.int k x2) hg (by simp [o2])]
    simp only [Result.andThen_ok]
    rw [p g _ (.int k y2) hg (by simp [o2])]
    simp only [Result.andThen_ok]
    rw [run_equalIn_int w 9998 g.type k k x2 y2 hg]
    simp only [Result.andThen_ok]
    cases h' : (x2 == y2) <;> simp

/-- What says that a type is a struct of two whole numbers. -/
def two (P : Program) (t : TypeId) (k : IntKind) : Bool :=
  match P.underlying t with
  | some (.struct fs) => !P.stoodInHeld t && !P.eqGuardType P.depth t && (match fs.toList with
    | [f, g] => (f.name != "_") && (g.name != "_") && f.offset == 0 && g.offset == 1 && (match P.underlying f.type, P.underlying g.type with
      | some (.int k1), some (.int k2) => k1 == k && k2 == k
      | _, _ => false)
    | _ => false)
  | _ => false
theorem two_ok {t : TypeId} {k : IntKind} {x1 x2 y1 y2 : Int} (h : two P t k = true) (w : World) :
    (Op.equalIn 10000 t (.agg #[.int k x1, .int k x2]) (.agg #[.int k y1, .int k y2])).run P w = .ok ((x1 == y1) && (x2 == y2)) w ∧ P.eqGuardType P.depth t = false := by
  unfold two at h
  cases hu : P.underlying t with
  | none => rw [hu] at h; cases h
  | some d =>
    rw [hu] at h
    cases d with
    | struct fs =>
      obtain ⟨l⟩ := fs
      match l with
      | [f, g] =>
        dsimp only at h
        cases h1 : P.underlying f.type with
        | none => rw [h1] at h; simp at h
        | some d1 =>
          cases h2 : P.underlying g.type with
          | none => rw [h1, h2] at h; cases d1 <;> simp at h
          | some d2 =>
            rw [h1, h2] at h
            cases d1 <;> first | (simp at h; done) | skip
            cases d2 <;> first | (simp at h; done) | skip
            simp only [Bool.and_eq_true, Bool.not_eq_true', beq_iff_eq] at h
            obtain ⟨⟨a1, a8⟩, ⟨⟨⟨a2, a3⟩, a4⟩, a5⟩, a6, a7⟩ := h
            subst a6
            subst a7
            exact ⟨run_eq2 w hu a1 h1 h2 a2 a3 a4 a5, a8⟩
      | [] => simp at h
      | [_] => simp at h
      | _ :: _ :: _ :: _ => simp at h
    | _ => cases h
theorem pure_eql2 {t t2 : TypeId} {a b : Operand} {k : IntKind} {x1 x2 y1 y2 : Int} (h : two P t k = true) : PureAt P (.binOp .eql t a b t2) [.agg #[.int k x1, .int k x2], .agg #[.int k y1, .int k y2]] (.bool ((x1 == y1) && (x2 == y2))) := by
  intro ρ o ho hv w
  have hv : ρ a = .agg #[.int k x1, .int k x2] ∧ ρ b = .agg #[.int k y1, .int k y2] := by simpa [Op.operands] using hv
  obtain ⟨h1, h2⟩ := two_ok (x1 := x1) (x2 := x2) (y1 := y1) (y2 := y2) h w
  simp only [execOp, ho, hv.1, hv.2, Sem.run_bind]
  rw [run_eqGuard_agg w _ t a b _ _ h2]
  simp only [Result.andThen_ok]
  rw [run_eql_struct w, h1]
  rfl
theorem pure_neq2 {t t2 : TypeId} {a b : Operand} {k : IntKind} {x1 x2 y1 y2 : Int} (h : two P t k = true) : PureAt P (.binOp .neq t a b t2) [.agg #[.int k x1, .int k x2], .agg #[.int k y1, .int k y2]] (.bool (!((x1 == y1) && (x2 == y2)))) := by
  intro ρ o ho hv w
  have hv : ρ a = .agg #[.int k x1, .int k x2] ∧ ρ b = .agg #[.int k y1, .int k y2] := by simpa [Op.operands] using hv
  obtain ⟨h1, h2⟩ := two_ok (x1 := x1) (x2 := x2) (y1 := y1) (y2 := y2) h w
  simp only [execOp, ho, hv.1, hv.2, Sem.run_bind]
  rw [run_eqGuard_agg w _ t a b _ _ h2]
  simp only [Result.andThen_ok]
  rw [run_neq_struct w, h1]
  rfl
end Go.PV

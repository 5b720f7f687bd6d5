/-
  A walk over pure values: small laws that the written walks lean on.
  Conditions: none.
-/
import Derived.Test.YtlajjggemadajaaPvRun5
set_option linter.all false
namespace Go.PV
variable {P : Program} {N : Nat}

/-- An int's number, wrapped. -/
def w64 (n : Int) : Int := IntKind.i64.wrap n
def iand (k : IntKind) (x y : Int) : Int := k.wrap ((BitVec.ofInt k.bits x) &&& (BitVec.ofInt k.bits y)).toNat
def ishr (k : IntKind) (x y : Int) : Int := x.fdiv (2 ^ (min y.toNat k.bits))
def ishl (k : IntKind) (x y : Int) : Int := k.wrap (x * 2 ^ (min y.toNat k.bits))
/-- Nothing, if the condition fails. -/
def guardO (p : Prop) [Decidable p] : Option Unit := if p then some () else none
theorem guardO_some {p : Prop} [Decidable p] {u : Unit} (h : guardO p = some u) : p := by
  unfold guardO at h
  split at h
  · assumption
  · cases h
theorem guardO_bind {p : Prop} [Decidable p] {α : Type} {f : Unit → Option α} : (guardO p).bind f = if p then f () else none := by
  unfold guardO; split <;> rfl

theorem RegOk.of_eq {c : Code} {l0 l1 l2 : LS} (h : RegOk P N c l0 l1) (e : l1 = l2) : RegOk P N c l0 l2 := e ▸ h

section
variable {α β : Type} {xs ys : List α} {f : α → List C} {g : β → List C}
theorem gre {rows : List (List C)} {n o : Nat} {row : List C} (h : rows[n]? = some row) : getRow rows [(n, o)] = some (row.drop o) := by simp [getRow, h]
theorem grs {rows rows' : List (List C)} {n o m o' : Nat} {q : Path} {row : List C} {e : TypeId} (h : rows[n]? = some row) (h2 : row[o]? = some (.sl (some e) rows')) : getRow rows ((n, o) :: (m, o') :: q) = getRow rows' ((m, o') :: q) := by
  cases q <;> simp [getRow, h, h2]
theorem gr0 {cells : List C} {rows' : List (List C)} {o m o' : Nat} {q : Path} {e : TypeId} (h2 : cells[o]? = some (.sl (some e) rows')) : getRow [cells] ((0, o) :: (m, o') :: q) = getRow rows' ((m, o') :: q) := grs (n := 0) rfl h2
theorem setL_step {rows : List (List C)} {n o : Nat} {q : Path} {cs : List C} : setL rows ((n, o) :: q) cs = rows.modify n (fun r => match q with | [] => r.take o ++ cs ++ r.drop (o + cs.length) | _ :: _ => setR r o q cs) := by
  induction rows generalizing n with
  | nil => cases n <;> simp [setL]
  | cons r rows ih =>
    cases n with
    | zero => cases q <;> simp [setL]
    | succ n => cases q <;> simp [setL, ih]
theorem setR_at {row : List C} {o : Nat} {q : Path} {cs : List C} {c : C} (h : row[o]? = some c) : setR row o q cs = row.take o ++ [setC c q cs] ++ row.drop (o + 1) := by
  induction row generalizing o with
  | nil => simp at h
  | cons r row ih =>
    cases o with
    | zero => simp at h; subst h; simp [setR]
    | succ o => simp at h; simp [setR, ih h]
theorem map_modify {n : Nat} {x y : α} {F : List C → List C} (h : xs[n]? = some x) (h2 : F (f x) = f y) : (xs.map f).modify n F = (xs.set n y).map f := by
  apply List.ext_getElem?
  intro j
  rw [List.getElem?_modify, List.getElem?_map, List.getElem?_map, List.getElem?_set]
  by_cases hj : n = j
  · subst hj
    obtain ⟨hlt, hx⟩ := List.getElem?_eq_some_iff.1 h
    subst hx
    simp [h2, hlt]
  · simp [hj]
theorem set1 {n o : Nat} {x y : α} {cs : List C} (h : xs[n]? = some x) (h2 : (f x).take o ++ cs ++ (f x).drop (o + cs.length) = f y) : setL (xs.map f) [(n, o)] cs = (xs.set n y).map f := by
  rw [setL_step]; exact map_modify h h2
theorem set2 {n o m o' : Nat} {q : Path} {x y : α} {cs : List C} {e : TypeId} {rows rows' : List (List C)} (h : xs[n]? = some x) (h1 : (f x)[o]? = some (.sl (some e) rows)) (h3 : setL rows ((m, o') :: q) cs = rows') (h2 : (f x).take o ++ [.sl (some e) rows'] ++ (f x).drop (o + 1) = f y) :
    setL (xs.map f) ((n, o) :: (m, o') :: q) cs = (xs.set n y).map f := by
  rw [setL_step]
  refine map_modify h ?_
  show setR (f x) o ((m, o') :: q) cs = f y
  rw [setR_at h1, ← h2, ← h3]
  rfl
theorem rep_fix (f : α → List C) (z : α) {n : Nat} : List.replicate n (f z) = (List.replicate n z).map f := by simp
theorem rows_len {sz : Nat} (h : ∀ x, (f x).length = sz) : ∀ row ∈ xs.map f, row.length = sz := by
  intro row hr
  obtain ⟨x, _, rfl⟩ := List.mem_map.1 hr
  exact h x
theorem sl_all : ((xs.map f).take (xs.map f).length).drop 0 = xs.map f := by rw [List.take_length]; rfl
theorem sl_hi {n : Nat} : ((xs.map f).take n).drop 0 = (xs.take n).map f := by simp [List.map_take]
theorem sl_lo {n : Nat} : ((xs.map f).take (xs.map f).length).drop n = (xs.drop n).map f := by rw [List.take_length]; simp [List.map_drop]
theorem sl_both {n m : Nat} : ((xs.map f).take n).drop m = ((xs.take n).drop m).map f := by simp [List.map_take, List.map_drop]
/-! what is handed on is frozen -/
theorem eraL_enc {h : α → List C} (hf : ∀ x, eraR (f x) = h x) : eraL (xs.map f) = xs.map h := by
  rw [eraL_map, List.map_map]; exact List.map_congr_left fun x _ => hf x
theorem era_O {t : TypeId} {h : α → List C} (hf : ∀ x, eraR (f x) = h x) (l : List α) : eraR (eO t f l) = eF h l := by
  show [era (.sl (some t) (l.map f))] = _
  simp only [era, eraL_enc hf]; rfl
theorem era_F {h : α → List C} (hf : ∀ x, eraR (f x) = h x) (l : List α) : eraR (eF f l) = eF h l := by
  show [era (.sl none (l.map f))] = _
  simp only [era, eraL_enc hf]; rfl
theorem eraR_append (a b : List C) : eraR (a ++ b) = eraR a ++ eraR b := by simp [eraR_map]
theorem era_P {h : α → List C} {k : β → List C} (hf : ∀ x, eraR (f x) = h x) (hg : ∀ x, eraR (g x) = k x) (x : α × β) : eraR (eP f g x) = eP h k x := by
  unfold eP; rw [eraR_append, hf, hg]
theorem er_I (n : Int) : eraR (eI n) = eI n := rfl
theorem er_U (k : IntKind) (n : Int) : eraR (eU k n) = eU k n := rfl
theorem er_B (n : Bool) : eraR (eB n) = eB n := rfl
theorem er_T (n : ByteArray) : eraR (eT n) = eT n := rfl
theorem erc_sl {o : Option TypeId} {l l' : List (List C)} {r r' : List C} (h1 : eraL l = l') (h2 : eraR r = r') : eraR (.sl o l :: r) = .sl none l' :: r' := by
  show era (.sl o l) :: eraR r = _
  simp only [era, h1, h2]
theorem erc_raw {v : Value} {r r' : List C} (h2 : eraR r = r') : eraR (.raw v :: r) = .raw v :: r' := by
  show era (.raw v) :: eraR r = _
  simp only [era, h2]
/-! owned throughout, frozen throughout -/
theorem wnR_append (a b : List C) : wnR (a ++ b) = (wnR a && wnR b) := by
  induction a with
  | nil => simp [wnR]
  | cons c a ih => simp [wnR, ih, Bool.and_assoc]
theorem wnL_enc (h : ∀ x, wnR (f x) = true) : wnL (xs.map f) = true := by
  induction xs with
  | nil => rfl
  | cons x xs ih => simp [wnL, h, ih]
theorem frR_append (a b : List C) : frR (a ++ b) = (frR a && frR b) := by
  induction a with
  | nil => simp [frR]
  | cons c a ih => simp [frR, ih, Bool.and_assoc]
theorem frL_enc (h : ∀ x, frR (f x) = true) : frL (xs.map f) = true := by
  induction xs with
  | nil => rfl
  | cons x xs ih => simp [frL, h, ih]
theorem wn_I (n : Int) : wnR (eI n) = true := rfl
theorem wn_U (k : IntKind) (n : Int) : wnR (eU k n) = true := rfl
theorem wn_B (n : Bool) : wnR (eB n) = true := rfl
theorem wn_T (n : ByteArray) : wnR (eT n) = true := rfl
theorem wn_P (h1 : ∀ x, wnR (f x) = true) (h2 : ∀ x, wnR (g x) = true) (x : α × β) : wnR (eP f g x) = true := by unfold eP; rw [wnR_append, h1, h2]; rfl
theorem wn_O {t : TypeId} (h1 : ∀ x, wnR (f x) = true) (l : List α) : wnR (eO t f l) = true := by simp [eO, wnR, wnC, wnL_enc h1]
theorem fr_I (n : Int) : frR (eI n) = true := rfl
theorem fr_U (k : IntKind) (n : Int) : frR (eU k n) = true := rfl
theorem fr_B (n : Bool) : frR (eB n) = true := rfl
theorem fr_T (n : ByteArray) : frR (eT n) = true := rfl
theorem fr_P (h1 : ∀ x, frR (f x) = true) (h2 : ∀ x, frR (g x) = true) (x : α × β) : frR (eP f g x) = true := by unfold eP; rw [frR_append, h1, h2]; rfl
theorem fr_F (h1 : ∀ x, frR (f x) = true) (l : List α) : frR (eF f l) = true := by simp [eF, frR, frC, frL_enc h1]
theorem frR1 {l : List (List C)} {r : List C} (h : frL l = true) (h2 : frR r = true) : frR (.sl none l :: r) = true := by simp [frR, frC, h, h2]
theorem wnR1 {t : TypeId} {l : List (List C)} {r : List C} (h : wnL l = true) (h2 : wnR r = true) : wnR (.sl (some t) l :: r) = true := by simp [wnR, wnC, h, h2]
end
theorem wnc {v : Value} {r : List C} (h : wnR r = true) : wnR (.raw v :: r) = true := by simp [wnR, wnC, h]
theorem sa_p {v : Value} {l : List RV} (h : l.all simpleR = true) : (RV.p v :: l).all simpleR = true := by simp [simpleR, h]
theorem sa_o {g : Bool} {cs : List C} {l : List RV} (h0 : wnR cs = true) (h : l.all simpleR = true) : (RV.ov g cs :: l).all simpleR = true := by simp only [List.all_cons, simpleR, h0, h, Bool.and_self]
end Go.PV

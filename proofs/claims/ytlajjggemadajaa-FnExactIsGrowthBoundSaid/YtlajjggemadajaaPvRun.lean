/-
  A walk over pure values: operations reckoned, with hints where a value can't be.
  Conditions: none.
-/
import Derived.Test.YtlajjggemadajaaPvZe
set_option linter.all false
namespace Go.PV
variable {P : Program} {N : Nat}

/-- What helps at an operation. -/
structure HH where
  deep : Option (List C) := none
  row : Option (List C) := none
  n : Option Nat := none
  b : Option Bool := none
  g : Option Bool := none
  pv : Option Value := none
  call : Option (List Arg × List RV × Bool) := none
  fix : Option (Nat × SV) := none

def allP : List Prop → Prop
  | [] => True
  | p :: l => p ∧ allP l
theorem allP_append {l l' : List Prop} : allP (l ++ l') ↔ allP l ∧ allP l' := by
  induction l with
  | nil => simp [allP]
  | cons p l ih => simp [allP, ih, and_assoc]

/-- An operation on plain values, by the model. -/
def PureAt (P : Program) (op : Op) (vals : List Value) (v : Value) : Prop :=
  ∀ (ρ : Operand → Value) (o : Oper), o.op = op → op.operands.toList.map ρ = vals → ∀ w, (execOp ρ o).run P w = .ok (.value v) w

def valOf : SV → Option Value
  | .p v => some v
  | _ => none
def valsOf (ev : Operand → SV) : List Operand → Option (List Value)
  | [] => some []
  | x :: l => match valOf (ev x), valsOf ev l with
    | some v, some vs => some (v :: vs)
    | _, _ => none
def xPure (P : Program) (ev : Operand → SV) (o : Oper) (h : HH) : Option (SV × List Prop) :=
  match h.pv, valsOf ev o.op.operands.toList with
  | some v, some vs => some (.p v, [PureAt P o.op vs v])
  | _, _ => none
theorem xPure_ok {ev : Operand → SV} {o : Oper} {h : HH} {y : SV} {obs : List Prop} {K : SV → Prop} (e : xPure P ev o h = some (y, obs)) (ho : allP obs) (hk : K y) : ∃ v, PureRun P ev o v ∧ K (.p v) := by
  unfold xPure at e
  split at e
  · rename_i v vs h1 h2
    simp only [Option.some.injEq, Prod.mk.injEq] at e
    obtain ⟨rfl, rfl⟩ := e
    refine ⟨v, ⟨fun x => (valOf (ev x)).getD undef, ?_, ?_⟩, hk⟩
    · have : ∀ (l : List Operand) (vs : List Value), valsOf ev l = some vs → (∀ x ∈ l, ev x = .p ((valOf (ev x)).getD undef)) := by
        intro l
        induction l with
        | nil => simp
        | cons x l ih =>
          intro vs hv y hy
          simp only [valsOf] at hv
          split at hv
          · rename_i v' vs' h3 h4
            rcases List.mem_cons.1 hy with rfl | hy
            · cases hx : ev y <;> simp_all [valOf]
            · exact ih vs' h4 y hy
          · cases hv
      intro x hx
      exact this _ _ h2 x (by simpa using hx)
    · refine ho.1 _ o rfl ?_
      have : ∀ (l : List Operand) (vs : List Value), valsOf ev l = some vs → l.map (fun x => (valOf (ev x)).getD undef) = vs := by
        intro l
        induction l with
        | nil => intro vs hv; simpa [valsOf] using hv
        | cons x l ih =>
          intro vs hv
          simp only [valsOf] at hv
          split at hv
          · rename_i v' vs' h3 h4
            simp only [Option.some.injEq] at hv
            subst hv
            simp [h3, ih _ h4]
          · cases hv
      exact this _ _ h2
  · cases e

def xInt (op : BinOp) (k : IntKind) (a b : Int) : Option (SV × List Prop) :=
  match op with
  | .add => some (.p (.int k (k.wrap (a + b))), [])
  | .sub => some (.p (.int k (k.wrap (a - b))), [])
  | .mul => some (.p (.int k (k.wrap (a * b))), [])
  | .quo => some (.p (.int k (k.wrap (a.tdiv b))), [b ≠ 0])
  | .rem => some (.p (.int k (a.tmod b)), [b ≠ 0])
  | .eql => some (.p (.bool (a == b)), [])
  | .neq => some (.p (.bool (a != b)), [])
  | .lss => some (.p (.bool (decide (a < b))), [])
  | .leq => some (.p (.bool (decide (a ≤ b))), [])
  | .gtr => some (.p (.bool (decide (a > b))), [])
  | .geq => some (.p (.bool (decide (a ≥ b))), [])
  | _ => none
theorem xInt_ok {op : BinOp} {k : IntKind} {a b : Int} {y : SV} {obs : List Prop} {K : SV → Prop} {F : Prop} (e : xInt op k a b = some (y, obs)) (ho : allP obs) (hk : K y) : intK op k a b F K := by
  cases op <;> simp only [xInt, Option.some.injEq, Prod.mk.injEq, reduceCtorEq] at e <;> obtain ⟨rfl, rfl⟩ := e <;> first | exact hk | exact ⟨ho.1, hk⟩
def xBool (P : Program) (op : BinOp) (t : TypeId) (a b : Bool) : Option (SV × List Prop) :=
  match op, P.underlying t with
  | .eql, some .bool => some (.p (.bool (a == b)), [])
  | .neq, some .bool => some (.p (.bool (!(a == b))), [])
  | _, _ => none
def xStr (op : BinOp) (a b : ByteArray) : Option (SV × List Prop) :=
  match op with
  | .eql => some (.p (.bool (a.toList == b.toList)), [])
  | .neq => some (.p (.bool (!(a.toList == b.toList))), [])
  | .add => some (.p (.string (a ++ b)), [a.size + b.size ≤ 1099511627776])
  | _ => none
def xBin (P : Program) (op : BinOp) (t : TypeId) (x y : SV) (F : Option (SV × List Prop)) : Option (SV × List Prop) :=
  match x, y with
  | .p (.int k a), .p (.int k' b) => (match xInt op k a b with
    | some r => if k = k' then some r else none
    | none => if k = k' then F else none)
  | .p (.bool a), .p (.bool b) => xBool P op t a b
  | .p (.string a), .p (.string b) => (match xStr op a b with
    | some r => some r
    | none => F)
  | _, _ => F
theorem intK_F {op : BinOp} {k : IntKind} {a b : Int} {K : SV → Prop} {F : Prop} (e : xInt op k a b = none) (h : F) : intK op k a b F K := by
  cases op <;> simp [xInt] at e <;> exact h
theorem strK_F {op : BinOp} {a b : ByteArray} {K : SV → Prop} {F : Prop} (e : xStr op a b = none) (h : F) : strK op a b F K := by
  cases op <;> simp [xStr] at e <;> exact h
theorem xBin_ok {op : BinOp} {t : TypeId} {x y z : SV} {obs : List Prop} {K : SV → Prop} {Fo : Option (SV × List Prop)} {F : Prop} (hF : ∀ z obs, Fo = some (z, obs) → allP obs → K z → F)
    (e : xBin P op t x y Fo = some (z, obs)) (ho : allP obs) (hk : K z) : binK P op t x y F K := by
  unfold xBin at e
  split at e
  · rename_i k a k' b
    split at e
    · rename_i r hr
      split at e
      · rename_i hkk
        cases e
        exact ⟨hkk, xInt_ok hr ho hk⟩
      · cases e
    · rename_i hr
      split at e
      · rename_i hkk
        exact ⟨hkk, intK_F hr (hF _ _ e ho hk)⟩
      · cases e
  · rename_i a b
    unfold xBool at e
    split at e
    · rename_i hu
      simp only [Option.some.injEq, Prod.mk.injEq] at e
      obtain ⟨rfl, rfl⟩ := e
      exact ⟨hu, hk⟩
    · rename_i hu
      simp only [Option.some.injEq, Prod.mk.injEq] at e
      obtain ⟨rfl, rfl⟩ := e
      exact ⟨hu, hk⟩
    · cases e
  · rename_i a b
    split at e
    · rename_i r hr
      cases e
      cases op <;> simp only [xStr, Option.some.injEq, Prod.mk.injEq, reduceCtorEq] at hr <;> obtain ⟨rfl, rfl⟩ := hr <;> first | exact hk | exact ⟨ho.1, hk⟩
    · rename_i hr
      exact strK_F hr (hF _ _ e ho hk)
  · rename_i h1 h2 h3
    have hf := hF _ _ e ho hk
    unfold binK
    split
    · exact absurd rfl (h1 _ _ _ _ rfl)
    · exact absurd rfl (h2 _ _ rfl)
    · exact absurd rfl (h3 _ _ rfl)
    · exact hf

/-! ### data -/
def xRow (rows : List (List C)) (n : Int) (h : HH) : Option (List C × List Prop) := match h.row with
  | some row => some (row, [0 ≤ n, rows[n.toNat]? = some row])
  | none => none
/-- What a reference stands for. -/
def xDeref (rt : Nat → SV) (x : SV) (h : HH) : Option (Bool × List C × List Prop) :=
  match x, h.deep with
  | .ref r q none, some (c :: cs) => some (false, [c], [getRow (rows1 (rt r)) q = some (c :: cs)])
  | x, _ => match deref rt x with
    | some (g, cs) => some (g, cs, [])
    | none => none
theorem xDeref_ok {rt : Nat → SV} {x : SV} {h : HH} {g : Bool} {cs : List C} {obs : List Prop} (e : xDeref rt x h = some (g, cs, obs)) (ho : allP obs) : deref rt x = some (g, cs) := by
  unfold xDeref at e
  split at e
  · rename_i r q c cs' h1
    simp only [Option.some.injEq, Prod.mk.injEq] at e
    obtain ⟨rfl, rfl, rfl⟩ := e
    simp [deref, ho.1]
  · split at e
    · rename_i g' cs' h1
      simp only [Option.some.injEq, Prod.mk.injEq] at e
      obtain ⟨rfl, rfl, rfl⟩ := e
      exact h1
    · cases e
def xSl (rt : Nat → SV) (x : SV) (h : HH) : Option (Option TypeId × List (List C) × List Prop) := match xDeref rt x h with
  | some (false, [.sl o rows], obs) => some (o, rows, obs)
  | _ => none
theorem xSl_ok {rt : Nat → SV} {x : SV} {h : HH} {o : Option TypeId} {rows : List (List C)} {obs : List Prop} (e : xSl rt x h = some (o, rows, obs)) (ho : allP obs) : slOf rt x = some (o, rows) := by
  unfold xSl at e
  split at e
  · rename_i o' rows' obs' h1
    simp only [Option.some.injEq, Prod.mk.injEq] at e
    obtain ⟨rfl, rfl, rfl⟩ := e
    simp [slOf, xDeref_ok h1 ho]
  · cases e

def xLoad (P : Program) (rt : Nat → SV) (t : TypeId) (x : SV) (h : HH) : Option (SV × List Prop) :=
  match tyC P t with
  | some (g, n) => if (g || n == 1) = true then (match x with
    | .fadr cs => if n ≤ cs.length then some (mkD g (cs.take n), []) else none
    | .addr r q => (match (match h.row with | some cs => some (cs, [getRow (rows1 (rt r)) q = some cs]) | none => (match getRow (rows1 (rt r)) q with | some cs => some (cs, []) | none => none)) with
      | some (cs, obs) => if n ≤ cs.length then (match raws (cs.take n) with
        | some vs => some (.p (mkV g vs), obs)
        | none => (match h.b with
          | some true => some (.d g (cs.take n), (frR (cs.take n) = true) :: obs)
          | _ => if nd (cs.take n) then some (.ref r q (if g then some n else none), (frR (cs.take n) = false) :: obs) else none)) else none
      | none => none)
    | _ => none) else none
  | none => none
theorem xLoad_ok {rt : Nat → SV} {t : TypeId} {x : SV} {h : HH} {y : SV} {obs : List Prop} {K : SV → Prop} (e : xLoad P rt t x h = some (y, obs)) (ho : allP obs) (hk : K y) : loadK P rt t x K := by
  unfold xLoad at e
  split at e
  · rename_i g n hT
    split at e
    · rename_i hg
      refine ⟨g, n, hT, fun hg' => by simpa [hg'] using hg, ?_⟩
      split at e
      · rename_i cs
        split at e
        · rename_i hn
          simp only [Option.some.injEq, Prod.mk.injEq] at e
          obtain ⟨rfl, rfl⟩ := e
          exact ⟨hn, hk⟩
        · cases e
      · rename_i r q
        split at e
        · rename_i cs obs' hcs
          split at e
          · rename_i hn
            have key : allP obs' → getRow (rows1 (rt r)) q = some cs := fun ha => by
              split at hcs
              · simp only [Option.some.injEq, Prod.mk.injEq] at hcs
                obtain ⟨rfl, rfl⟩ := hcs
                exact ha.1
              · split at hcs
                · rename_i hcs2
                  simp only [Option.some.injEq, Prod.mk.injEq] at hcs
                  obtain ⟨rfl, rfl⟩ := hcs
                  exact hcs2
                · cases hcs
            split at e
            · rename_i vs hvs
              simp only [Option.some.injEq, Prod.mk.injEq] at e
              obtain ⟨rfl, rfl⟩ := e
              exact ⟨cs, key ho, hn, by simpa [hvs] using hk⟩
            · rename_i hvs
              split at e
              · simp only [Option.some.injEq, Prod.mk.injEq] at e
                obtain ⟨rfl, rfl⟩ := e
                exact ⟨cs, key ho.2, hn, by simp [hvs, ho.1]; exact hk⟩
              · split at e
                · rename_i hnd
                  simp only [Option.some.injEq, Prod.mk.injEq] at e
                  obtain ⟨rfl, rfl⟩ := e
                  refine ⟨cs, key ho.2, hn, ?_⟩
                  simp only [hvs, ho.1, hnd, if_true]
                  exact hk
                · cases e
          · cases e
        · cases e
      · cases e
    · cases e
  · cases e

def xIdx (P : Program) (rt : Nat → SV) (t : TypeId) (x i : SV) (h : HH) : Option (SV × List Prop) :=
  match i, slE P t, xSl rt x h with
  | .p (.int _ n), some (_, sz), some (o, rows, obs) => (match h.row with
    | some row => if row.length = sz then (match o, x with
      | none, _ => some (.fadr row, (0 ≤ n) :: (rows[n.toNat]? = some row) :: obs)
      | some _, .ref r q none => some (.addr r (q ++ [(n.toNat, 0)]), (0 ≤ n) :: (rows[n.toNat]? = some row) :: obs)
      | _, _ => none) else none
    | none => none)
  | _, _, _ => none
theorem xIdx_ok {rt : Nat → SV} {t : TypeId} {x i : SV} {h : HH} {y : SV} {obs : List Prop} {K : SV → Prop} (e : xIdx P rt t x i h = some (y, obs)) (ho : allP obs) (hk : K y) : idxK P rt t x i K := by
  unfold xIdx at e
  split at e
  · rename_i k n e' sz o rows obs' hE hS
    split at e
    · rename_i row hrow
      split at e
      · rename_i hsz
        split at e
        · simp only [Option.some.injEq, Prod.mk.injEq] at e
          obtain ⟨rfl, rfl⟩ := e
          exact ⟨ho.1, e', sz, none, rows, row, hE, xSl_ok hS ho.2.2, ho.2.1, hsz, hk⟩
        · simp only [Option.some.injEq, Prod.mk.injEq] at e
          obtain ⟨rfl, rfl⟩ := e
          exact ⟨ho.1, e', sz, _, rows, row, hE, xSl_ok hS ho.2.2, ho.2.1, hsz, hk⟩
        · cases e
      · cases e
    · cases e
  · cases e

def xLen (P : Program) (rt : Nat → SV) (t : TypeId) (x : SV) (h : HH) : Option (SV × List Prop) :=
  match x with
  | .p (.string s) => (match P.underlying t with
    | some .string => some (.p (.int .i64 s.size), [])
    | _ => none)
  | x => match xSl rt x h, slE P t with
    | some (_, rows, obs), some _ => (match h.n with
      | some m => some (.p (.int .i64 m), (rows.length = m) :: obs)
      | none => some (.p (.int .i64 rows.length), obs))
    | _, _ => none
theorem xLen_ok {rt : Nat → SV} {t : TypeId} {x : SV} {h : HH} {y : SV} {obs : List Prop} {K : SV → Prop} (e : xLen P rt t x h = some (y, obs)) (ho : allP obs) (hk : K y) : lenK P rt t x K := by
  unfold xLen at e
  split at e
  · split at e
    · rename_i hu
      simp only [Option.some.injEq, Prod.mk.injEq] at e
      obtain ⟨rfl, rfl⟩ := e
      exact ⟨hu, hk⟩
    · cases e
  · rename_i hx
    unfold lenK
    split
    · exact absurd rfl (hx _)
    · split at e
      · rename_i o rows obs' z hS hE
        split at e
        · simp only [Option.some.injEq, Prod.mk.injEq] at e
          obtain ⟨rfl, rfl⟩ := e
          refine ⟨o, rows, xSl_ok hS ho.2, by simp [hE], ?_⟩
          rw [ho.1]; exact hk
        · simp only [Option.some.injEq, Prod.mk.injEq] at e
          obtain ⟨rfl, rfl⟩ := e
          exact ⟨o, rows, xSl_ok hS ho, by simp [hE], hk⟩
      · cases e

end Go.PV

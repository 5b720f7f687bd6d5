/-
  A walk over pure values: what stands for what, and that each operation keeps it.
  Conditions: none.
-/
import Derived.Deep.Slices
import Derived.WalkKit
import Derived.ProofKit
import Derived.Below
import Derived.Carry
import Derived.OpenShut
import Derived.Laws.StructEq
import Derived.Lib.SliceRun
import Derived.Laws.IdiomCopy
import Derived.KernelRfl
import Derived.Lib.ItoaNum
import Derived.Lib.LaidTab
import Derived.Sort.Grow
import Derived.Deep.Draws
import Derived.Laws.Strings
import Derived.Laws.Strings2
import Derived.Laws.Slices
import Derived.Lib.Bytealg
import Derived.Lib.IndexMore
import Derived.Lib.AtoiAll
import Derived.IntWalk
import Derived.Test.YtgebigiffoiagaaPvBx
set_option linter.all false
/-
 A walk over pure values: operations reckoned, with hints where a value can't be.
 Conditions: none.
-/
namespace Go.PV
variable {P : Program} {N : Nat}
structure HH where
 deep : Option (List C) := none
 row : Option (List C) := none
 n : Option Nat := none
 b : Option Bool := none
 g : Option Bool := none
 pv : Option Value := none
 call : Option (Option (List Arg) × List RV × Bool) := none
 lend : Option (Option (List Arg) × List RV × SV × Bool) := none
 fix : Option (Nat × SV) := none
 pre : Option (Nat × SV) := none
 take : Option (Nat × List C) := none
 bts : Option (List UInt8) := none
def allP : List Prop → Prop
 | [] => True
 | p :: l => p ∧ allP l
theorem allP_append {l l' : List Prop} : allP (l ++ l') ↔ allP l ∧ allP l' := by
 induction l with
 | nil => simp [allP]
 | cons p l ih => simp [allP, ih, and_assoc]
def asO (as0 : List Arg) : Option (List Arg) → List Arg
 | none => as0
 | some axs => axs
def asP (as0 : List Arg) : Option (List Arg) → List Prop
 | none => []
 | some axs => [as0 = axs]
theorem as_ok {as0 : List Arg} {o : Option (List Arg)} (h : allP (asP as0 o)) : asO as0 o = as0 := by
 cases o with
 | none => rfl
 | some axs => exact h.1.symm
def isPR : RV → Bool
 | .p _ => true
 | _ => false
def smP (b : Bool) (vals : List RV) : List Prop := if (!b || vals.all isPR) = true then [] else [vals.all simpleR = true]
theorem all_sm {vals : List RV} (h : vals.all isPR = true) : vals.all simpleR = true := by
 induction vals with
 | nil => rfl
 | cons v l ih =>
  simp only [List.all_cons, Bool.and_eq_true] at h ⊢
  refine ⟨?_, ih h.2⟩
  cases v <;> simp_all [isPR, simpleR]
theorem sm_ok {b : Bool} {vals : List RV} (h : allP (smP b vals)) : (!b || vals.all simpleR) = true := by
 unfold smP at h
 cases b with
 | false => rfl
 | true =>
  cases hv : vals.all isPR with
  | true => rw [all_sm hv]; rfl
  | false => simp only [hv, Bool.not_true, Bool.or_self, Bool.false_eq_true, if_false] at h; rw [h.1]; rfl
def rawB : List C → Bool
 | [] => true
 | .raw _ :: l => rawB l
 | _ :: _ => false
theorem rawB_wn {l : List C} (h : rawB l = true) : wnR l = true := by
 induction l with
 | nil => rfl
 | cons c l ih =>
  cases c with
  | raw v => simpa [wnR, wnC] using ih h
  | _ => simp [rawB] at h
def rawS : SV → Bool
 | .box cs | .ov _ cs => rawB cs
 | _ => false
theorem rawS_wn {x : SV} (h : rawS x = true) : wnS x = true := by
 cases x <;> first | exact rawB_wn h | cases h
def smL (b : Bool) (vals : List RV) (x : SV) : List Prop := if (!b || (vals.all isPR && rawS x)) = true then [] else [(vals.all simpleR && wnS x) = true]
theorem smL_ok {b : Bool} {vals : List RV} {x : SV} (h : allP (smL b vals x)) : (!b || (vals.all simpleR && wnS x)) = true := by
 unfold smL at h
 cases b with
 | false => rfl
 | true =>
  cases hv : (vals.all isPR && rawS x) with
  | true =>
   simp only [Bool.and_eq_true] at hv
   rw [all_sm hv.1, rawS_wn hv.2]; rfl
  | false => simp only [hv, Bool.not_true, Bool.or_self, Bool.false_eq_true, if_false] at h; rw [h.1]; rfl
def PureAt (P : Program) (op : Op) (vals : List Value) (v : Value) : Prop :=
 ∀ (ρ : Operand → Value) (o : Oper), o.op = op → op.operands.toList.map ρ = vals → ∀ w, (execOp ρ o).run P w = .ok (.value v) w
def valOf : SV → Option Value
 | .p v => some v
 | _ => none
def valsOf (ev : Operand → SV) : List Operand → Option (List Value)
 | [] => some []
 | x :: l => match valOf (ev x), valsOf ev l with
  | some v, some vs => some (v :: vs)
  | _, _ => none
def xPure (P : Program) (ev : Operand → SV) (o : Oper) (h : HH) : Option (SV × List Prop) :=
 match h.pv, valsOf ev o.op.operands.toList with
 | some v, some vs => some (.p v, [PureAt P o.op vs v])
 | _, _ => none
theorem yff {ev : Operand → SV} {o : Oper} {h : HH} {y : SV} {obs : List Prop} {K : SV → Prop} (e : xPure P ev o h = some (y, obs)) (ho : allP obs) (hk : K y) : ∃ v, PureRun P ev o v ∧ K (.p v) := by
 unfold xPure at e
 split at e
 ·rename_i v vs h1 h2
  simp only [Option.some.injEq, Prod.mk.injEq] at e
  obtain ⟨rfl, rfl⟩ := e
  refine ⟨v, ⟨fun x => (valOf (ev x)).getD undef, ?_, ?_⟩, hk⟩
  ·have : ∀ (l : List Operand) (vs : List Value), valsOf ev l = some vs → (∀ x ∈ l, ev x = .p ((valOf (ev x)).getD undef)) := by
    intro l
    induction l with
    | nil => simp
    | cons x l ih =>
     intro vs hv y hy
     simp only [valsOf] at hv
     split at hv
     ·rename_i v' vs' h3 h4
      rcases List.mem_cons.1 hy with rfl | hy
      ·cases hx : ev y <;> simp_all [valOf]
      ·exact ih vs' h4 y hy
     ·cases hv
   intro x hx
   exact this _ _ h2 x (by simpa using hx)
  ·refine ho.1 _ o rfl ?_
   have : ∀ (l : List Operand) (vs : List Value), valsOf ev l = some vs → l.map (fun x => (valOf (ev x)).getD undef) = vs := by
    intro l
    induction l with
    | nil => intro vs hv; simpa [valsOf] using hv
    | cons x l ih =>
     intro vs hv
     simp only [valsOf] at hv
     split at hv
     ·rename_i v' vs' h3 h4
      simp only [Option.some.injEq] at hv
      subst hv
      simp [h3, ih _ h4]
     ·cases hv
   exact this _ _ h2
 ·cases e
def xInt (op : BinOp) (k : IntKind) (a b : Int) : Option (SV × List Prop) :=
 match op with
 | .add => some (.p (.int k (k.wrap (a + b))), [])
 | .sub => some (.p (.int k (k.wrap (a - b))), [])
 | .mul => some (.p (.int k (k.wrap (a * b))), [])
 | .quo => some (.p (.int k (k.wrap (a.tdiv b))), [b ≠ 0])
 | .rem => some (.p (.int k (a.tmod b)), [b ≠ 0])
 | .eql => some (.p (.bool (a == b)), [])
 | .neq => some (.p (.bool (a != b)), [])
 | .lss => some (.p (.bool (decide (a < b))), [])
 | .leq => some (.p (.bool (decide (a ≤ b))), [])
 | .gtr => some (.p (.bool (decide (a > b))), [])
 | .geq => some (.p (.bool (decide (a ≥ b))), [])
 | _ => none
theorem xInt_ok {op : BinOp} {k : IntKind} {a b : Int} {y : SV} {obs : List Prop} {K : SV → Prop} {F : Prop} (e : xInt op k a b = some (y, obs)) (ho : allP obs) (hk : K y) : intK op k a b F K := by
 cases op <;> simp only [xInt, Option.some.injEq, Prod.mk.injEq, reduceCtorEq] at e <;> obtain ⟨rfl, rfl⟩ := e <;> first | exact hk | exact ⟨ho.1, hk⟩
def xBool (P : Program) (op : BinOp) (t : TypeId) (a b : Bool) : Option (SV × List Prop) :=
 match op, P.underlying t with
 | .eql, some .bool => some (.p (.bool (a == b)), [])
 | .neq, some .bool => some (.p (.bool (!(a == b))), [])
 | _, _ => none
def xStr (op : BinOp) (a b : ByteArray) : Option (SV × List Prop) :=
 match op with
 | .eql => some (.p (.bool (a.toList == b.toList)), [])
 | .neq => some (.p (.bool (!(a.toList == b.toList))), [])
 | .add => some (.p (.string (a ++ b)), [a.size + b.size ≤ 1099511627776])
 | _ => none
def xErr (P : Program) (op : BinOp) (t : TypeId) (b : Bool) : Option (SV × List Prop) :=
 match op with
 | .eql => some (.p (.bool b), [P.underlying t = some (.interface (P.methodsAt t))])
 | .neq => some (.p (.bool (!b)), [P.underlying t = some (.interface (P.methodsAt t))])
 | _ => none
def xBin (P : Program) (op : BinOp) (t : TypeId) (x y : SV) (F : Option (SV × List Prop)) : Option (SV × List Prop) :=
 match x, y with
 | .p (.int k a), .p (.int k' b) => (match xInt op k a b with
  | some r => if k = k' then some r else F
  | none => F)
 | .p (.bool a), .p (.bool b) => xBool P op t a b
 | .p (.string a), .p (.string b) => (match xStr op a b with
  | some r => some r
  | none => F)
 | .d false [.er b], .p .nilIface => xErr P op t b
 | _, _ => F
theorem strK_F {op : BinOp} {a b : ByteArray} {K : SV → Prop} {F : Prop} (e : xStr op a b = none) (h : F) : strK op a b F K := by
 cases op <;> simp [xStr] at e <;> exact h
theorem xBin_ok {op : BinOp} {t : TypeId} {x y z : SV} {obs : List Prop} {K : SV → Prop} {Fo : Option (SV × List Prop)} {F : Prop} (hF : ∀ z obs, Fo = some (z, obs) → allP obs → K z → F)
  (e : xBin P op t x y Fo = some (z, obs)) (ho : allP obs) (hk : K z) : binK P op t x y F K := by
 unfold xBin at e
 split at e
 ·rename_i k a k' b
  split at e
  ·rename_i r hr
   split at e
   ·rename_i hkk
    cases e
    exact .inl ⟨hkk, xInt_ok hr ho hk⟩
   ·exact .inr (hF _ _ e ho hk)
  ·exact .inr (hF _ _ e ho hk)
 ·rename_i a b
  unfold xBool at e
  split at e
  ·rename_i hu
   simp only [Option.some.injEq, Prod.mk.injEq] at e
   obtain ⟨rfl, rfl⟩ := e
   exact ⟨hu, hk⟩
  ·rename_i hu
   simp only [Option.some.injEq, Prod.mk.injEq] at e
   obtain ⟨rfl, rfl⟩ := e
   exact ⟨hu, hk⟩
  ·cases e
 ·rename_i a b
  split at e
  ·rename_i r hr
   cases e
   cases op <;> simp only [xStr, Option.some.injEq, Prod.mk.injEq, reduceCtorEq] at hr <;> obtain ⟨rfl, rfl⟩ := hr <;> first | exact hk | exact ⟨ho.1, hk⟩
  ·rename_i hr
   exact strK_F hr (hF _ _ e ho hk)
 ·rename_i b
  cases op <;> simp only [xErr, Option.some.injEq, Prod.mk.injEq, reduceCtorEq] at e <;> obtain ⟨rfl, rfl⟩ := e <;> exact ⟨ho.1, hk⟩
 ·rename_i h1 h2 h3 h4
  have hf := hF _ _ e ho hk
  unfold binK
  split
  ·exact absurd rfl (h1 _ _ _ _ rfl)
  ·exact absurd rfl (h2 _ _ rfl)
  ·exact absurd rfl (h3 _ _ rfl)
  ·exact absurd rfl (h4 _ rfl)
  ·exact hf
def xRow (rows : List (List C)) (n : Int) (h : HH) : Option (List C × List Prop) := match h.row with
 | some row => some (row, [0 ≤ n, rows[n.toNat]? = some row])
 | none => none
def xDeref (rt : Nat → SV) (x : SV) (h : HH) : Option (Bool × List C × List Prop) :=
 match x, h.deep with
 | .ref r q none, some (c :: cs) => some (false, [c], [getRow (rows1 (rt r)) q = some (c :: cs)])
 | x, _ => match deref rt x with
  | some (g, cs) => some (g, cs, [])
  | none => none
theorem yem {rt : Nat → SV} {x : SV} {h : HH} {g : Bool} {cs : List C} {obs : List Prop} (e : xDeref rt x h = some (g, cs, obs)) (ho : allP obs) : deref rt x = some (g, cs) := by
 unfold xDeref at e
 split at e
 ·rename_i r q c cs' h1
  simp only [Option.some.injEq, Prod.mk.injEq] at e
  obtain ⟨rfl, rfl, rfl⟩ := e
  simp [deref, ho.1]
 ·split at e
  ·rename_i g' cs' h1
   simp only [Option.some.injEq, Prod.mk.injEq] at e
   obtain ⟨rfl, rfl, rfl⟩ := e
   exact h1
  ·cases e
def xSl (rt : Nat → SV) (x : SV) (h : HH) : Option (Option TypeId × List (List C) × List Prop) := match xDeref rt x h with
 | some (false, [.sl o rows], obs) => some (o, rows, obs)
 | _ => none
theorem xSl_ok {rt : Nat → SV} {x : SV} {h : HH} {o : Option TypeId} {rows : List (List C)} {obs : List Prop} (e : xSl rt x h = some (o, rows, obs)) (ho : allP obs) : slOf rt x = some (o, rows) := by
 unfold xSl at e
 split at e
 ·rename_i o' rows' obs' h1
  simp only [Option.some.injEq, Prod.mk.injEq] at e
  obtain ⟨rfl, rfl, rfl⟩ := e
  simp [slOf, yem h1 ho]
 ·cases e
def bytesTy (P : Program) (s d : TypeId) : Bool := match P.underlying s, P.underlying d with
 | some (.slice e), some .string => (match P.underlying e with
  | some (.int .u8) => true
  | _ => false)
 | _, _ => false
def xBytes (P : Program) (rt : Nat → SV) (s d : TypeId) (x : SV) (h : HH) (l : List UInt8) : Option (SV × List Prop) :=
 match bytesTy P s d, xSl rt x h with
 | true, some (_, rows, obs) => some (.p (.string ⟨l.toArray⟩), (l ≠ [] ∧ rows = l.map fun c => [.raw (.int .u8 (c.toNat : Int))]) :: obs)
 | _, _ => none
theorem yfm {rt : Nat → SV} {s d : TypeId} {x : SV} {h : HH} {l : List UInt8} {y : SV} {obs : List Prop} {K : SV → Prop} (e : xBytes P rt s d x h l = some (y, obs)) (ho : allP obs) (hk : K y) : bytesK P rt s d x K := by
 unfold xBytes at e
 split at e
 ·rename_i o rows obs' hT hS
  simp only [Option.some.injEq, Prod.mk.injEq] at e
  obtain ⟨rfl, rfl⟩ := e
  have h1 := xSl_ok hS ho.2
  obtain ⟨h2, h3⟩ := ho.1
  cases l with
  | nil => exact absurd rfl h2
  | cons b bs =>
   rw [h3] at h1
   unfold bytesTy at hT
   split at hT
   ·rename_i e1 hs hd
    split at hT
    ·rename_i he
     exact ⟨o, b, bs, e1, h1, hs, he, hd, hk⟩
    ·cases hT
   ·cases hT
 ·cases e
def xLoad (P : Program) (rt : Nat → SV) (t : TypeId) (x : SV) (h : HH) : Option (SV × List Prop) :=
 match tyC P t with
 | some (g, n) => if (g || n == 1) = true then (match x with
  | .fadr cs => if n ≤ cs.length then some (mkD g (cs.take n), []) else none
  | .addr r q => (match (match h.row with | some cs => some (cs, [getRow (rows1 (rt r)) q = some cs]) | none => (match getRow (rows1 (rt r)) q with | some cs => some (cs, []) | none => none)) with
   | some (cs, obs) => if n ≤ cs.length then (match raws (cs.take n) with
    | some vs => some (.p (mkV g vs), obs)
    | none => (match h.b with
     | some true => some (.d g (cs.take n), (frR (cs.take n) = true) :: obs)
     | _ => if nd (cs.take n) then some (.ref r q (if g then some n else none), (frR (cs.take n) = false) :: obs) else none)) else none
   | none => none)
  | _ => none) else none
 | none => none
theorem ymn {rt : Nat → SV} {t : TypeId} {x : SV} {h : HH} {y : SV} {obs : List Prop} {K : SV → Prop} (e : xLoad P rt t x h = some (y, obs)) (ho : allP obs) (hk : K y) : loadK P rt t x K := by
 unfold xLoad at e
 split at e
 ·rename_i g n hT
  split at e
  ·rename_i hg
   refine ⟨g, n, hT, fun hg' => by simpa [hg'] using hg, ?_⟩
   split at e
   ·rename_i cs
    split at e
    ·rename_i hn
     simp only [Option.some.injEq, Prod.mk.injEq] at e
     obtain ⟨rfl, rfl⟩ := e
     exact ⟨hn, hk⟩
    ·cases e
   ·rename_i r q
    split at e
    ·rename_i cs obs' hcs
     split at e
     ·rename_i hn
      have key : allP obs' → getRow (rows1 (rt r)) q = some cs := fun ha => by
       split at hcs
       ·simp only [Option.some.injEq, Prod.mk.injEq] at hcs
        obtain ⟨rfl, rfl⟩ := hcs
        exact ha.1
       ·split at hcs
        ·rename_i hcs2
         simp only [Option.some.injEq, Prod.mk.injEq] at hcs
         obtain ⟨rfl, rfl⟩ := hcs
         exact hcs2
        ·cases hcs
      split at e
      ·rename_i vs hvs
       simp only [Option.some.injEq, Prod.mk.injEq] at e
       obtain ⟨rfl, rfl⟩ := e
       exact ⟨cs, key ho, hn, by simpa [hvs] using hk⟩
      ·rename_i hvs
       split at e
       ·simp only [Option.some.injEq, Prod.mk.injEq] at e
        obtain ⟨rfl, rfl⟩ := e
        exact ⟨cs, key ho.2, hn, by simp [hvs, ho.1]; exact hk⟩
       ·split at e
        ·rename_i hnd
         simp only [Option.some.injEq, Prod.mk.injEq] at e
         obtain ⟨rfl, rfl⟩ := e
         refine ⟨cs, key ho.2, hn, ?_⟩
         simp only [hvs, ho.1, hnd, if_true]
         exact hk
        ·cases e
     ·cases e
    ·cases e
   ·cases e
  ·cases e
 ·cases e
def xIdx (P : Program) (rt : Nat → SV) (t : TypeId) (x i : SV) (h : HH) : Option (SV × List Prop) :=
 match i, slE P t, xSl rt x h with
 | .p (.int _ n), some (_, sz), some (o, rows, obs) => (match h.row with
  | some row => if row.length = sz then (match o, x with
   | none, _ => some (.fadr row, (0 ≤ n) :: (rows[n.toNat]? = some row) :: obs)
   | some _, .ref r q none => some (.addr r (q ++ [(n.toNat, 0)]), (0 ≤ n) :: (rows[n.toNat]? = some row) :: obs)
   | _, _ => none) else none
  | none => none)
 | _, _, _ => none
theorem xIdx_ok {rt : Nat → SV} {t : TypeId} {x i : SV} {h : HH} {y : SV} {obs : List Prop} {K : SV → Prop} (e : xIdx P rt t x i h = some (y, obs)) (ho : allP obs) (hk : K y) : idxK P rt t x i K := by
 unfold xIdx at e
 split at e
 ·rename_i k n e' sz o rows obs' hE hS
  split at e
  ·rename_i row hrow
   split at e
   ·rename_i hsz
    split at e
    ·simp only [Option.some.injEq, Prod.mk.injEq] at e
     obtain ⟨rfl, rfl⟩ := e
     exact ⟨ho.1, e', sz, none, rows, row, hE, xSl_ok hS ho.2.2, ho.2.1, hsz, hk⟩
    ·simp only [Option.some.injEq, Prod.mk.injEq] at e
     obtain ⟨rfl, rfl⟩ := e
     exact ⟨ho.1, e', sz, _, rows, row, hE, xSl_ok hS ho.2.2, ho.2.1, hsz, hk⟩
    ·cases e
   ·cases e
  ·cases e
 ·cases e
def xLen (P : Program) (rt : Nat → SV) (t : TypeId) (x : SV) (h : HH) : Option (SV × List Prop) :=
 match x with
 | .p (.string s) => (match P.underlying t with
  | some .string => some (.p (.int .i64 s.size), [])
  | _ => none)
 | x => match xSl rt x h, slE P t with
  | some (_, rows, obs), some _ => (match h.n with
   | some m => some (.p (.int .i64 m), (rows.length = m) :: obs)
   | none => some (.p (.int .i64 rows.length), obs))
  | _, _ => none
theorem xLen_ok {rt : Nat → SV} {t : TypeId} {x : SV} {h : HH} {y : SV} {obs : List Prop} {K : SV → Prop} (e : xLen P rt t x h = some (y, obs)) (ho : allP obs) (hk : K y) : lenK P rt t x K := by
 unfold xLen at e
 split at e
 ·split at e
  ·rename_i hu
   simp only [Option.some.injEq, Prod.mk.injEq] at e
   obtain ⟨rfl, rfl⟩ := e
   exact ⟨hu, hk⟩
  ·cases e
 ·rename_i hx
  unfold lenK
  split
  ·exact absurd rfl (hx _)
  ·split at e
   ·rename_i o rows obs' z hS hE
    split at e
    ·simp only [Option.some.injEq, Prod.mk.injEq] at e
     obtain ⟨rfl, rfl⟩ := e
     refine ⟨o, rows, xSl_ok hS ho.2, by simp [hE], ?_⟩
     rw [ho.1]; exact hk
    ·simp only [Option.some.injEq, Prod.mk.injEq] at e
     obtain ⟨rfl, rfl⟩ := e
     exact ⟨o, rows, xSl_ok hS ho, by simp [hE], hk⟩
   ·cases e
end Go.PV

/-
 A walk over pure values: whole operations reckoned.
 Conditions: none.
-/
namespace Go.PV
variable {P : Program} {N : Nat}
def xIntOf : SV → Option Int
 | .p (.int .i64 n) => some n
 | _ => none
def xAny : SV → Option Int
 | .p (.int _ n) => some n
 | _ => none
def xBnd (ev : Operand → SV) (x : Option Operand) (dflt : Nat) : Option (Nat × List Prop) := match x with
 | none => some (dflt, [])
 | some y => match xAny (ev y) with
  | some n => some (n.toNat, [0 ≤ n])
  | none => none
theorem xBnd_ok {ev : Operand → SV} {x : Option Operand} {dflt l : Nat} {obs : List Prop} (e : xBnd ev x dflt = some (l, obs)) (ho : allP obs) : sOp.bnd ev x dflt = some (l : Int) := by
 unfold xBnd at e
 split at e
 ·simp only [Option.some.injEq, Prod.mk.injEq] at e
  obtain ⟨rfl, rfl⟩ := e
  rfl
 ·split at e
  ·rename_i y n hn
   simp only [Option.some.injEq, Prod.mk.injEq] at e
   obtain ⟨rfl, rfl⟩ := e
   unfold xAny at hn
   split at hn
   ·rename_i hy
    simp only [Option.some.injEq] at hn
    subst hn
    simp only [sOp.bnd, hy]
    rw [Int.toNat_of_nonneg ho.1]
   ·cases hn
  ·cases e
def xMk (P : Program) (e : TypeId) : Bool := decide (((P.info? e).map (·.bytes)).getD 0 ≤ 128)
def pick2 (t : Bool) (x y : SV) : SV := if t then x else y
def xS (P : Program) (ev : Operand → SV) (rt : Nat → SV) (o : Oper) (h : HH) : Option (SV × List Prop) :=
 match o.op with
 | .move x => if noTup (ev x) then some (ev x, []) else none
 | .pick c a b => (match ev c, h.b with
  | .p (.bool t), some t0 => if noTup (pick2 t0 (ev a) (ev b)) = true then some (pick2 t0 (ev a) (ev b), [t = t0]) else none
  | _, _ => none)
 | .binOp op t x y _ => xBin P op t (ev x) (evN ev y) (xPure P ev o h)
 | .unOp .neg _ x => (match ev x with
  | .p (.int k n) => some (.p (.int k (k.wrap (0 - n))), [])
  | _ => none)
 | .unOp .not _ x => (match ev x with
  | .p (.bool b) => some (.p (.bool (!b)), [])
  | _ => none)
 | .convert s d x => (match h.bts with
  | some l => xBytes P rt s d (ev x) h l
  | none => xPure P ev o h)
 | .load t a => xLoad P rt t (ev a) h
 | .fieldAddr t a k => (match fldO P t k, ev a with
  | some off, .fadr cs => some (.fadr (cs.drop off), [])
  | some off, .addr r q => some (.addr r (bumpP q off), [])
  | _, _ => none)
 | .nilCheck x => (match ev x with
  | .fadr cs => some (.fadr cs, [])
  | .addr r q => some (.addr r q, [])
  | _ => none)
 | .indexAddr t x i => xIdx P rt t (ev x) (ev i) h
 | .extract x k => (match ev x with
  | .tup l => (match l[k]? with
   | some y => if isDR y then some (y, []) else none
   | none => none)
  | _ => none)
 | .alloc t => (match zeroC P t with
  | some cs => some (.box (bpz t cs), [])
  | none => none)
 | .makeSlice t l c => (match xIntOf (ev l), xIntOf (ev c), slE P t with
  | some n, some n', some (e, _) => (match zeroC P e with
   | some z => if xMk P e then some (.ov false [.sl (some e) (List.replicate n.toNat z)], [n' = n, 0 ≤ n, n ≤ 1099511627776]) else none
   | none => none)
  | _, _, _ => none)
 | .buildSlice t n parts => (match slE P t with
  | some (e, sz) => (match sOp.partsOf ev sz parts.toList 0 with
   | some rows => if parts.size = n ∧ n ≤ 65536 ∧ sz ≤ 16 ∧ (P.info? e).any (·.zero.isSome) = true then some (.ov false [.sl (some e) rows], []) else none
   | none => none)
  | none => none)
 | .slice t x lo hi none => (match ev x with
  | .d false [.sl none rows] => (match slE P t, xBnd ev lo 0, xBnd ev hi rows.length with
   | some (_, sz), some (l, o1), some (hh, o2) => some (.d false [.sl none ((rows.take hh).drop l)], (l ≤ hh) :: (hh ≤ rows.length) :: (∀ row ∈ rows, row.length = sz) :: (o1 ++ o2))
   | _, _, _ => none)
  | _ => xPure P ev o h)
 | .call c => (match c.callee with
  | .builtin .len => (match c.args.toList, c.argTypes.toList with
   | [x], [t] => xLen P rt t (ev x) h
   | _, _ => none)
  | .builtin .min => (match c.args.toList with
   | [x, y] => (match ev x, ev y with
    | .p (.int k a), .p (.int k' b) => if k = k' then some (.p (.int k (if b < a then b else a)), []) else none
    | _, _ => none)
   | _ => none)
  | .builtin .max => (match c.args.toList with
   | [x, y] => (match ev x, ev y with
    | .p (.int k a), .p (.int k' b) => if k = k' then some (.p (.int k (if a < b then b else a)), []) else none
    | _, _ => none)
   | _ => none)
  | .value fn => (match sOp.fnOf (ev fn), toArgs rt (c.args.toList.map ev), h.call with
   | some (f, caps), some as0, some (axs, vals, true) => if sOp.noPtr as0 then some (resSV vals, asP as0 axs ++ (Meets P f (asO as0 axs ++ caps) { vals := vals } :: smP true vals)) else none
   | _, _, _ => none)
  | _ => none)
 | .build t parts => (match sOp.buildC P ev t parts.toList with
  | some cs => some (mkD true cs, [])
  | none => none)
 | .makeFunc (.func f) first caps => if first.size = 0 then (match sOp.capsOf (caps.toList.map ev) with
  | some axs => some (.d false [.fn f axs], [])
  | none => none) else none
 | .field t x k => (match ev x with
  | .ref r [(0, 0)] (some 1) => if (isRoot (rt r) && !isBox (rt r) && fieldOne P t k) = true then some (.ref r [(0, 0)] none, []) else none
  | _ => xPure P ev o h)
 | .index .. => xPure P ev o h
 | _ => none
theorem yfh {α : Type} {a : Array α} {x : α} (h : a.toList = [x]) : a = #[x] := by
 cases a; simp_all
theorem xS_ok {ev : Operand → SV} {rt : Nat → SV} {o : Oper} {h : HH} {y : SV} {obs : List Prop} {K : SV → Prop} (e : xS P ev rt o h = some (y, obs)) (ho : allP obs) (hk : K y) : sOp P ev rt o K := by
 unfold xS at e
 split at e
 ·rename_i x hop
  split at e
  ·rename_i hn
   simp only [Option.some.injEq, Prod.mk.injEq] at e
   obtain ⟨rfl, rfl⟩ := e
   simp only [sOp, hop]; exact ⟨hn, hk⟩
  ·cases e
 ·rename_i c a b hop
  split at e
  ·rename_i t t0 h1 h2
   split at e
   ·rename_i hn
    simp only [Option.some.injEq, Prod.mk.injEq] at e
    obtain ⟨rfl, rfl⟩ := e
    obtain rfl := ho.1
    simp only [sOp, hop]; exact ⟨t, h1, hn, hk⟩
   ·cases e
  ·cases e
 ·rename_i op t x z t2 hop
  simp only [sOp, hop]
  exact xBin_ok (fun z obs h1 h2 h3 => yff h1 h2 h3) e ho hk
 ·rename_i t x hop
  split at e
  ·rename_i k n hx
   simp only [Option.some.injEq, Prod.mk.injEq] at e
   obtain ⟨rfl, rfl⟩ := e
   simp only [sOp, hop]; exact ⟨k, n, hx, hk⟩
  ·cases e
 ·rename_i t x hop
  split at e
  ·rename_i b hx
   simp only [Option.some.injEq, Prod.mk.injEq] at e
   obtain ⟨rfl, rfl⟩ := e
   simp only [sOp, hop]; exact ⟨b, hx, hk⟩
  ·cases e
 ·rename_i s d x hop
  simp only [sOp, hop]
  split at e
  ·exact .inr (yfm e ho hk)
  ·exact .inl (yff e ho hk)
 ·rename_i t a hop
  simp only [sOp, hop]
  exact ymn e ho hk
 ·rename_i t a k hop
  simp only [sOp, hop]
  split at e
  ·rename_i off cs h1 h2
   simp only [Option.some.injEq, Prod.mk.injEq] at e
   obtain ⟨rfl, rfl⟩ := e
   exact ⟨off, h1, by rw [h2]; exact hk⟩
  ·rename_i off r q h1 h2
   simp only [Option.some.injEq, Prod.mk.injEq] at e
   obtain ⟨rfl, rfl⟩ := e
   exact ⟨off, h1, by rw [h2]; exact hk⟩
  ·cases e
 ·rename_i x hop
  simp only [sOp, hop]
  split at e
  ·rename_i cs hx
   simp only [Option.some.injEq, Prod.mk.injEq] at e
   obtain ⟨rfl, rfl⟩ := e
   rw [hx]; exact hk
  ·rename_i r q hx
   simp only [Option.some.injEq, Prod.mk.injEq] at e
   obtain ⟨rfl, rfl⟩ := e
   rw [hx]; exact hk
  ·cases e
 ·rename_i t x i hop
  simp only [sOp, hop]
  exact xIdx_ok e ho hk
 ·rename_i x k hop
  simp only [sOp, hop]
  split at e
  ·rename_i l hl
   split at e
   ·rename_i z hz
    split at e
    ·rename_i hd
     simp only [Option.some.injEq, Prod.mk.injEq] at e
     obtain ⟨rfl, rfl⟩ := e
     exact ⟨l, z, hl, hz, hd, hk⟩
    ·cases e
   ·cases e
  ·cases e
 ·rename_i t hop
  simp only [sOp, hop]
  split at e
  ·rename_i cs hcs
   simp only [Option.some.injEq, Prod.mk.injEq] at e
   obtain ⟨rfl, rfl⟩ := e
   exact ⟨cs, hcs, hk⟩
  ·cases e
 ·rename_i t l c hop
  simp only [sOp, hop]
  split at e
  ·rename_i n n' e' sz h1 h2 hE
   split at e
   ·rename_i z hz
    split at e
    ·rename_i hm
     simp only [Option.some.injEq, Prod.mk.injEq] at e
     obtain ⟨rfl, rfl⟩ := e
     obtain ⟨h3, h4, h5, _⟩ := ho
     subst h3
     have hn : ∀ {x : SV}, xIntOf x = some n' → x = .p (.int .i64 ((n'.toNat : Nat) : Int)) := fun {x} hx => by
      unfold xIntOf at hx
      split at hx
      ·simp only [Option.some.injEq] at hx
       subst hx
       rw [Int.toNat_of_nonneg h4]
      ·cases hx
     exact ⟨n'.toNat, hn h1, hn h2, by omega, e', sz, hE, z, hz, by simpa [xMk] using hm, hk⟩
    ·cases e
   ·cases e
  ·cases e
 ·rename_i t n parts hop
  simp only [sOp, hop]
  split at e
  ·rename_i e' sz hE
   split at e
   ·rename_i rows hr
    split at e
    ·rename_i hc
     simp only [Option.some.injEq, Prod.mk.injEq] at e
     obtain ⟨rfl, rfl⟩ := e
     exact ⟨e', sz, hE, rows, hc.1, hc.2.1, hc.2.2.1, hc.2.2.2, hr, hk⟩
    ·cases e
   ·cases e
  ·cases e
 ·rename_i t x lo hi hop
  simp only [sOp, hop]
  split at e
  ·rename_i rows hx
   rw [hx]
   split at e
   ·rename_i e' sz l o1 hh o2 hE h1 h2
    simp only [Option.some.injEq, Prod.mk.injEq] at e
    obtain ⟨rfl, rfl⟩ := e
    obtain ⟨h3, h4, h5, h6⟩ := ho
    rw [allP_append] at h6
    exact ⟨e', sz, hE, l, hh, xBnd_ok h1 h6.1, xBnd_ok h2 h6.2, h3, h4, h5, hk⟩
   ·cases e
  ·rename_i hx
   split
   ·exact absurd (by assumption) (hx _)
   ·exact yff e ho hk
 ·rename_i c hop
  simp only [sOp, hop]
  split at e
  ·rename_i hc
   simp only [hc]
   split at e
   ·rename_i x t ha ht
    exact ⟨x, t, yfh ha, yfh ht, xLen_ok e ho hk⟩
   ·cases e
  ·rename_i hc
   simp only [hc]
   split at e
   ·rename_i x z ha
    split at e
    ·rename_i k a k' b h1 h2
     split at e
     ·rename_i hkk
      subst hkk
      simp only [Option.some.injEq, Prod.mk.injEq] at e
      obtain ⟨rfl, rfl⟩ := e
      exact ⟨x, z, k, a, b, ha, h1, h2, hk⟩
     ·cases e
    ·cases e
   ·cases e
  ·rename_i hc
   simp only [hc]
   split at e
   ·rename_i x z ha
    split at e
    ·rename_i k a k' b h1 h2
     split at e
     ·rename_i hkk
      subst hkk
      simp only [Option.some.injEq, Prod.mk.injEq] at e
      obtain ⟨rfl, rfl⟩ := e
      exact ⟨x, z, k, a, b, ha, h1, h2, hk⟩
     ·cases e
    ·cases e
   ·cases e
  ·rename_i fn hc
   simp only [hc]
   split at e
   ·rename_i f caps as0 axs vals h1 h2 h3
    split at e
    ·rename_i hp
     simp only [Option.some.injEq, Prod.mk.injEq] at e
     obtain ⟨rfl, rfl⟩ := e
     obtain ⟨h4, h5, h6⟩ := allP_append.1 ho
     rw [as_ok h4] at h5
     exact ⟨f, caps, as0, { vals := vals }, h1, h2, hp, h5, rfl, by simpa using sm_ok h6, hk⟩
    ·cases e
   ·cases e
  ·cases e
 ·rename_i t parts hop
  simp only [sOp, hop]
  split at e
  ·rename_i cs hcs
   simp only [Option.some.injEq, Prod.mk.injEq] at e
   obtain ⟨rfl, rfl⟩ := e
   exact ⟨cs, hcs, hk⟩
  ·cases e
 ·rename_i f first caps hop
  simp only [sOp, hop]
  split at e
  ·rename_i h0
   split at e
   ·rename_i axs has
    simp only [Option.some.injEq, Prod.mk.injEq] at e
    obtain ⟨rfl, rfl⟩ := e
    exact ⟨h0, axs, has, hk⟩
   ·cases e
  ·cases e
 ·rename_i t x k hop
  simp only [sOp, hop]
  split at e
  ·rename_i r hx
   split at e
   ·rename_i hb
    simp only [Option.some.injEq, Prod.mk.injEq] at e
    obtain ⟨rfl, rfl⟩ := e
    simp only [Bool.and_eq_true, Bool.not_eq_true'] at hb
    exact .inr ⟨r, hx, hb.1.1, hb.1.2, hb.2, hk⟩
   ·cases e
  ·exact .inl (yff e ho hk)
 ·rename_i hop
  simp only [sOp, hop]
  exact yff e ho hk
 ·cases e
end Go.PV

/-
 A walk over pure values: operations that act, reckoned; regions.
 Conditions: none.
-/
namespace Go.PV
variable {P : Program} {N : Nat}
def nWant (g : Bool) (cs : List C) : Option Nat := if g then some cs.length else none
def xAsg (P : Program) (σ : St) (o : Oper) (d : Nat) (x : Operand) (h : HH) : Option (St × List Prop) :=
 match x with
 | .const (.slice none 0 0) => (match slE P o.type with
  | some (e, _) => some (put σ d (.ov false [.sl (some e) []]), [])
  | none => none)
 | .const v => some (put σ d (.p v), [])
 | .func f => some (put σ d (.p (.func (.func f) #[] #[])), [])
 | .global _ => none
 | .tmp t => (match σ t with
  | .ov _ _ => if t = d then none else some (trans σ t d, [])
  | .box _ => if t = d then none else some (put σ d (.addr t [(0, 0)]), [])
  | .ref r q n => if r = d then (if q = [(0, 0)] ∧ n = none then (match σ r with
     | .ov false [_] => some (σ, [])
     | _ => none) else none)
    else if q = [(0, 0)] then (match σ r with
     | .ov g cs => if n = nWant g cs then some (trans σ r d, []) else none
     | .d g cs => if n = nWant g cs then some (put σ d (.d g cs), []) else none
     | _ => none)
    else (match h.deep, n with
     | some (c :: cs), none => some (put (gone σ r) d (.ov false [c]), [getRow (rows1 (σ r)) q = some (c :: cs)])
     | none, n => some (put σ d (.ref r q n), [])
     | _, _ => none)
  | .tup _ => none
  | .addr r q => if r = d then none else some (put σ d (.addr r q), [])
  | y => some (put σ d y, []))
theorem xAsg_ok {σ σ' : St} {o : Oper} {d : Nat} {x : Operand} {h : HH} {obs : List Prop} {K : St → Prop} (e : xAsg P σ o d x h = some (σ', obs)) (ho : allP obs) (hk : K σ') : asgK P σ o d x K := by
 unfold xAsg at e
 split at e
 ·split at e
  ·rename_i e' sz hE
   simp only [Option.some.injEq, Prod.mk.injEq] at e
   obtain ⟨rfl, rfl⟩ := e
   exact ⟨e', sz, hE, hk⟩
  ·cases e
 ·rename_i v hv
  simp only [Option.some.injEq, Prod.mk.injEq] at e
  obtain ⟨rfl, rfl⟩ := e
  unfold asgK
  split
  ·rename_i heq
   simp only [Operand.const.injEq] at heq
   exact absurd heq (hv)
  ·rename_i v' _ heq
   cases heq
   exact hk
  ·rename_i heq; cases heq
  ·rename_i heq; cases heq
  ·rename_i heq; cases heq
 ·simp only [Option.some.injEq, Prod.mk.injEq] at e
  obtain ⟨rfl, rfl⟩ := e
  exact hk
 ·cases e
 ·rename_i t
  simp only [asgK]
  split at e
  ·rename_i g cs ht
   split at e
   ·cases e
   ·rename_i hne
    simp only [Option.some.injEq, Prod.mk.injEq] at e
    obtain ⟨rfl, rfl⟩ := e
    simp only [ht]; exact ⟨hne, hk⟩
  ·rename_i cs ht
   split at e
   ·cases e
   ·rename_i hne
    simp only [Option.some.injEq, Prod.mk.injEq] at e
    obtain ⟨rfl, rfl⟩ := e
    simp only [ht]; exact ⟨hne, hk⟩
  ·rename_i r q n ht
   simp only [ht]
   split at e
   ·rename_i hr
    rw [if_pos hr]
    split at e
    ·rename_i hq
     split at e
     ·rename_i c hσ
      simp only [Option.some.injEq, Prod.mk.injEq] at e
      obtain ⟨rfl, rfl⟩ := e
      simp only [hσ]; exact ⟨hq.1, hq.2, trivial, hk⟩
     ·cases e
    ·cases e
   ·rename_i hr
    rw [if_neg hr]
    split at e
    ·rename_i hq
     rw [if_pos hq]
     split at e
     ·rename_i g cs hσ
      split at e
      ·rename_i hn
       simp only [Option.some.injEq, Prod.mk.injEq] at e
       obtain ⟨rfl, rfl⟩ := e
       simp only [hσ]; exact ⟨hn, hk⟩
      ·cases e
     ·rename_i g cs hσ
      split at e
      ·rename_i hn
       simp only [Option.some.injEq, Prod.mk.injEq] at e
       obtain ⟨rfl, rfl⟩ := e
       simp only [hσ]; exact ⟨hn, hk⟩
      ·cases e
     ·cases e
    ·rename_i hq
     rw [if_neg hq]
     split at e
     ·rename_i c cs hdp
      simp only [Option.some.injEq, Prod.mk.injEq] at e
      obtain ⟨rfl, rfl⟩ := e
      exact .inr ⟨c, cs, rfl, ho.1, hk⟩
     ·simp only [Option.some.injEq, Prod.mk.injEq] at e
      obtain ⟨rfl, rfl⟩ := e
      exact .inl hk
     ·cases e
  ·cases e
  ·rename_i r q ht
   split at e
   ·cases e
   ·rename_i hne
    simp only [Option.some.injEq, Prod.mk.injEq] at e
    obtain ⟨rfl, rfl⟩ := e
    simp only [ht]; exact ⟨hne, hk⟩
  ·rename_i h1 h2 h3 h4 h5
   simp only [Option.some.injEq, Prod.mk.injEq] at e
   obtain ⟨rfl, rfl⟩ := e
   split
   ·exact absurd (by assumption) (h1 _ _)
   ·exact absurd (by assumption) (h2 _)
   ·exact absurd (by assumption) (h3 _ _ _)
   ·exact absurd (by assumption) (h4 _)
   ·exact absurd (by assumption) (h5 _ _)
   ·exact hk
def xOld (σ : St) (r : Nat) (q : Path) (h : HH) : Option (List C × List Prop) := match h.row with
 | some cs => some (cs, [getRow (rows1 (σ r)) q = some cs])
 | none => match getRow (rows1 (σ r)) q with
  | some cs => some (cs, [])
  | none => none
theorem xOld_ok {σ : St} {r : Nat} {q : Path} {h : HH} {cs : List C} {obs : List Prop} (e : xOld σ r q h = some (cs, obs)) (ho : allP obs) : getRow (rows1 (σ r)) q = some cs := by
 unfold xOld at e
 split at e
 ·simp only [Option.some.injEq, Prod.mk.injEq] at e
  obtain ⟨rfl, rfl⟩ := e
  exact ho.1
 ·split at e
  ·rename_i h2
   simp only [Option.some.injEq, Prod.mk.injEq] at e
   obtain ⟨rfl, rfl⟩ := e
   exact h2
  ·cases e
def xStore (P : Program) (σ : St) (o : Oper) (t : TypeId) (a x : SV) (h : HH) : Option (St × List Prop) :=
 match o.dst, tyC P t, a, mvCells σ x with
 | none, some (_, n), .addr r q, some (cs, mv) => (match xOld σ r q h with
  | some (old, obs) => if 0 < n ∧ isOwnR (σ r) = true ∧ n ≤ old.length ∧ cs.length = n ∧ nb cs = true ∧ mv ≠ some r then
    (if ((raws (old.take n)).isSome && (raws cs).isSome) = true then some (stScal σ r q cs, obs) else some (stStruct (goneO σ mv) r q cs, obs)) else none
  | none => none)
 | _, _, _, _ => none
theorem ygm {σ σ' : St} {o : Oper} {t : TypeId} {a x : SV} {h : HH} {obs : List Prop} {K : St → Prop} (e : xStore P σ o t a x h = some (σ', obs)) (ho : allP obs) (hk : K σ') : stK P σ o t a x K := by
 unfold xStore at e
 split at e
 ·rename_i g n r q cs mv hd hT hm
  split at e
  ·rename_i old obs' hold
   split at e
   ·rename_i hc
    obtain ⟨h1, h2, h3, h4, hnb, h5⟩ := hc
    split at e
    ·rename_i hb
     simp only [Option.some.injEq, Prod.mk.injEq] at e
     obtain ⟨rfl, rfl⟩ := e
     exact ⟨hd, g, n, r, q, old, cs, mv, hT, h1, h2, rfl, xOld_ok hold ho, h3, hm, h4, hnb, h5, by rw [if_pos hb]; exact hk⟩
    ·rename_i hb
     simp only [Option.some.injEq, Prod.mk.injEq] at e
     obtain ⟨rfl, rfl⟩ := e
     exact ⟨hd, g, n, r, q, old, cs, mv, hT, h1, h2, rfl, xOld_ok hold ho, h3, hm, h4, hnb, h5, by rw [if_neg hb]; exact hk⟩
   ·cases e
  ·cases e
 ·cases e
def xStoreN (P : Program) (σ : St) (o : Oper) (t : TypeId) (a : SV) (e : TypeId) (h : HH) : Option (St × List Prop) :=
 match o.dst, tyC P t, a with
 | none, some (_, 1), .addr r q => (match xOld σ r q h with
  | some (old, obs) => if isOwnR (σ r) = true ∧ 1 ≤ old.length then some (stStruct σ r q [.sl (some e) []], obs) else none
  | none => none)
 | _, _, _ => none
theorem yek {σ σ' : St} {o : Oper} {t e : TypeId} {a : SV} {h : HH} {obs : List Prop} {K : St → Prop} (e' : xStoreN P σ o t a e h = some (σ', obs)) (ho : allP obs) (hk : K σ') : stKc P σ o t a [.sl (some e) []] none K := by
 unfold xStoreN at e'
 split at e'
 ·rename_i g r q hd hT
  split at e'
  ·rename_i old obs' hold
   split at e'
   ·rename_i hc
    simp only [Option.some.injEq, Prod.mk.injEq] at e'
    obtain ⟨rfl, rfl⟩ := e'
    exact ⟨hd, g, 1, r, q, old, hT, by omega, hc.1, rfl, xOld_ok hold ho, hc.2, rfl, rfl, by simp, by simpa [raws, goneO] using hk⟩
   ·cases e'
  ·cases e'
 ·cases e'
def xAdd (σ : St) (x : SV) (h : HH) : Option (List (List C) × Option Nat × List Prop) := match xSl σ x h with
 | some (none, rows, obs) => some (rows, none, obs)
 | some (some _, rows, obs) => (match x with
  | .ref r [(0, 0)] none => (match σ r with
   | .ov false [.sl (some _) _] => some (rows, some r, obs)
   | _ => none)
  | _ => none)
 | none => none
theorem xAdd_ok {σ : St} {x : SV} {h : HH} {rows : List (List C)} {mv : Option Nat} {obs : List Prop} (e : xAdd σ x h = some (rows, mv, obs)) (ho : allP obs) : addRows σ x = some (rows, mv) := by
 unfold xAdd at e
 split at e
 ·rename_i rows' obs' h1
  simp only [Option.some.injEq, Prod.mk.injEq] at e
  obtain ⟨rfl, rfl, rfl⟩ := e
  simp [addRows, xSl_ok h1 ho]
 ·rename_i t rows' obs' h1
  split at e
  ·rename_i r
   split at e
   ·rename_i t' rows2 h2
    simp only [Option.some.injEq, Prod.mk.injEq] at e
    obtain ⟨rfl, rfl, rfl⟩ := e
    simp [addRows, xSl_ok h1 ho, h2]
   ·cases e
  ·cases e
 ·cases e
def xApp (P : Program) (σ : St) (o : Oper) (t : TypeId) (s x : SV) (h : HH) : Option (St × List Prop) :=
 match slE P t, xAdd σ x h with
 | some (e, sz), some (rows2, mv, obs) => if apE P e = true then (match s with
  | .d false [.sl none []] => some (putO o.dst (.ov false [.sl (some e) rows2]) (goneO σ mv), (rows2.length ≤ 1099511627776) :: (∀ row ∈ rows2, row.length = sz) :: obs)
  | .ref r [(0, 0)] none => if mv = some r then none else (match σ r with
   | .ov false [.sl (some e') rows] => if e' = e then some (putO o.dst (.ov false [.sl (some e) (rows ++ rows2)]) (gone (goneO σ mv) r), (rows.length + rows2.length ≤ 1099511627776) :: (∀ row ∈ rows2, row.length = sz) :: obs) else none
   | _ => none)
  | _ => none) else none
 | _, _ => none
theorem xApp_ok {σ σ' : St} {o : Oper} {t : TypeId} {s x : SV} {h : HH} {obs : List Prop} {K : St → Prop} (e : xApp P σ o t s x h = some (σ', obs)) (ho : allP obs) (hk : K σ') : apK P σ o t s x K := by
 unfold xApp at e
 split at e
 ·rename_i e' sz rows2 mv obs' hE hA
  split at e
  ·rename_i hap
   split at e
   ·simp only [Option.some.injEq, Prod.mk.injEq] at e
    obtain ⟨rfl, rfl⟩ := e
    exact ⟨e', sz, rows2, mv, hE, hap, xAdd_ok hA ho.2.2, ho.2.1, ho.1, hk⟩
   ·rename_i r
    split at e
    ·cases e
    ·rename_i hmv
     split at e
     ·rename_i e2 rows hσ
      split at e
      ·rename_i he
       simp only [Option.some.injEq, Prod.mk.injEq] at e
       obtain ⟨rfl, rfl⟩ := e
       refine ⟨e', sz, rows2, mv, hE, hap, xAdd_ok hA ho.2.2, ho.2.1, hmv, ?_⟩
       simp only [hσ]
       exact ⟨he, ho.1, hk⟩
      ·cases e
     ·cases e
   ·cases e
  ·cases e
 ·cases e
def xAps (P : Program) (σ : St) (o : Oper) (t t' : TypeId) (s x : SV) : Option (St × List Prop) :=
 match slE P t, P.underlying t', s, x with
 | some (e, 1), some .string, .ref r [(0, 0)] none, .p (.string b) => if apE P e = true then (match σ r with
  | .ov false [.sl (some e') rows] => if e' = e then some (putO o.dst (.ov false [.sl (some e) (rows ++ bytesR b)]) (gone σ r), [rows.length + b.size ≤ 1099511627776]) else none
  | _ => none) else none
 | _, _, _, _ => none
theorem xAps_ok {σ σ' : St} {o : Oper} {t t' : TypeId} {s x : SV} {obs : List Prop} {K : St → Prop} (e : xAps P σ o t t' s x = some (σ', obs)) (ho : allP obs) (hk : K σ') : ∃ b, P.underlying t' = some .string ∧ x = .p (.string b) ∧ apsK P σ o t s b K := by
 unfold xAps at e
 split at e
 ·rename_i e' r b hE hu
  split at e
  ·rename_i hap
   split at e
   ·rename_i e2 rows hσ
    split at e
    ·rename_i he
     simp only [Option.some.injEq, Prod.mk.injEq] at e
     obtain ⟨rfl, rfl⟩ := e
     subst he
     exact ⟨b, hu, rfl, _, r, rows, hE, hap, rfl, hσ, ho.1, hk⟩
    ·cases e
   ·cases e
  ·cases e
 ·cases e
def xArg (σ : St) (d : Option (List C)) (x : SV) : Option (Arg × List Prop) := match x, d with
 | .ref r (p :: p2 :: q) none, some (c :: cs) => some (mkA false (eraR [c]), [getRow (rows1 (σ r)) (p :: p2 :: q) = some (c :: cs)])
 | x, _ => (match toArg σ x with
  | some a => some (a, [])
  | none => none)
theorem xArg_ok {σ : St} {d : Option (List C)} {x : SV} {a : Arg} {obs : List Prop} (e : xArg σ d x = some (a, obs)) (ho : allP obs) : toArg σ x = some a := by
 unfold xArg at e
 split at e
 ·rename_i r p p2 q c cs
  simp only [Option.some.injEq, Prod.mk.injEq] at e
  obtain ⟨rfl, rfl⟩ := e
  simp only [toArg, deref, ho.1]
 ·split at e
  ·simp only [Option.some.injEq, Prod.mk.injEq] at e
   obtain ⟨rfl, _⟩ := e
   assumption
  ·cases e
def xArgs (σ : St) (d : Option (List C)) : List SV → Option (List Arg × List Prop)
 | [] => some ([], [])
 | x :: l => match xArg σ d x, xArgs σ d l with
  | some (a, o), some (axs, os) => some (a :: axs, o ++ os)
  | _, _ => none
theorem yfk {σ : St} {d : Option (List C)} : ∀ {l : List SV} {axs : List Arg} {obs : List Prop}, xArgs σ d l = some (axs, obs) → allP obs → toArgs σ l = some axs
 | [], axs, obs, e, _ => by
  simp only [xArgs, Option.some.injEq, Prod.mk.injEq] at e
  obtain ⟨rfl, _⟩ := e
  rfl
 | x :: l, axs, obs, e, ho => by
  simp only [xArgs] at e
  split at e
  ·rename_i a o as1 os h1 h2
   simp only [Option.some.injEq, Prod.mk.injEq] at e
   obtain ⟨rfl, rfl⟩ := e
   obtain ⟨h3, h4⟩ := allP_append.1 ho
   simp only [toArgs, xArg_ok h1 h3, yfk h2 h4]
  ·cases e
def xCall (P : Program) (σ : St) (o : Oper) (fn : Operand) (args : List Operand) (h : HH) : Option (St × List Prop) :=
 match sOp.fnOf (evS σ fn), xArgs σ h.deep (args.map (evS σ)), h.call with
 | some (f, caps), some (as0, ob), some (axs, vals, b) => if sOp.noPtr as0 = true then
   some (putO o.dst (resSV vals) (if b then σ else frzAll ((args.map (evS σ)).flatMap rootOf) σ), asP as0 axs ++ (Meets P f (asO as0 axs ++ caps) { vals := vals } :: (smP b vals ++ ob))) else none
 | _, _, _ => none
theorem ynn {σ σ' : St} {o : Oper} {fn : Operand} {args : List Operand} {h : HH} {obs : List Prop} {K : St → Prop} (e : xCall P σ o fn args h = some (σ', obs)) (ho : allP obs) (hk : K σ') : callK P σ o fn args K := by
 unfold xCall at e
 split at e
 ·rename_i f caps as0 ob axs vals b h1 h2 h3
  split at e
  ·rename_i hp
   simp only [Option.some.injEq, Prod.mk.injEq] at e
   obtain ⟨rfl, rfl⟩ := e
   obtain ⟨h4, h5, h6⟩ := allP_append.1 ho
   obtain ⟨h7, h8⟩ := allP_append.1 h6
   rw [as_ok h4] at h5
   exact ⟨f, caps, as0, { vals := vals }, h1, yfk h2 h8, hp, h5, rfl, b, sm_ok h7, hk⟩
  ·cases e
 ·cases e
def xLendOf (σ : St) (x : SV) (h : HH) : Option (Nat × Option Path × SV × List Prop) := match x, h.deep with
 | .ref r q none, some (c :: cs) => if isOwnR (σ r) = true ∧ q ≠ [(0, 0)] then some (r, some q, .ov false [c], [getRow (rows1 (σ r)) q = some (c :: cs)]) else none
 | x, _ => (match lendOf σ x with
  | some (r, q, sv) => some (r, q, sv, [])
  | none => none)
theorem ygk {σ : St} {x : SV} {h : HH} {r : Nat} {q : Option Path} {sv : SV} {obs : List Prop} (e : xLendOf σ x h = some (r, q, sv, obs)) (ho : allP obs) : lendOf σ x = some (r, q, sv) := by
 unfold xLendOf at e
 split at e
 ·rename_i r' q' c cs h1
  split at e
  ·rename_i hc
   simp only [Option.some.injEq, Prod.mk.injEq] at e
   obtain ⟨rfl, rfl, rfl, rfl⟩ := e
   have h2 := ho.1
   have h3 : lendCell (σ r') r' q' none = some (r', some q', .ov false [c]) := by simp [lendCell, hc.1, h2]
   unfold lendOf
   split
   ·rename_i heq; cases heq
   ·rename_i heq
    cases heq
    split
    ·rename_i g cs' hσ
     rw [if_neg hc.2, ← hσ]; exact h3
    ·exact h3
   ·rename_i hno; exact absurd rfl (hno _ _ _)
  ·cases e
 ·split at e
  ·rename_i h2
   simp only [Option.some.injEq, Prod.mk.injEq] at e
   obtain ⟨rfl, rfl, rfl, rfl⟩ := e
   exact h2
  ·cases e
def xLend (P : Program) (σ : St) (o : Oper) (fn : Operand) (args : List Operand) (h : HH) : Option (St × List Prop) :=
 match sOp.fnOf (evS σ fn), args, h.lend with
 | some (f, []), x0 :: rest, some (axs, vals, sv', b) => (match xLendOf σ (evS σ x0) h, toArgs σ (rest.map (evS σ)) with
  | some (r, q, sv, obs), some as0 => if (sOp.noPtr as0 && !((rest.map (evS σ)).flatMap rootOf).contains r && lendSame sv sv') = true then
    some (putO o.dst (resSV vals) (lendBack (if b then σ else frzAll ((rest.map (evS σ)).flatMap rootOf) σ) r q sv'), asP as0 axs ++ (MeetsB P f sv (asO as0 axs) vals sv' :: (smL b vals sv' ++ obs))) else none
  | _, _ => none)
 | _, _, _ => none
theorem yon {σ σ' : St} {o : Oper} {fn : Operand} {args : List Operand} {h : HH} {obs : List Prop} {K : St → Prop} (e : xLend P σ o fn args h = some (σ', obs)) (ho : allP obs) (hk : K σ') : lendK P σ o fn args K := by
 unfold xLend at e
 split at e
 ·rename_i f x0 rest axs vals sv' b h1 h2
  split at e
  ·rename_i r q sv obs' as0 h3 h4
   split at e
   ·rename_i hc
    simp only [Option.some.injEq, Prod.mk.injEq] at e
    obtain ⟨rfl, rfl⟩ := e
    obtain ⟨h5, h6, h78⟩ := allP_append.1 ho
    obtain ⟨h7, h8⟩ := allP_append.1 h78
    rw [as_ok h5] at h6
    replace h7 := smL_ok h7
    simp only [Bool.and_eq_true, Bool.not_eq_true', List.contains_eq_mem, decide_eq_false_iff_not] at hc
    exact ⟨f, x0, rest, r, q, sv, as0, vals, sv', h1, rfl, ygk h3 h8, h4, hc.1.1, hc.1.2, h6, hc.2, b, h7, hk⟩
   ·cases e
  ·cases e
 ·cases e
def xEat (P : Program) (σ : St) (o : Oper) (fn : Operand) (args : List Operand) (h : HH) : Option (St × List Prop) :=
 match sOp.fnOf (evS σ fn), args, h.lend with
 | some (f, []), x0 :: rest, some (axs, vals, .u, b) => (match lendOf σ (evS σ x0), toArgs σ (rest.map (evS σ)) with
  | some (r, none, sv), some as0 => if (sOp.noPtr as0 && !((rest.map (evS σ)).flatMap rootOf).contains r) = true then
    some (putO o.dst (resSV vals) (gone (if b then σ else frzAll ((rest.map (evS σ)).flatMap rootOf) σ) r), asP as0 axs ++ (MeetsB P f sv (asO as0 axs) vals .u :: smP b vals)) else none
  | _, _ => none)
 | _, _, _ => none
theorem xEat_ok {σ σ' : St} {o : Oper} {fn : Operand} {args : List Operand} {h : HH} {obs : List Prop} {K : St → Prop} (e : xEat P σ o fn args h = some (σ', obs)) (ho : allP obs) (hk : K σ') : eatK P σ o fn args K := by
 unfold xEat at e
 split at e
 ·rename_i f x0 rest axs vals b h1 h2
  split at e
  ·rename_i r sv as0 h3 h4
   split at e
   ·rename_i hc
    simp only [Option.some.injEq, Prod.mk.injEq] at e
    obtain ⟨rfl, rfl⟩ := e
    obtain ⟨h5, h6, h7⟩ := allP_append.1 ho
    rw [as_ok h5] at h6
    replace h7 := sm_ok h7
    simp only [Bool.and_eq_true, Bool.not_eq_true', List.contains_eq_mem, decide_eq_false_iff_not] at hc
    exact ⟨f, x0, rest, r, sv, as0, vals, h1, rfl, h3, h4, hc.1, hc.2, h6, b, h7, hk⟩
   ·cases e
  ·cases e
 ·cases e
def xOp0 (P : Program) (o : Oper) (σ : St) (h : HH) : Option (St × List Prop) :=
 match o.op with
 | .assign x => (match o.dst with | some d => xAsg P σ o d x h | none => none)
 | .store t a x => (match nilSl P t x with
  | some e => xStoreN P σ o t (evS σ a) e h
  | none => xStore P σ o t (evS σ a) (evS σ x) h)
 | .box t x => (match tyC P t, mvCells σ (evS σ x) with
  | some (_, n), some (cs, mv) => if cs.length = n ∧ nb cs = true then some (putO o.dst (.box cs) (goneO σ mv), []) else none
  | _, _ => none)
 | .call { callee := .builtin .append, args := args, argTypes := ts } => (match args.toList, ts.toList with
  | [s, x], [t, t'] => if t = t' then xApp P σ o t (apSrc σ s) (evS σ x) h else xAps P σ o t t' (apSrc σ s) (evS σ x)
  | _, _ => none)
 | .call { callee := .value fn, args := args, argTypes := _ } => (match h.lend with
  | some (_, _, .u, _) => xEat P σ o fn args.toList h
  | some _ => xLend P σ o fn args.toList h
  | none => xCall P σ o fn args.toList h)
 | .move (.tmp t) => (match σ t with
  | .tup _ => (match o.dst with
   | some d => if t = d then none else some (trans σ t d, [])
   | none => none)
  | _ => (match xS P (evS σ) σ o h with
   | some (x, obs) => some (putO o.dst x σ, obs)
   | none => none))
 | .extract (.tmp t) k => (match σ t with
  | .tup l => (match l[k]? with
   | some (.ov g cs) => some (putO o.dst (.ov g cs) (upd σ t (.tup (l.set k .u))), [])
   | some y => if isDR y = true then some (putO o.dst y σ, []) else none
   | none => none)
  | _ => none)
 | .build t parts => (match h.b with
  | some true => (match sOp.buildC P (evS σ) t [], zeroC P t with
   | some _, some cs => if parts.size = 0 then some (putO o.dst (.ov true cs) σ, []) else none
   | _, _ => none)
  | _ => (match xS P (evS σ) σ o h with
   | some (x, obs) => some (putO o.dst x σ, obs)
   | none => (match parts.toList with
    | [(0, x)] => (match mvCells σ (evS σ x) with
     | some (cs, some r) => if oneF P t = some cs.length then some (putO o.dst (.ov true cs) (gone σ r), []) else none
     | _ => none)
    | _ => none)))
 | .slice t x lo hi c => (match xS P (evS σ) σ o h with
  | some (y, obs) => some (putO o.dst y σ, obs)
  | none => (match lo, hi, c, slE P t, evS σ x with
   | none, some y, none, some (e, _), .ref r [(0, 0)] none => (match σ r, evS σ y with
    | .ov false [.sl (some e') rows], .p (.int _ n) => if e' = e then some (putO o.dst (.ov false [.sl (some e) (rows.take n.toNat)]) (gone σ r), [0 ≤ n, n ≤ rows.length]) else none
    | _, _ => none)
   | _, _, _, _, _ => none))
 | .buildSlice t n parts => (match xS P (evS σ) σ o h with
  | some (x, obs) => some (putO o.dst x σ, obs)
  | none => (match slE P t, parts.toList with
   | some (e, sz), [(0, x)] => (match mvCells σ (evS σ x) with
    | some (cs, some r) => if apE P e = true ∧ n = 1 ∧ cs.length = sz ∧ 0 < sz ∧ sz ≤ 16 then some (putO o.dst (.ov false [.sl (some e) [cs]]) (gone σ r), []) else none
    | _ => none)
   | _, _ => none))
 | _ => (match xS P (evS σ) σ o h with
  | some (x, obs) => some (putO o.dst x σ, obs)
  | none => none)
theorem xOp0_ok {σ σ' : St} {o : Oper} {h : HH} {obs : List Prop} {K : St → Prop} (e : xOp0 P o σ h = some (σ', obs)) (ho : allP obs) (hk : K σ') : pvOp P o σ K := by
 have gen : ∀ {x obs}, xS P (evS σ) σ o h = some (x, obs) → allP obs → K (putO o.dst x σ) → sOp P (evS σ) σ o (fun x => K (putO o.dst x σ)) := fun h1 h2 h3 => xS_ok (K := fun x => K (putO o.dst x σ)) h1 h2 h3
 unfold xOp0 at e
 split at e
 ·rename_i x hop
  split at e
  ·rename_i d hd
   simp only [pvOp, hop, hd]
   exact xAsg_ok e ho hk
  ·cases e
 ·rename_i t a x hop
  simp only [pvOp, hop]
  split at e
  ·rename_i e1 h1
   exact .inr ⟨e1, h1, yek e ho hk⟩
  ·exact .inl (ygm e ho hk)
 ·rename_i t x hop
  simp only [pvOp, hop]
  split at e
  ·rename_i g n cs mv h1 h2
   split at e
   ·rename_i hn
    simp only [Option.some.injEq, Prod.mk.injEq] at e
    obtain ⟨rfl, rfl⟩ := e
    exact ⟨g, n, cs, mv, h1, h2, hn.1, hn.2, hk⟩
   ·cases e
  ·cases e
 ·rename_i args ts hop
  simp only [pvOp, hop]
  split at e
  ·rename_i s x t t' h1 h2
   split at e
   ·rename_i ht
    subst ht
    exact .inl ⟨s, x, t, h1, h2, xApp_ok e ho hk⟩
   ·obtain ⟨b, h3, h4, h5⟩ := xAps_ok e ho hk
    exact .inr ⟨s, x, t, t', b, h1, h2, h3, h4, h5⟩
  ·cases e
 ·rename_i fn args ts hop
  simp only [pvOp, hop]
  split at e
  ·exact .inr (.inr (xEat_ok e ho hk))
  ·exact .inr (.inl (yon e ho hk))
  ·exact .inl (ynn e ho hk)
 ·rename_i t hop
  simp only [pvOp, hop]
  split at e
  ·rename_i l hl
   split at e
   ·rename_i d hd
    split at e
    ·cases e
    ·rename_i hne
     simp only [Option.some.injEq, Prod.mk.injEq] at e
     obtain ⟨rfl, rfl⟩ := e
     rw [hl]
     exact ⟨d, hd, hne, hk⟩
   ·cases e
  ·rename_i hno
   split at e
   ·rename_i x obs' hx
    simp only [Option.some.injEq, Prod.mk.injEq] at e
    obtain ⟨rfl, rfl⟩ := e
    have := gen hx ho hk
    split
    ·exact absurd (by assumption) (hno _)
    ·exact this
   ·cases e
 ·rename_i t k hop
  simp only [pvOp, hop]
  split at e
  ·rename_i l hl
   split at e
   ·rename_i g cs hy
    simp only [Option.some.injEq, Prod.mk.injEq] at e
    obtain ⟨rfl, rfl⟩ := e
    exact ⟨l, _, hl, hy, hk⟩
   ·rename_i y hy hno
    split at e
    ·rename_i hd
     simp only [Option.some.injEq, Prod.mk.injEq] at e
     obtain ⟨rfl, rfl⟩ := e
     refine ⟨l, y, hl, hno, ?_⟩
     split
     ·exact absurd rfl (hy _ _)
     ·exact ⟨hd, hk⟩
    ·cases e
   ·cases e
  ·cases e
 ·rename_i t parts hop
  simp only [pvOp, hop]
  split at e
  ·split at e
   ·rename_i cs0 cs h1 h2
    split at e
    ·rename_i hp
     simp only [Option.some.injEq, Prod.mk.injEq] at e
     obtain ⟨rfl, rfl⟩ := e
     exact .inr (.inl ⟨cs0, cs, Array.eq_empty_of_size_eq_zero hp, h1, h2, hk⟩)
    ·cases e
   ·cases e
  ·split at e
   ·rename_i x obs' hx
    simp only [Option.some.injEq, Prod.mk.injEq] at e
    obtain ⟨rfl, rfl⟩ := e
    exact .inl (gen hx ho hk)
   ·split at e
    ·rename_i x hp
     split at e
     ·rename_i cs r hm
      split at e
      ·rename_i h1
       simp only [Option.some.injEq, Prod.mk.injEq] at e
       obtain ⟨rfl, rfl⟩ := e
       exact .inr (.inr ⟨x, cs, r, hp, h1, hm, hk⟩)
      ·cases e
     ·cases e
    ·cases e
 ·rename_i t x lo hi c hop
  simp only [pvOp, hop]
  split at e
  ·rename_i y obs' hx
   simp only [Option.some.injEq, Prod.mk.injEq] at e
   obtain ⟨rfl, rfl⟩ := e
   exact .inl (gen hx ho hk)
  ·split at e
   ·rename_i y e1 sz r hE hX
    split at e
    ·rename_i e' rows k n hσ hy
     split at e
     ·rename_i he
      subst he
      simp only [Option.some.injEq, Prod.mk.injEq] at e
      obtain ⟨rfl, rfl⟩ := e
      obtain ⟨h1, h2, _⟩ := ho
      obtain ⟨m, rfl⟩ := Int.eq_ofNat_of_zero_le h1
      exact .inr ⟨_, sz, r, rows, y, k, m, rfl, rfl, rfl, hE, hX, hσ, hy, by omega, hk⟩
     ·cases e
    ·cases e
   ·cases e
 ·rename_i t n parts hop
  simp only [pvOp, hop]
  split at e
  ·rename_i x obs' hx
   simp only [Option.some.injEq, Prod.mk.injEq] at e
   obtain ⟨rfl, rfl⟩ := e
   exact .inl (gen hx ho hk)
  ·split at e
   ·rename_i e' sz x hE hp
    split at e
    ·rename_i cs r hm
     split at e
     ·rename_i hc
      simp only [Option.some.injEq, Prod.mk.injEq] at e
      obtain ⟨rfl, rfl⟩ := e
      exact .inr ⟨e', sz, x, cs, r, hE, hc.1, hp, hc.2.1, hm, hc.2.2.1, hc.2.2.2.1, hc.2.2.2.2, hk⟩
     ·cases e
    ·cases e
   ·cases e
 ·rename_i h1 h2 h3 h4 h5 h6 h7 h8 h9 h10
  split at e
  ·rename_i x obs' hx
   simp only [Option.some.injEq, Prod.mk.injEq] at e
   obtain ⟨rfl, rfl⟩ := e
   have := gen hx ho hk
   unfold pvOp
   split
   ·exact absurd (by assumption) (h1 _)
   ·exact absurd (by assumption) (h2 _ _ _)
   ·exact absurd (by assumption) (h3 _ _)
   ·exact absurd (by assumption) (h4 _ _)
   ·exact absurd (by assumption) (h5 _ _ _)
   ·exact absurd (by assumption) (h6 _)
   ·exact absurd (by assumption) (h7 _ _)
   ·exact absurd (by assumption) (h8 _ _)
   ·exact absurd (by assumption) (h9 _ _ _ _ _)
   ·exact absurd (by assumption) (h10 _ _ _)
   ·exact this
  ·cases e
def xFix (σ : St) (h : HH) : St × List Prop := match h.fix with
 | some (k, x) => (fun s => if s = k then x else σ s, [σ k = x])
 | none => (σ, [])
theorem xFix_ok {σ : St} {h : HH} (ho : allP (xFix σ h).2) : (xFix σ h).1 = σ := by
 unfold xFix at ho ⊢
 split
 ·rename_i k x hk
  simp only [hk] at ho
  funext s
  show (if s = k then x else σ s) = σ s
  split
  ·rename_i hs; rw [hs]; exact ho.1.symm
  ·rfl
 ·rfl
def hintAt (hs : List (Nat × HH)) (k : Nat) : HH := match hs.lookup k with
 | some h => h
 | none => {}
def xOpF (P : Program) (o : Oper) (σ : St) (h : HH) : Option (St × List Prop) := match h.pre, h.take with
 | none, none => xOp0 P o σ h
 | none, some (t, c :: cs) => (match σ t with
  | .ref r q none => if tkOk σ t r q = true then (match xOp0 P o (tkSt σ t r q c) h with
   | some (σ', obs) => some (σ', (getRow (rows1 (σ r)) q = some (c :: cs)) :: obs)
   | none => none) else none
  | _ => none)
 | none, some (_, []) => none
 | some (r, x), _ => (match xOp0 P o (fun s => if s = r then x else frz r σ s) h with
  | some (σ', obs) => some (σ', (frz r σ r = x) :: obs)
  | none => none)
theorem xOpF_ok {σ σ' : St} {o : Oper} {h : HH} {obs : List Prop} {K : St → Prop} (e : xOpF P o σ h = some (σ', obs)) (ho : allP obs) (hk : K σ') : pvOpF P o σ K := by
 unfold xOpF at e
 split at e
 ·exact .inl (xOp0_ok e ho hk)
 ·rename_i t c cs _ _
  split at e
  ·rename_i r q ht
   split at e
   ·rename_i hok
    split at e
    ·rename_i σ2 obs2 h2
     simp only [Option.some.injEq, Prod.mk.injEq] at e
     obtain ⟨rfl, rfl⟩ := e
     exact .inr (.inr ⟨t, r, q, c, cs, ht, hok, ho.1, xOp0_ok h2 ho.2 hk⟩)
    ·cases e
   ·cases e
  ·cases e
 ·cases e
 ·rename_i _ r x _
  split at e
  ·rename_i σ2 obs2 h2
   simp only [Option.some.injEq, Prod.mk.injEq] at e
   obtain ⟨rfl, rfl⟩ := e
   obtain ⟨h3, h4⟩ := ho
   have e2 : (fun s => if s = r then x else frz r σ s) = frz r σ := by
    funext s
    by_cases hs : s = r
    ·subst hs; rw [if_pos rfl]; exact h3.symm
    ·rw [if_neg hs]
   rw [e2] at h2
   exact .inr (.inl ⟨r, xOp0_ok h2 h4 hk⟩)
  ·cases e
def xGuard (ops : Array Oper) (o : Oper) (σ : St) (h : HH) : Option (Bool × List Prop) := match o.guard with
 | none => some (true, [])
 | some (j, want) => match (ops[j]?).bind (·.dst) with
  | some d => (match σ d, h.g with
   | .p (.bool b), some t => some (t == want, [b = t])
   | .p (.tuple vs), _ => if vs.size = 0 then some (false, []) else none
   | _, _ => none)
  | none => none
theorem yye {ops : Array Oper} {o : Oper} {σ : St} {h : HH} {t : Bool} {obs : List Prop} {run skip : Prop} (e : xGuard ops o σ h = some (t, obs)) (ho : allP obs) (hk : if t then run else skip) : gOp ops o σ run skip := by
 unfold xGuard at e
 unfold gOp
 split at e
 ·rename_i hg
  simp only [Option.some.injEq, Prod.mk.injEq] at e
  obtain ⟨rfl, rfl⟩ := e
  simp only [hg]; exact hk
 ·rename_i j want hg
  simp only [hg]
  split at e
  ·rename_i d hd
   refine ⟨d, hd, ?_⟩
   split at e
   ·rename_i b t' h1 h2
    simp only [Option.some.injEq, Prod.mk.injEq] at e
    obtain ⟨rfl, rfl⟩ := e
    simp only [h1]
    rw [ho.1]
    by_cases hw : t' = want
    ·subst hw; simpa using hk
    ·rw [if_neg hw]
     have : (t' == want) = false := by simpa using hw
     simpa [this] using hk
   ·rename_i vs h1
    split at e
    ·rename_i hv
     simp only [Option.some.injEq, Prod.mk.injEq] at e
     obtain ⟨rfl, rfl⟩ := e
     simp only [h1]
     exact ⟨hv, hk⟩
    ·cases e
   ·cases e
  ·cases e
def xL (P : Program) (ops : Array Oper) (hs : List (Nat × HH)) : Nat → List Oper → St → Option (St × List Prop)
 | _, [], σ => some (σ, [])
 | k, o :: l, σ => match xGuard ops o σ (hintAt hs k) with
  | some (true, o1) => (match xOpF P o σ (hintAt hs k) with
   | some (σ1, o2) => (match xL P ops hs (k + 1) l (xFix σ1 (hintAt hs k)).1 with
    | some (σ2, o3) => some (σ2, o1 ++ (o2 ++ ((xFix σ1 (hintAt hs k)).2 ++ o3)))
    | none => none)
   | none => none)
  | some (false, o1) => (match xL P ops hs (k + 1) l (putO o.dst (.p (.tuple #[])) σ) with
   | some (σ2, o3) => some (σ2, o1 ++ o3)
   | none => none)
  | none => none
theorem xL_ok {ops : Array Oper} {hs : List (Nat × HH)} {K : St → Prop} : ∀ (l : List Oper) (k : Nat) (σ σ' : St) (obs : List Prop), xL P ops hs k l σ = some (σ', obs) → allP obs → K σ' → pvL P ops l σ K
 | [], k, σ, σ', obs, e, ho, hk => by
  simp only [xL, Option.some.injEq, Prod.mk.injEq] at e
  obtain ⟨rfl, rfl⟩ := e
  exact hk
 | o :: l, k, σ, σ', obs, e, ho, hk => by
  simp only [xL] at e
  split at e
  ·rename_i o1 hg
   split at e
   ·rename_i σ1 o2 h1
    split at e
    ·rename_i σ2 o3 h2
     simp only [Option.some.injEq, Prod.mk.injEq] at e
     obtain ⟨rfl, rfl⟩ := e
     rw [allP_append, allP_append, allP_append] at ho
     refine yye hg ho.1 ?_
     rw [if_pos rfl]
     refine xOpF_ok h1 ho.2.1 ?_
     rw [xFix_ok ho.2.2.1] at h2
     exact xL_ok l (k + 1) _ _ _ h2 ho.2.2.2 hk
    ·cases e
   ·cases e
  ·rename_i o1 hg
   split at e
   ·rename_i σ2 o3 h2
    simp only [Option.some.injEq, Prod.mk.injEq] at e
    obtain ⟨rfl, rfl⟩ := e
    rw [allP_append] at ho
    refine yye hg ho.1 ?_
    simp only [Bool.false_eq_true, if_false]
    exact xL_ok l (k + 1) _ _ _ h2 ho.2 hk
   ·cases e
  ·cases e
def xDSt (P : Program) (rt : Nat → SV) (o : Oper) (σ : St) (r : Nat) : Option (St × List Prop) :=
 match o.op with
 | .store t (.tmp d) x => (match o.guard, o.dst, rt r, tyC P t, σ r, evS σ x with
  | none, none, .tup [], some (_, n), .box old, .p v =>
   if (d == r && decide (0 < n) && old.length == n && (raws old).isSome && v.cells.toList.all scal && v.cells.size == n) = true then some (upd σ r (.box (cellsV v)), []) else none
  | _, _, _, _, _, _ => none)
 | _ => none
theorem xDSt_ok {rt : Nat → SV} {o : Oper} {σ σ' : St} {r : Nat} {obs : List Prop} {K : St → Prop} (e : xDSt P rt o σ r = some (σ', obs)) (hk : K σ') : ∃ y, dStore P rt o σ r y ∧ K (upd σ r y) := by
 unfold xDSt at e
 split at e
 ·rename_i t d x hop
  split at e
  ·rename_i _ g n old v h1 h2 h3 h4 h5 h6
   split at e
   ·rename_i hc
    simp only [Bool.and_eq_true, decide_eq_true_eq, beq_iff_eq] at hc
    obtain ⟨⟨⟨⟨⟨rfl, c1⟩, c2⟩, c3⟩, c4⟩, c5⟩ := hc
    simp only [Option.some.injEq, Prod.mk.injEq] at e
    obtain ⟨rfl, rfl⟩ := e
    exact ⟨_, ⟨h1, h2, h3, t, x, _, n, old, v, hop, h4, c1, h5, c2, c3, h6, c4, c5, rfl⟩, hk⟩
   ·cases e
  ·cases e
 ·cases e
def xDLend (P : Program) (rt : Nat → SV) (o : Oper) (σ : St) (r : Nat) (h : HH) : Option (St × List Prop) :=
 match o.op with
 | .call { callee := .value fn, args := args, argTypes := _ } => (match args.toList with
  | x0 :: rest => (match sOp.fnOf (evS σ fn), evS σ x0, σ r, rt r, toArgs (rtL rt o σ) (rest.map (evS σ)), h.lend with
   | some (f, []), .addr r' [(0, 0)], .box cs, .tup [], some as0, some (axs, vals, .box cs', _) =>
    if (r' == r && sOp.noPtr as0 && (wnR cs' || ((rest.map (evS σ)).flatMap rootOf).isEmpty)) = true then (match o.dst with
     | some d => if (!isRoot (σ d) && d != r && okW rt d (resSV vals)) = true then some (upd (upd σ d (resSV vals)) r (.box cs'), asP as0 axs ++ (MeetsB P f (.box cs) (asO as0 axs) vals (.box cs') :: smP true vals)) else none
     | none => some (upd σ r (.box cs'), asP as0 axs ++ (MeetsB P f (.box cs) (asO as0 axs) vals (.box cs') :: smP true vals))) else none
   | _, _, _, _, _, _ => none)
  | [] => none)
 | _ => none
theorem yhm {rt : Nat → SV} {o : Oper} {σ σ' : St} {r : Nat} {h : HH} {obs : List Prop} {K : St → Prop} (e : xDLend P rt o σ r h = some (σ', obs)) (ho : allP obs) (hk : K σ') : ∃ d y, dLend P rt o σ r d y ∧ K (upd (putW σ d) r y) := by
 unfold xDLend at e
 split at e
 ·rename_i fn args ts hop
  split at e
  ·rename_i x0 rest hargs
   split at e
   ·rename_i f r' cs as0 axs vals cs' b h1 h2 h3 h4 h5 h6
    split at e
    ·rename_i hc
     simp only [Bool.and_eq_true, beq_iff_eq, Bool.or_eq_true, List.isEmpty_iff] at hc
     obtain ⟨⟨rfl, hp⟩, hw⟩ := hc
     split at e
     ·rename_i d hd
      split at e
      ·rename_i hc
       simp only [Bool.and_eq_true, Bool.not_eq_true', bne_iff_ne, ne_eq] at hc
       simp only [Option.some.injEq, Prod.mk.injEq] at e
       obtain ⟨rfl, rfl⟩ := e
       obtain ⟨ho1, ho2, ho3⟩ := allP_append.1 ho
       rw [as_ok ho1] at ho2
       replace ho3 : vals.all simpleR = true := by simpa using sm_ok ho3
       exact ⟨some (d, resSV vals), _, ⟨h4, fn, args, ts, f, x0, rest, as0, vals, cs, cs', hop, hargs, h1, h2, h3, h5, hp, hw, ho2, ho3, rfl, by rw [hd]; exact ⟨hc.1.1, hc.1.2, hc.2, rfl⟩⟩, hk⟩
      ·cases e
     ·rename_i hd
      simp only [Option.some.injEq, Prod.mk.injEq] at e
      obtain ⟨rfl, rfl⟩ := e
      obtain ⟨ho1, ho2, ho3⟩ := allP_append.1 ho
      rw [as_ok ho1] at ho2
      replace ho3 : vals.all simpleR = true := by simpa using sm_ok ho3
      exact ⟨none, _, ⟨h4, fn, args, ts, f, x0, rest, as0, vals, cs, cs', hop, hargs, h1, h2, h3, h5, hp, hw, ho2, ho3, rfl, by rw [hd]⟩, hk⟩
    ·cases e
   ·cases e
  ·cases e
 ·cases e
def xDEat (P : Program) (rt : Nat → SV) (o : Oper) (σ : St) (r : Nat) (h : HH) : Option (St × List Prop) :=
 match o.dst, o.guard, rt r with
 | some d, none, .tup [.u] => if (d == r || isRoot (σ d)) = true then none else (match o.op with
  | .move (.tmp t) => if t = r then (match σ r with
   | .ov g cs => if okW rt d (.ov g cs) = true then some (upd (upd σ r .u) d (.ov g cs), []) else none
   | _ => none) else none
  | .call { callee := .builtin .append, args := args, argTypes := ts } => (match args.toList, ts.toList with
   | [.tmp z, y], [t, t'] => if z = r ∧ t = t' then (match slE P t, σ r, xSl (rtL rt o σ) (evS σ y) h with
    | some (e, sz), .ov false [.sl (some e') rows], some (none, rows2, obs) => if e' = e ∧ apE P e = true ∧ okW rt d (.ov false [.sl (some e) (rows ++ rows2)]) = true then some (upd (upd σ r .u) d (.ov false [.sl (some e) (rows ++ rows2)]), (rows.length + rows2.length ≤ 1099511627776) :: (∀ row ∈ rows2, row.length = sz) :: obs) else none
    | _, _, _ => none) else none
   | _, _ => none)
  | _ => none)
 | _, _, _ => none
theorem ypn {rt : Nat → SV} {o : Oper} {σ σ' : St} {r : Nat} {h : HH} {obs : List Prop} {K : St → Prop} (e : xDEat P rt o σ r h = some (σ', obs)) (ho : allP obs) (hk : K σ') : ∃ d x, dEat P rt o σ r d x ∧ K (upd (upd σ r .u) d x) := by
 unfold xDEat at e
 split at e
 ·rename_i d h1 h2 h3
  split at e
  ·cases e
  ·rename_i hc
   have hne : d ≠ r := by rintro rfl; simp at hc
   have hnr : isRoot (σ d) = false := by cases h9 : isRoot (σ d) <;> simp_all
   split at e
   ·rename_i t hop
    split at e
    ·rename_i htr
     subst htr
     split at e
     ·rename_i g cs hs
      split at e
      ·rename_i hw
       simp only [Option.some.injEq, Prod.mk.injEq] at e
       obtain ⟨rfl, rfl⟩ := e
       exact ⟨d, _, ⟨h3, h2, h1, hne, hnr, hw, .inl ⟨hop, ⟨g, cs, hs⟩, hs.symm⟩⟩, hk⟩
      ·cases e
     ·cases e
    ·cases e
   ·rename_i args ts hop
    split at e
    ·rename_i z y t t' ha hts
     split at e
     ·rename_i hc2
      obtain ⟨rfl, rfl⟩ := hc2
      split at e
      ·rename_i e1 sz e2 rows rows2 obs' h4 h5 h6
       split at e
       ·rename_i hc3
        obtain ⟨rfl, h7, h8⟩ := hc3
        simp only [Option.some.injEq, Prod.mk.injEq] at e
        obtain ⟨rfl, rfl⟩ := e
        obtain ⟨ho1, ho2, ho3⟩ := ho
        exact ⟨d, _, ⟨h3, h2, h1, hne, hnr, h8, .inr ⟨args, ts, y, t, e2, sz, rows, rows2, hop, ha, hts, h4, h7, h5, xSl_ok h6 ho3, ho2, ho1, rfl⟩⟩, hk⟩
       ·cases e
      ·cases e
     ·cases e
    ·cases e
   ·cases e
 ·cases e
def bth (h : HH) (x : SV) : SV := match h.pre with
 | some _ => frzAt x
 | none => x
theorem bth_or (h : HH) (x : SV) : bth h x = x ∨ bth h x = frzAt x := by unfold bth; split <;> simp
def xDOp (P : Program) (rt : Nat → SV) (e : Option Nat) (o : Oper) (σ : St) (h : HH) : Option (St × List Prop) :=
 match e with
 | some r => (match h.lend with
  | none => (match rt r with
   | .tup [.u] => xDEat P rt o σ r h
   | _ => xDSt P rt o σ r)
  | some _ => xDLend P rt o σ r h)
 | none => (match o.dst with
  | some d => if (isRoot (σ d) || (stOf o).isSome) = true then none else (match o.op with
   | .assign x => if (isDR (evS σ x) && okW rt d (evS σ x)) = true then some (upd σ d (evS σ x), []) else none
   | _ => (match xS P (evS σ) (rtL rt o σ) o h with
    | some (x, obs) => if okW rt d (bth h x) = true then some (upd σ d (bth h x), obs) else none
    | none => none))
  | none => none)
theorem xDOp_ok {rt : Nat → SV} {en : Option Nat} {o : Oper} {σ σ' : St} {h : HH} {obs : List Prop} {K : St → Prop} (e : xDOp P rt en o σ h = some (σ', obs)) (ho : allP obs) (hk : K σ') : dOp P rt en o σ K := by
 unfold xDOp at e
 split at e
 ·rename_i r
  split at e
  ·split at e
   ·exact .inr (.inr (ypn e ho hk))
   ·exact .inl (xDSt_ok e hk)
  ·exact .inr (.inl (yhm e ho hk))
 ·split at e
  ·rename_i d hd
   split at e
   ·cases e
   ·rename_i hr
    have hr' : isRoot (σ d) = false ∧ stOf o = none := by
     cases h5 : isRoot (σ d) <;> cases h6 : stOf o <;> simp_all
    refine ⟨d, hd, hr'.2, hr'.1, ?_⟩
    split at e
    ·rename_i x hop
     split at e
     ·rename_i hw
      simp only [Option.some.injEq, Prod.mk.injEq] at e
      obtain ⟨rfl, rfl⟩ := e
      have hw2 := Bool.and_eq_true_iff.1 hw
      simp only [hop]
      exact ⟨hw2.1, hw2.2, hk⟩
     ·cases e
    ·rename_i hno
     split at e
     ·rename_i x obs' hx
      split at e
      ·rename_i hw
       simp only [Option.some.injEq, Prod.mk.injEq] at e
       obtain ⟨rfl, rfl⟩ := e
       have := xS_ok (K := fun x => ∃ y, (y = x ∨ y = frzAt x) ∧ okW rt d y = true ∧ K (upd σ d y)) hx ho ⟨_, bth_or h x, hw, hk⟩
       split
       ·exact absurd (by assumption) (hno _)
       ·exact this
      ·cases e
     ·cases e
  ·cases e
def xD (P : Program) (ops : Array Oper) (rt : Nat → SV) (T : List (Nat × Nat)) (hs : List (Nat × HH)) : Nat → List Oper → St → Option (St × List Prop)
 | _, [], σ => some (σ, [])
 | k, o :: l, σ => match xGuard ops o σ (hintAt hs k) with
  | some (true, o1) => (match xDOp P rt (T.lookup k) o σ (hintAt hs k) with
   | some (σ1, o2) => (match xD P ops rt T hs (k + 1) l (xFix σ1 (hintAt hs k)).1 with
    | some (σ2, o3) => some (σ2, o1 ++ (o2 ++ ((xFix σ1 (hintAt hs k)).2 ++ o3)))
    | none => none)
   | none => none)
  | some (false, o1) => (match o.dst with
   | some d => if (isRoot (σ d) || (stOf o).isSome || !okW rt d (.p (.tuple #[]))) = true then none else (match xD P ops rt T hs (k + 1) l (upd σ d (.p (.tuple #[]))) with
    | some (σ2, o3) => some (σ2, o1 ++ o3)
    | none => none)
   | none => none)
  | none => none
theorem xD_ok {ops : Array Oper} {rt : Nat → SV} {T : List (Nat × Nat)} {hs : List (Nat × HH)} {K : St → Prop} : ∀ (l : List Oper) (k : Nat) (σ σ' : St) (obs : List Prop), xD P ops rt T hs k l σ = some (σ', obs) → allP obs → K σ' → pvD P ops rt T k l σ K
 | [], k, σ, σ', obs, e, ho, hk => by
  simp only [xD, Option.some.injEq, Prod.mk.injEq] at e
  obtain ⟨rfl, rfl⟩ := e
  exact hk
 | o :: l, k, σ, σ', obs, e, ho, hk => by
  simp only [xD] at e
  split at e
  ·rename_i o1 hg
   split at e
   ·rename_i σ1 o2 h1
    split at e
    ·rename_i σ2 o3 h2
     simp only [Option.some.injEq, Prod.mk.injEq] at e
     obtain ⟨rfl, rfl⟩ := e
     rw [allP_append, allP_append, allP_append] at ho
     refine yye hg ho.1 ?_
     rw [if_pos rfl]
     refine xDOp_ok h1 ho.2.1 ?_
     rw [xFix_ok ho.2.2.1] at h2
     exact xD_ok l (k + 1) _ _ _ h2 ho.2.2.2 hk
    ·cases e
   ·cases e
  ·rename_i o1 hg
   split at e
   ·rename_i d hd
    split at e
    ·cases e
    ·rename_i hr
     split at e
     ·rename_i σ2 o3 h2
      simp only [Option.some.injEq, Prod.mk.injEq] at e
      obtain ⟨rfl, rfl⟩ := e
      rw [allP_append] at ho
      refine yye hg ho.1 ?_
      simp only [Bool.false_eq_true, if_false]
      have hr' : isRoot (σ d) = false ∧ stOf o = none ∧ okW rt d (.p (.tuple #[])) = true := by
       cases h5 : isRoot (σ d) <;> cases h6 : stOf o <;> cases h7 : okW rt d (.p (.tuple #[])) <;> simp_all
      exact ⟨d, hd, hr'.2.1, hr'.1, hr'.2.2, xD_ok l (k + 1) _ _ _ h2 ho.2 hk⟩
     ·cases e
   ·cases e
  ·cases e
end Go.PV

/-
 A walk over pure values: code by rules over lists of slots; loops that are reckoned.
 Conditions: none.
-/
namespace Go.PV
variable {P : Program} {N : Nat}
abbrev LS := List (Nat × SV)
def refsOk (l : LS) : Bool := l.all fun x => refOk (l.map (·.1)) x.2
def readL (σ : St) (l : LS) : LS := l.map fun x => (x.1, σ x.1)
theorem yfc {σ : St} {l : LS} (h1 : refsOk l = true) (h2 : readL σ l = l) : agree l σ := by
 refine ⟨h1, ?_⟩
 clear h1
 have : ∀ (l' : LS), (∀ x ∈ readL σ l', x ∈ l' ) → True := fun _ _ => trivial
 unfold readL at h2
 intro x hx
 have key : ∀ (l : LS), l.map (fun x => (x.1, σ x.1)) = l → ∀ x ∈ l, σ x.1 = x.2 := by
  intro l
  induction l with
  | nil => simp
  | cons y l ih =>
   intro h x hx
   simp only [List.map_cons, List.cons.injEq] at h
   rcases List.mem_cons.1 hx with rfl | hx
   ·exact congrArg Prod.snd h.1
   ·exact ih h.2 x hx
 exact key l h2 x hx
def wk (l l' : LS) : Prop := agree l' (ofL l)
theorem wk_of {l l' : LS} (h1 : refsOk l' = true) (h2 : readL (ofL l) l' = l') : wk l l' := yfc h1 h2
def OkL (P : Program) (N : Nat) (c : Code) (l : LS) (Q : Ex → LS → Prop) : Prop :=
 Ok P N c (ofL l) fun e σ => ∃ l', (σ = ofL l' ∨ agree l' σ) ∧ Q e l'
theorem OkL.mono {c : Code} {l : LS} {Q Q' : Ex → LS → Prop} (h : OkL P N c l Q) (hq : ∀ e l, Q e l → Q' e l) : OkL P N c l Q' := fun k hB w0 A I a w L hI hR =>
 wp_mono (h k hB w0 A I a w L hI hR) fun e a w h => by
  cases e <;> first | exact h.elim | (obtain ⟨σ, L, h1, l', h2, h3⟩ := h; exact ⟨σ, L, h1, l', h2, hq _ _ h3⟩)
theorem OkL.weak {c : Code} {l l' : LS} {Q : Ex → LS → Prop} (h : OkL P N c l' Q) (hw : wk l l') : OkL P N c l Q := fun k hB w0 A I a w L hI hR =>
 h k hB w0 A I a w L hI (yjb hR hw)
def seqL (K : LS → Prop) (Q : Ex → LS → Prop) : Ex → LS → Prop := fun e l => match e with
 | .normal => K l
 | e => Q e l
def blockL (id : Nat) (Q : Ex → LS → Prop) : Ex → LS → Prop := fun e l => match e with
 | .exit i => if i = id then Q .normal l else Q (.exit i) l
 | e => Q e l
theorem k_seq {a b : Code} {l : LS} {Q : Ex → LS → Prop} (h : OkL P N a l (seqL (fun l' => OkL P N b l' Q) Q)) : OkL P N (.seq a b) l Q := fun k hB w0 A I x w L hI hR => by
 simp only [codeB, Bool.and_eq_true] at hB
 refine wp_seq (wp_mono (h k hB.1 w0 A I x w L hI hR) fun e x w h => ?_)
 cases e with
 | normal =>
  obtain ⟨σ, L, h1, l', h2, h3⟩ := h
  refine h3 k hB.2 w0 A I x w L hI ?_
  rcases h2 with rfl | h2
  ·exact h1
  ·exact yjb h1 h2
 | exit id => exact h
 | ret => exact h
 | _ => exact h.elim
theorem k_skip {l : LS} {Q : Ex → LS → Prop} (h : Q .normal l) : OkL P N .skip l Q := fun _ _ w0 A I a w L hI hR => wp_skip ⟨_, L, hR, l, .inl rfl, h⟩
theorem k_exit {id : Nat} {l : LS} {Q : Ex → LS → Prop} (h : Q (.exit id) l) : OkL P N (.exit id) l Q := fun _ _ w0 A I a w L hI hR => wp_exit ⟨_, L, hR, l, .inl rfl, h⟩
theorem k_ret {l : LS} {Q : Ex → LS → Prop} (h : Q .ret l) : OkL P N .ret l Q := fun _ _ w0 A I a w L hI hR => wp_ret ⟨_, L, hR, l, .inl rfl, h⟩
theorem k_cond {c : Operand} {b : Bool} {x y : Code} {l : LS} {Q : Ex → LS → Prop} (hc : evS (ofL l) c = .p (.bool b)) (h1 : b = true → OkL P N x l Q) (h2 : b = false → OkL P N y l Q) : OkL P N (.cond c x y) l Q := fun k hB w0 A I a w L hI hR => by
 simp only [codeB, Bool.and_eq_true] at hB
 refine wp_cond (evS_p hR hc) ?_
 cases b
 ·exact h2 rfl k hB.2 w0 A I a w L hI hR
 ·exact h1 rfl k hB.1 w0 A I a w L hI hR
theorem k_block {id : Nat} {c : Code} {l : LS} {Q : Ex → LS → Prop} (h : OkL P N c l (blockL id Q)) : OkL P N (.block id c) l Q := fun k hB w0 A I a w L hI hR => by
 refine wp_block (wp_mono (h k hB w0 A I a w L hI hR) fun e a w h => ?_)
 cases e with
 | normal => exact h
 | exit i =>
  obtain ⟨σ', L', h1, l', h2, h3⟩ := h
  simp only [Exit.inBlock]
  unfold blockL at h3
  split
  ·rename_i hi
   simp only [hi, if_true] at h3
   exact ⟨σ', L', h1, l', h2, h3⟩
  ·rename_i hi
   simp only [hi, if_false] at h3
   exact ⟨σ', L', h1, l', h2, h3⟩
 | ret => exact h
 | _ => exact h.elim
theorem k_join {X : Type} {a b : Code} {l : LS} {Q : Ex → LS → Prop} (J : X → LS) (K : X → Prop) (hb : ∀ x, K x → OkL P N b (J x) Q) (ha : OkL P N a l (seqL (fun l' => ∃ x, K x ∧ wk l' (J x)) Q)) : OkL P N (.seq a b) l Q :=
 k_seq (ha.mono fun e l' h => by
  cases e with
  | normal => obtain ⟨x, h1, h2⟩ := h; exact (hb x h1).weak h2
  | _ => exact h)
def ptBox : SV → SV
 | .box cs => .d false [.pt (eraR cs)]
 | x => x
theorem Rel.learn {M : Nat} {w0 : World} {A : Nat → Prop} {I : Bor} {σ : St} {a : Act} {w : World} {L : Lab} {r : Nat} {sv : SV} (hR : Rel P N M w0 A I σ a w L) (hr : r < N) (hu : σ r = .u) (hn : refOf sv = none) (hl : isLab sv = false)
  (hs : ∀ (tm : Nat → Value) (σ : St) (s : Nat), RelS P (Zof w0 A L w) L w tm σ s (a.tmps.getD r undef) sv) : Rel P N M w0 A I (fun s => if s = r then sv else σ s) a w L := by
 refine ⟨hR.dfr, hR.siz, hR.ev, hR.inj, hR.lab, fun s h => ?_, hR.hA, hR.pin, fun s => ?_⟩
 ·have : s ≠ r := by omega
  simp only [if_neg this]; exact hR.out s h
 ·by_cases h : s = r
  ·subst h; simp only [if_true]; exact hs _ _ _
  ·simp only [if_neg h]
   refine (hR.slot s).keep (fun b h => ⟨h, rfl⟩) (fun b q _ h => ⟨h, rfl⟩) fun x hx hrt => ?_
   have hxr : x ≠ r := by rintro rfl; rw [hu] at hrt; cases hrt
   exact ⟨fun _ _ h => ⟨h, rfl⟩, rfl, by simp only [if_neg hxr]; exact hrt, by simp only [if_neg hxr]⟩
theorem Rel.frzBox {w0 : World} {A : Nat → Prop} {I : Bor} {σ : St} {a : Act} {w : World} {L : Lab} {r : Nat} {cs : List C} (hR : Rel P N N w0 A I σ a w L) (hr : σ r = .box cs) :
  ∃ L', Rel P N N w0 A I (fun s => if s = r then .d false [.pt (eraR cs)] else killSV r (σ s)) a w L' := by
 have hrN : r < N := by
  rcases Nat.lt_or_ge r N with h | h
  ·exact h
  ·have := hR.out r h; rw [hr] at this; cases this
 have h1 := hR.take (r := r) (f := fun _ => none) (Nat.le_refl N) rfl fun q l h => by cases h
 refine ⟨mapL L r (fun _ => none), ?_⟩
 have h2 := h1.learn (r := r) (sv := .d false [.pt (eraR cs)]) hrN (by simp [gone]) rfl rfl (fun tm σ' s => by
  have hs := hR.slot r
  rw [hr] at hs
  obtain ⟨b, e1, e2, arr, e, e3, e4, e5⟩ := hs
  show FrzV _ _ false (a.tmps.getD r undef) [.pt (eraR cs)]
  have hz : ∀ b', Zof w0 A L w b' → Zof w0 A (mapL L r fun _ => none) w b' ∧ w.heap[b']? = w.heap[b']? := fun b' h => ⟨⟨by simp [mapL, h.1], h.2⟩, rfl⟩
  have hnew : ∀ b' q, L b' = some (r, q) → Zof w0 A (mapL L r fun _ => none) w b' ∧ w.heap[b']? = w.heap[b']? := fun b' q h => by
   have := hR.lab b' _ h
   refine ⟨⟨by simp [mapL, h], this.1, ?_⟩, rfl⟩
   rcases this.2.1 with h | h
   ·exact .inr h
   ·exact .inl (hR.hA.2 b' h)
  rw [show a.tmps.getD r undef = .pointer (some ⟨b, 0, none⟩) from e1]
  refine ⟨⟨rfl, rfl⟩, fun j c hj => ?_⟩
  cases j with
  | succ j => simp at hj
  | zero =>
   simp at hj
   subst hj
   refine .pt (fun j => arr.getD j undef) (hnew b _ e2).1 (fun j c hj => ?_) fun j c hj => ?_
   ·obtain ⟨c0, h3, rfl⟩ := ygd hj
    have hlt : j < arr.size := by rw [e4]; exact (List.getElem?_eq_some_iff.1 h3).1
    simp [World.cell?, e3, hlt]
   ·obtain ⟨c0, h3, rfl⟩ := ygd hj
    exact (e5 j c0 h3).1.freeze hz fun b' q hb => hnew b' _ hb)
 have e : (fun s => if s = r then SV.d false [.pt (eraR cs)] else gone σ r s) = fun s => if s = r then .d false [.pt (eraR cs)] else killSV r (σ s) := by
  funext s
  unfold gone
  split <;> rfl
 rw [e] at h2
 exact h2
theorem k_frz {c : Code} {l : LS} {Q : Ex → LS → Prop} (r : Nat) (cs cs' : List C) (l' : LS) (hr : ofL l r = .box cs) (he : eraR cs = cs') (h1 : refsOk l' = true) (h2 : readL (fun s => if s = r then .d false [.pt cs'] else killSV r (ofL l s)) l' = l') (h : OkL P N c l' Q) : OkL P N c l Q := fun k hB w0 A I a w L hI hR => by
 obtain ⟨L', h3⟩ := hR.frzBox hr
 rw [he] at h3
 exact h k hB w0 A I a w L' hI (yjb h3 (yfc h1 h2))
theorem q_n {K : LS → Prop} {Q : Ex → LS → Prop} {l : LS} (h : K l) : seqL K Q .normal l := h
theorem q_x {K : LS → Prop} {Q : Ex → LS → Prop} {i : Nat} {l : LS} (h : Q (.exit i) l) : seqL K Q (.exit i) l := h
theorem q_r {K : LS → Prop} {Q : Ex → LS → Prop} {l : LS} (h : Q .ret l) : seqL K Q .ret l := h
theorem b_n {Q : Ex → LS → Prop} {i : Nat} {l : LS} (h : Q .normal l) : blockL i Q .normal l := h
theorem b_r {Q : Ex → LS → Prop} {i : Nat} {l : LS} (h : Q .ret l) : blockL i Q .ret l := h
theorem b_x {Q : Ex → LS → Prop} {i : Nat} {l : LS} (h : Q .normal l) : blockL i Q (.exit i) l := by simpa [blockL] using h
def RegOk (P : Program) (N : Nat) (c : Code) (l0 l1 : LS) : Prop := ∀ Q : Ex → LS → Prop, Q .normal l1 → OkL P N c l0 Q
def xGo (P : Program) (ops : List Oper) (hs : List (Nat × HH)) (l0 l1 : LS) : Option (LS × List Prop) := match xL P ops.toArray hs 0 ops (ofL l0) with
 | some (σ', obs) => if refsOk l1 = true then some (readL σ' l1, obs) else none
 | none => none
theorem r_go {id : Nat} {ops : List Oper} {l0 : LS} (l1 : LS) (hs : List (Nat × HH)) (obs : List Prop) (e : xGo P ops hs l0 l1 = some (l1, obs)) (ho : allP obs) : RegOk P N (.region id ops.toArray false) l0 l1 := by
 intro Q hq
 refine ykc _ _ _ ?_
 show pvL P ops.toArray ops.toArray.toList (ofL l0) _
 rw [List.toList_toArray]
 unfold xGo at e
 split at e
 ·rename_i σ' obs' h1
  split at e
  ·rename_i hr
   simp only [Option.some.injEq, Prod.mk.injEq] at e
   obtain ⟨h2, rfl⟩ := e
   exact xL_ok _ _ _ _ _ h1 ho ⟨l1, .inr (yfc hr h2), hq⟩
  ·cases e
 ·cases e
def okLn (r : Nat) : SV → Bool
 | .ref r' _ _ => r' != r
 | .addr r' q => r' != r || (match q with | [(0, _)] => true | _ => false)
 | _ => true
theorem okLn_ok {r : Nat} {x : SV} (h : okLn r x = true) : killLn r x = x := by
 cases x with
 | ref r' q n => simp [okLn] at h; simp [killLn, h]
 | addr r' q =>
  by_cases hr : r' = r
  ·subst hr
   rcases q with _ | ⟨⟨i, o⟩, _ | ⟨z, q⟩⟩
   ·simp [okLn] at h
   ·cases i with
    | zero => simp [killLn]
    | succ i => simp [okLn] at h
   ·cases i <;> simp [okLn] at h
  ·simp [killLn, hr]
 | _ => rfl
def okSV (r : Nat) : SV → Bool
 | .ref r' _ _ => r' != r
 | .addr r' _ => r' != r
 | _ => true
theorem okSV_ok {r : Nat} {x : SV} (h : okSV r x = true) : killSV r x = x := by
 cases x with
 | ref r' q n => simp [okSV] at h; simp [killSV, h]
 | addr r' q => simp [okSV] at h; simp [killSV, h]
 | _ => rfl
def hidB (T : List (Nat × Nat)) (l : LS) : Bool := (T.map (·.2)).all fun r => if eatT T r = true then (!isRoot (ofL l r) || isOvS (ofL l r)) && l.all fun x => okSV r x.2 else (!isRoot (ofL l r) || isBox (ofL l r)) && l.all fun x => okLn r x.2
theorem ofL_mem : ∀ (l : LS) (s : Nat), ofL l s = .u ∨ ∃ x ∈ l, ofL l s = x.2
 | [], _ => .inl rfl
 | (k, x) :: l, s => by
  simp only [ofL, upd]
  by_cases h : s = k
  ·rw [if_pos h]; exact .inr ⟨(k, x), List.mem_cons_self, rfl⟩
  ·rw [if_neg h]
   rcases ofL_mem l s with h1 | ⟨y, h1, h2⟩
   ·exact .inl h1
   ·exact .inr ⟨y, List.mem_cons_of_mem _ h1, h2⟩
theorem hidB_ok {T : List (Nat × Nat)} {l : LS} (h : hidB T l = true) : hid T (ofL l) := by
 intro r hr
 have h0 := List.all_eq_true.1 h r hr
 split
 ·rename_i he
  simp only [he, if_true] at h0
  have h1 := Bool.and_eq_true_iff.1 h0
  refine ⟨fun hroot => ?_, fun s => ?_⟩
  ·have := h1.1
   rw [hroot] at this
   simpa using this
  ·rcases ofL_mem l s with h2 | ⟨x, h2, h3⟩
   ·rw [h2]; rfl
   ·rw [h3]; exact okSV_ok (List.all_eq_true.1 h1.2 x h2)
 ·rename_i he
  simp only [he, Bool.false_eq_true, if_false] at h0
  have h1 := Bool.and_eq_true_iff.1 h0
  refine ⟨fun hroot => ?_, fun s => ?_⟩
  ·have := h1.1
   rw [hroot] at this
   simpa using this
  ·rcases ofL_mem l s with h2 | ⟨x, h2, h3⟩
   ·rw [h2]; rfl
   ·rw [h3]; exact okLn_ok (List.all_eq_true.1 h1.2 x h2)
def xGoD (P : Program) (n : Nat) (T : List (Nat × Nat)) (ops : List Oper) (hs : List (Nat × HH)) (l0 l1 : LS) : Option (LS × List Prop) := if (drawB ops.toArray n T && hidB T l0) = true then (match xD P ops.toArray (rtOf T (ofL l0)) T hs 0 (ops.take n) (ofL l0) with
 | some (σ', o1) => (match xL P ops.toArray hs n (ops.drop n) σ' with
  | some (σ2, o2) => if refsOk l1 = true then some (readL σ2 l1, o1 ++ o2) else none
  | none => none)
 | none => none) else none
theorem r_draw {id : Nat} {ops : List Oper} {l0 : LS} (hm : P.follows .mixedOrders = true) (n : Nat) (T : List (Nat × Nat)) (l1 : LS) (hs : List (Nat × HH)) (obs : List Prop) (e : xGoD P n T ops hs l0 l1 = some (l1, obs)) (ho : allP obs) : RegOk P N (.region id ops.toArray true) l0 l1 := by
 intro Q hq
 refine ykc _ _ _ ?_
 unfold xGoD at e
 split at e
 ·rename_i hB
  simp only [Bool.and_eq_true] at hB
  refine ⟨hm, n, T, hB.1, hidB_ok hB.2, ?_⟩
  rw [List.toList_toArray]
  split at e
  ·rename_i σ' o1 h1
   split at e
   ·rename_i σ2 o2 h2
    split at e
    ·rename_i hr
     simp only [Option.some.injEq, Prod.mk.injEq] at e
     obtain ⟨h3, rfl⟩ := e
     rw [allP_append] at ho
     exact xD_ok _ _ _ _ _ h1 ho.1 (xL_ok _ _ _ _ _ h2 ho.2 ⟨l1, .inr (yfc hr h3), hq⟩)
    ·cases e
   ·cases e
  ·cases e
 ·cases e
theorem k_reg {c : Code} {l0 l1 : LS} {Q : Ex → LS → Prop} (h : RegOk P N c l0 l1) (hq : Q .normal l1) : OkL P N c l0 Q := h Q hq
theorem k_sreg {c b : Code} {l0 l1 : LS} {Q : Ex → LS → Prop} (h : RegOk P N c l0 l1) (hq : OkL P N b l1 Q) : OkL P N (.seq c b) l0 Q := k_seq (h _ hq)
section
variable {X Y : Type}
def iterO (body : X → Option (X ⊕ Y)) : Nat → X → Option Y
 | 0, _ => none
 | n + 1, x => match body x with
  | some (.inl x') => iterO body n x'
  | some (.inr y) => some y
  | none => none
open Classical in
noncomputable def loopO (body : X → Option (X ⊕ Y)) (x : X) : Option Y := if h : ∃ n y, iterO body n x = some y then some (Classical.choose (Classical.choose_spec h)) else none
theorem ygh {body : X → Option (X ⊕ Y)} : ∀ (n m : Nat) (x : X) (y y' : Y), iterO body n x = some y → iterO body m x = some y' → y = y'
 | 0, _, _, _, _, h, _ => by cases h
 | _ + 1, 0, _, _, _, _, h => by cases h
 | n + 1, m + 1, x, y, y', h1, h2 => by
  simp only [iterO] at h1 h2
  split at h1
  ·rename_i x' hb
   rw [hb] at h2
   exact ygh n m x' y y' h1 h2
  ·rename_i z hb
   rw [hb] at h2
   exact Option.some.inj (h1.symm.trans h2)
  ·cases h1
theorem loopO_some {body : X → Option (X ⊕ Y)} {x : X} {y : Y} : loopO body x = some y ↔ ∃ n, iterO body n x = some y := by
 unfold loopO
 constructor
 ·intro h
  split at h
  ·rename_i hx
   have := Classical.choose_spec (Classical.choose_spec hx)
   simp only [Option.some.injEq] at h
   rw [h] at this
   exact ⟨_, this⟩
  ·cases h
 ·rintro ⟨n, hn⟩
  have hx : ∃ n y, iterO body n x = some y := ⟨n, y, hn⟩
  rw [dif_pos hx]
  exact congrArg some (ygh _ _ _ _ _ (Classical.choose_spec (Classical.choose_spec hx)) hn)
theorem ysa (body : X → Option (X ⊕ Y)) (x : X) : loopO body x = match body x with
  | some (.inl x') => loopO body x'
  | some (.inr y) => some y
  | none => none := by
 apply Option.ext
 intro y
 rw [loopO_some]
 constructor
 ·rintro ⟨n, hn⟩
  cases n with
  | zero => cases hn
  | succ n =>
   simp only [iterO] at hn
   split at hn
   ·exact loopO_some.2 ⟨n, hn⟩
   ·exact hn
   ·cases hn
 ·intro h
  split at h
  ·rename_i x' hb
   obtain ⟨n, hn⟩ := loopO_some.1 h
   exact ⟨n + 1, by simp only [iterO, hb]; exact hn⟩
  ·rename_i z hb
   exact ⟨1, by simp only [iterO, hb]; exact h⟩
  ·cases h
def loopQ (o : X ⊕ Y) (J : X → LS) (Q : Ex → LS → Prop) : Ex → LS → Prop := fun e l' => match e with
 | .normal => ∃ x', o = .inl x' ∧ wk l' (J x')
 | e => Q e l'
theorem k_loop {c : Code} {l : LS} {Q : Ex → LS → Prop} {body : X → Option (X ⊕ Y)} {x0 : X} {y : Y} (J : X → LS) (h : loopO body x0 = some y) (h0 : wk l (J x0))
  (hr : ∀ x o, body x = some o → (∀ y', o = .inr y' → y' = y) → OkL P N c (J x) (loopQ o J Q)) : OkL P N (.loop c) l Q := by
 refine OkL.weak ?_ h0
 intro k hB w0 A I a w L hI hR
 obtain ⟨n, hn⟩ := loopO_some.1 h
 refine ycm (X := X × Nat) (fun z a w => iterO body z.2 z.1 = some y ∧ ∃ L, Rel P N N w0 A I (ofL (J z.1)) a w L) (fun z => z.2) (x0, n) ⟨hn, L, hR⟩ fun z a w ⟨hz, L, hR⟩ => ?_
 obtain ⟨x, m⟩ := z
 cases m with
 | zero => cases hz
 | succ m =>
  simp only [iterO] at hz
  have go : ∀ o, body x = some o → (∀ x', o = .inl x' → iterO body m x' = some y) → (∀ y', o = .inr y' → y' = y) → c.wp P (Exit.then (fun a' w' => ∃ z' : X × Nat, (iterO body z'.2 z'.1 = some y ∧ ∃ L, Rel P N N w0 A I (ofL (J z'.1)) a' w' L) ∧ z'.2 < m + 1) (lift P N w0 A I fun e σ => ∃ l', (σ = ofL l' ∨ agree l' σ) ∧ Q e l')) a w := fun o hb h1 h2 => by
   refine wp_mono (hr x o hb h2 k hB w0 A I a w L hI hR) fun e a w h => ?_
   cases e with
   | normal =>
    obtain ⟨σ, L, h3, l', h4, x', h5, h6⟩ := h
    refine ⟨(x', m), ⟨h1 x' h5, L, ?_⟩, Nat.lt_succ_self m⟩
    rcases h4 with rfl | h4
    ·exact yjb h3 h6
    ·exact yjb (yjb h3 h4) h6
   | exit id => exact h
   | ret => exact h
   | _ => exact h.elim
  split at hz
  ·rename_i x' hb
   exact go _ hb (fun x'' h => by cases h; exact hz) (fun y' h => by cases h)
  ·rename_i y' hb
   exact go _ hb (fun x'' h => by cases h) (fun y'' h => by cases h; exact Option.some.inj hz)
  ·cases hz
end
theorem lq_n {X Y : Type} {o : X ⊕ Y} {J : X → LS} {Q : Ex → LS → Prop} {l : LS} (x' : X) (h1 : o = .inl x') (h2 : wk l (J x')) : loopQ o J Q .normal l := ⟨x', h1, h2⟩
theorem lq_x {X Y : Type} {o : X ⊕ Y} {J : X → LS} {Q : Ex → LS → Prop} {l : LS} {i : Nat} (h : Q (.exit i) l) : loopQ o J Q (.exit i) l := h
theorem lq_r {X Y : Type} {o : X ⊕ Y} {J : X → LS} {Q : Ex → LS → Prop} {l : LS} (h : Q .ret l) : loopQ o J Q .ret l := h
def endL (P : Program) (fn : Func) (args : List Arg) (res : Res) : Ex → LS → Prop
 | .exit _, _ => False
 | _, l => ∃ ls, retVs P (ofL l) fn.results.toList = some ls ∧ ovOk ls = true ∧ ls.map (·.1) = res.vals ∧ outsOf (ofL l) ((List.range args.length).zip args) = some res.outs
end Go.PV

/-
 A walk over pure values: a contract from rules.
 Conditions: none.
-/
namespace Go.PV
variable {P : Program} {N : Nat} {w0 : World} {A : Nat → Prop} {I : Bor}
theorem ymi {f : FuncId} {fn : Func} {c : Code} {args : List Arg} {res : Res} (hc : callable P f = true) (hf : P.funcs[f]? = some fn) (hb : fn.body = some c)
  (hN : (decide (args.length ≤ fn.ntmps) && codeB 0 fn.ntmps c && args.all notPtrA) = true) {l0 : LS} (hl0 : (List.range args.length).zip (args.map argSV) = l0) (h : OkL P fn.ntmps c l0 (endL P fn args res)) : Meets P f args res := by
 simp only [Bool.and_eq_true, decide_eq_true_eq] at hN
 refine ⟨hc, fun w A vals h1 h4 => ?_⟩
 refine calls_of_wp hf hb ?_
 have hR := ydm (P := P) (N := fn.ntmps) h1 hN.1.1 h4
 refine wp_mono (h 0 hN.1.2 w A nob _ w _ rfl (by subst hl0; exact hR)) fun e a' w' hl => ?_
 cases e with
 | normal =>
  obtain ⟨σ, L, h5, l', h6, h7⟩ := hl
  obtain ⟨ls, g1, g2, g3, g4⟩ := h7
  exact end_ok (σ := ofL l') (L := L) (by
   rcases h6 with rfl | h6
   ·exact h5
   ·exact yjb h5 h6) ⟨ls, g1, g2, g3⟩
 | ret =>
  obtain ⟨σ, L, h5, l', h6, h7⟩ := hl
  obtain ⟨ls, g1, g2, g3, g4⟩ := h7
  exact end_ok (σ := ofL l') (L := L) (by
   rcases h6 with rfl | h6
   ·exact h5
   ·exact yjb h5 h6) ⟨ls, g1, g2, g3⟩
 | exit id =>
  obtain ⟨σ, L, h5, l', h6, h7⟩ := hl
  exact h7.elim
 | _ => exact hl.elim
def endLB (P : Program) (fn : Func) (vals : List RV) (x' : SV) : Ex → LS → Prop
 | .exit _, _ => False
 | _, l => ∃ ls, retVs P (ofL l) fn.results.toList = some ls ∧ ovOk ls = true ∧ (ls.all fun y => !isOvR y.1 || y.2 != 0) = true ∧ ls.map (·.1) = vals ∧ ofL l 0 = x'
theorem yhk {f : FuncId} {fn : Func} {c : Code} {x x' : SV} {args : List Arg} {vals : List RV} (hc : callable P f = true) (hf : P.funcs[f]? = some fn) (hb : fn.body = some c)
  (hN : (decide (args.length + 1 ≤ fn.ntmps) && codeB 1 fn.ntmps c && args.all notPtrA) = true) (hx' : (isOwnR x' || match x' with | .u => true | _ => false) = true) {l0 : LS} (hl0 : (List.range (args.length + 1)).zip (x :: args.map argSV) = l0) (h : OkL P fn.ntmps c l0 (endLB P fn vals x')) : MeetsB P f x args vals x' := by
 simp only [Bool.and_eq_true, decide_eq_true_eq] at hN
 refine ⟨hc, fun w A L0 v0 vs h1 h2 h3 h4 h5 => ?_⟩
 refine calls_of_wp hf hb ?_
 have hR := yck (P := P) (N := fn.ntmps) h1 h2 h3 hN.1.1 h4 h5
 refine wp_mono (h 1 hN.1.2 w _ _ _ w _ rfl (by subst hl0; exact hR)) fun e a' w' hl => ?_
 cases e with
 | normal =>
  obtain ⟨σ, L, h5, l', h6, h7⟩ := hl
  obtain ⟨ls, g1, g2, g0, g3, g4⟩ := h7
  exact endB_ok (σ := ofL l') (L := L) (by
   rcases h6 with rfl | h6
   ·exact h5
   ·exact yjb h5 h6) ⟨⟨ls, g1, g2, g0, g3⟩, g4, hx'⟩
 | ret =>
  obtain ⟨σ, L, h5, l', h6, h7⟩ := hl
  obtain ⟨ls, g1, g2, g0, g3, g4⟩ := h7
  exact endB_ok (σ := ofL l') (L := L) (by
   rcases h6 with rfl | h6
   ·exact h5
   ·exact yjb h5 h6) ⟨⟨ls, g1, g2, g0, g3⟩, g4, hx'⟩
 | exit id =>
  obtain ⟨σ, L, h5, l', h6, h7⟩ := hl
  exact h7.elim
 | _ => exact hl.elim
theorem eb_ret {fn : Func} {vals : List RV} {x' : SV} {l : LS} {ls : List (RV × Nat)} (h1 : retVs P (ofL l) fn.results.toList = some ls) (h2 : ovOk ls = true) (h0 : (ls.all fun y => !isOvR y.1 || y.2 != 0) = true) (h3 : ls.map (·.1) = vals) (h4 : ofL l 0 = x') : endLB P fn vals x' .ret l := ⟨ls, h1, h2, h0, h3, h4⟩
theorem eb_end {fn : Func} {vals : List RV} {x' : SV} {l : LS} {ls : List (RV × Nat)} (h1 : retVs P (ofL l) fn.results.toList = some ls) (h2 : ovOk ls = true) (h0 : (ls.all fun y => !isOvR y.1 || y.2 != 0) = true) (h3 : ls.map (·.1) = vals) (h4 : ofL l 0 = x') : endLB P fn vals x' .normal l := ⟨ls, h1, h2, h0, h3, h4⟩
theorem e_ret {fn : Func} {args : List Arg} {vals : List RV} {l : LS} {ls : List (RV × Nat)} (h1 : retVs P (ofL l) fn.results.toList = some ls) (h2 : ovOk ls = true) (h3 : ls.map (·.1) = vals) (h4 : outsOf (ofL l) ((List.range args.length).zip args) = some []) : endL P fn args { vals := vals } .ret l := ⟨ls, h1, h2, h3, h4⟩
theorem ite_t {α : Type} {b : Bool} {x y : Option α} {r : α} (hb : b = true) (h : (if b = true then x else y) = some r) : x = some r := by rwa [if_pos hb] at h
theorem ite_f {α : Type} {b : Bool} {x y : Option α} {r : α} (hb : b = false) (h : (if b = true then x else y) = some r) : y = some r := by rwa [if_neg (by simp [hb])] at h
theorem bind_some' {α β : Type} {x : Option α} {f : α → Option β} {r : β} (h : x.bind f = some r) : ∃ a, x = some a ∧ f a = some r := Option.bind_eq_some_iff.1 h
def idxO {α : Type} (xs : List α) (i : Int) : Option α := if 0 ≤ i then xs[i.toNat]? else none
theorem yba {α : Type} {xs : List α} {i : Int} {x : α} (h : idxO xs i = some x) : 0 ≤ i ∧ xs[i.toNat]? = some x := by
 unfold idxO at h
 split at h
 ·exact ⟨by assumption, h⟩
 ·cases h
theorem map_get {α β : Type} {xs : List α} {n : Nat} {x : α} (f : α → β) (h : xs[n]? = some x) : (xs.map f)[n]? = some (f x) := by simp [h]
def eI (n : Int) : List C := [.raw (.int .i64 n)]
def eU (k : IntKind) (n : Int) : List C := [.raw (.int k n)]
def eB (b : Bool) : List C := [.raw (.bool b)]
def eT (s : ByteArray) : List C := [.raw (.string s)]
def eP {α β : Type} (f : α → List C) (g : β → List C) (x : α × β) : List C := f x.1 ++ g x.2
def eF {α : Type} (f : α → List C) (l : List α) : List C := [.sl none (l.map f)]
def eO {α : Type} (t : TypeId) (f : α → List C) (l : List α) : List C := [.sl (some t) (l.map f)]
end Go.PV

/-
 A walk over pure values: small laws that the written walks lean on.
 Conditions: none.
-/
namespace Go.PV
variable {P : Program} {N : Nat}
def w64 (n : Int) : Int := IntKind.i64.wrap n
def iand (k : IntKind) (x y : Int) : Int := k.wrap ((BitVec.ofInt k.bits x) &&& (BitVec.ofInt k.bits y)).toNat
def ishr (k : IntKind) (x y : Int) : Int := x.fdiv (2 ^ (min y.toNat k.bits))
def ishl (k : IntKind) (x y : Int) : Int := k.wrap (x * 2 ^ (min y.toNat k.bits))
open Classical in
noncomputable def fuelO {α : Type} (f : Nat → Option α) : Option α := if h : ∃ k, (f k).isSome = true then f (Classical.choose h) else none
theorem yik {α : Type} {f : Nat → Option α} {r : α} (h : fuelO f = some r) : ∃ k, f k = some r := by
 unfold fuelO at h
 split at h
 ·exact ⟨_, h⟩
 ·cases h
theorem yqn {α : Type} {f : Nat → Option α} {v : α} (k : Nat) (h : f k = some v) (hu : ∀ k r, f k = some r → r = v) : fuelO f = some v := by
 have hx : ∃ k, (f k).isSome = true := ⟨k, by rw [h]; rfl⟩
 unfold fuelO
 rw [dif_pos hx]
 have hc := Classical.choose_spec hx
 obtain ⟨r, hr⟩ := Option.isSome_iff_exists.1 hc
 rw [hr, hu _ _ hr]
def guardO (p : Prop) [Decidable p] : Option Unit := if p then some () else none
theorem yca {p : Prop} [Decidable p] {u : Unit} (h : guardO p = some u) : p := by
 unfold guardO at h
 split at h
 ·assumption
 ·cases h
theorem RegOk.of_eq {c : Code} {l0 l1 l2 : LS} (h : RegOk P N c l0 l1) (e : l1 = l2) : RegOk P N c l0 l2 := e ▸ h
section
variable {α β : Type} {xs ys : List α} {f : α → List C} {g : β → List C}
theorem gre {rows : List (List C)} {n o : Nat} {row : List C} (h : rows[n]? = some row) : getRow rows [(n, o)] = some (row.drop o) := by simp [getRow, h]
theorem grs {rows rows' : List (List C)} {n o m o' : Nat} {q : Path} {row : List C} {e : TypeId} (h : rows[n]? = some row) (h2 : row[o]? = some (.sl (some e) rows')) : getRow rows ((n, o) :: (m, o') :: q) = getRow rows' ((m, o') :: q) := by
 cases q <;> simp [getRow, h, h2]
theorem gr0 {cells : List C} {rows' : List (List C)} {o m o' : Nat} {q : Path} {e : TypeId} (h2 : cells[o]? = some (.sl (some e) rows')) : getRow [cells] ((0, o) :: (m, o') :: q) = getRow rows' ((m, o') :: q) := grs (n := 0) rfl h2
theorem yni {rows : List (List C)} {n o : Nat} {q : Path} {cs : List C} : setL rows ((n, o) :: q) cs = rows.modify n (fun r => match q with | [] => r.take o ++ cs ++ r.drop (o + cs.length) | _ :: _ => setR r o q cs) := by
 induction rows generalizing n with
 | nil => cases n <;> simp [setL]
 | cons r rows ih =>
  cases n with
  | zero => cases q <;> simp [setL]
  | succ n => cases q <;> simp [setL, ih]
theorem setR_at {row : List C} {o : Nat} {q : Path} {cs : List C} {c : C} (h : row[o]? = some c) : setR row o q cs = row.take o ++ [setC c q cs] ++ row.drop (o + 1) := by
 induction row generalizing o with
 | nil => simp at h
 | cons r row ih =>
  cases o with
  | zero => simp at h; subst h; simp [setR]
  | succ o => simp at h; simp [setR, ih h]
theorem yhh {n : Nat} {x y : α} {F : List C → List C} (h : xs[n]? = some x) (h2 : F (f x) = f y) : (xs.map f).modify n F = (xs.set n y).map f := by
 apply List.ext_getElem?
 intro j
 rw [List.getElem?_modify, List.getElem?_map, List.getElem?_map, List.getElem?_set]
 by_cases hj : n = j
 ·subst hj
  obtain ⟨hlt, hx⟩ := List.getElem?_eq_some_iff.1 h
  subst hx
  simp [h2, hlt]
 ·simp [hj]
theorem set1 {n o : Nat} {x y : α} {cs : List C} (h : xs[n]? = some x) (h2 : (f x).take o ++ cs ++ (f x).drop (o + cs.length) = f y) : setL (xs.map f) [(n, o)] cs = (xs.set n y).map f := by
 rw [yni]; exact yhh h h2
theorem set2 {n o m o' : Nat} {q : Path} {x y : α} {cs : List C} {e : TypeId} {rows rows' : List (List C)} (h : xs[n]? = some x) (h1 : (f x)[o]? = some (.sl (some e) rows)) (h3 : setL rows ((m, o') :: q) cs = rows') (h2 : (f x).take o ++ [.sl (some e) rows'] ++ (f x).drop (o + 1) = f y) :
  setL (xs.map f) ((n, o) :: (m, o') :: q) cs = (xs.set n y).map f := by
 rw [yni]
 refine yhh h ?_
 show setR (f x) o ((m, o') :: q) cs = f y
 rw [setR_at h1, ← h2, ← h3]
 rfl
theorem rep_fix (f : α → List C) (z : α) {n : Nat} : List.replicate n (f z) = (List.replicate n z).map f := by simp
theorem yua {sz : Nat} (h : ∀ x, (f x).length = sz) : ∀ row ∈ xs.map f, row.length = sz := by
 intro row hr
 obtain ⟨x, _, rfl⟩ := List.mem_map.1 hr
 exact h x
theorem sl_hi {n : Nat} : ((xs.map f).take n).drop 0 = (xs.take n).map f := by simp [List.map_take]
theorem yea {h : α → List C} (hf : ∀ x, eraR (f x) = h x) : eraL (xs.map f) = xs.map h := by
 rw [yih, List.map_map]; exact List.map_congr_left fun x _ => hf x
theorem era_O {t : TypeId} {h : α → List C} (hf : ∀ x, eraR (f x) = h x) (l : List α) : eraR (eO t f l) = eF h l := by
 show [era (.sl (some t) (l.map f))] = _
 simp only [era, yea hf]; rfl
theorem era_F {h : α → List C} (hf : ∀ x, eraR (f x) = h x) (l : List α) : eraR (eF f l) = eF h l := by
 show [era (.sl none (l.map f))] = _
 simp only [era, yea hf]; rfl
theorem er_I (n : Int) : eraR (eI n) = eI n := rfl
theorem erc_sl {o : Option TypeId} {l l' : List (List C)} {r r' : List C} (h1 : eraL l = l') (h2 : eraR r = r') : eraR (.sl o l :: r) = .sl none l' :: r' := by
 show era (.sl o l) :: eraR r = _
 simp only [era, h1, h2]
theorem wnL_enc (h : ∀ x, wnR (f x) = true) : wnL (xs.map f) = true := by
 induction xs with
 | nil => rfl
 | cons x xs ih => simp [wnL, h, ih]
theorem frL_enc (h : ∀ x, frR (f x) = true) : frL (xs.map f) = true := by
 induction xs with
 | nil => rfl
 | cons x xs ih => simp [frL, h, ih]
theorem wn_I (n : Int) : wnR (eI n) = true := rfl
theorem wn_O {t : TypeId} (h1 : ∀ x, wnR (f x) = true) (l : List α) : wnR (eO t f l) = true := by simp [eO, wnR, wnC, wnL_enc h1]
theorem fr_U (k : IntKind) (n : Int) : frR (eU k n) = true := rfl
theorem frR1 {l : List (List C)} {r : List C} (h : frL l = true) (h2 : frR r = true) : frR (.sl none l :: r) = true := by simp [frR, frC, h, h2]
theorem wnR1 {t : TypeId} {l : List (List C)} {r : List C} (h : wnL l = true) (h2 : wnR r = true) : wnR (.sl (some t) l :: r) = true := by simp [wnR, wnC, h, h2]
end
theorem sa_p {v : Value} {l : List RV} (h : l.all simpleR = true) : (RV.p v :: l).all simpleR = true := by simp [simpleR, h]
theorem sa_o {g : Bool} {cs : List C} {l : List RV} (h0 : wnR cs = true) (h : l.all simpleR = true) : (RV.ov g cs :: l).all simpleR = true := by simp only [List.all_cons, simpleR, h0, h, Bool.and_self]
theorem ls_t {vals : List RV} {x : SV} (h1 : vals.all simpleR = true) (h2 : wnS x = true) : (vals.all simpleR && wnS x) = true := by rw [h1, h2]; rfl
end Go.PV

/-
 A walk over pure values: what the statement hands in, as data; what it wants to have back.
 Conditions: none.
-/
namespace Go.PV
open Go.Deep Go.ChangeShapes Go.WideShapes Go.RowKit
variable {P : Program}
inductive Ty where
 | int (k : IntKind)
 | bool
 | str
 | sl (a : Ty)
 | one (a : Ty)
 | pair (a b : Ty)
def Ty.α : Ty → Type
 | .int _ => Int
 | .bool => Bool
 | .str => ByteArray
 | .sl a => List a.α
 | .one a => a.α
 | .pair a b => a.α × b.α
def Ty.dflt : (T : Ty) → T.α
 | .int _ => (0 : Int)
 | .bool => false
 | .str => ByteArray.empty
 | .sl _ => []
 | .one a => a.dflt
 | .pair a b => (a.dflt, b.dflt)
def Ty.enc : (T : Ty) → T.α → List C
 | .int k => eU k
 | .bool => eB
 | .str => eT
 | .sl a => eF a.enc
 | .one a => a.enc
 | .pair a b => eP a.enc b.enc
def Ty.ok : (T : Ty) → T.α → Prop
 | .int k => fun n => (Lit.int k n).wf = true
 | .bool => fun _ => True
 | .str => fun s => s.size ≤ maxLen
 | .sl a => fun (l : List a.α) => l.length ≤ maxLen ∧ ∀ x ∈ l, a.ok x
 | .one a => a.ok
 | .pair a b => fun x => a.ok x.1 ∧ b.ok x.2
def tyX (P : Program) : Nat → Ty → (TypeId ⊕ (List Field × Nat × Nat)) → Bool
 | 0, _, _ => false
 | n + 1, T, .inl t => (match T, P.underlying t with
  | .int k, some (.int k') => decide (k = k')
  | .bool, some .bool => true
  | .str, some .string => true
  | .sl a, some (.slice e) => tyX P n a (.inl e)
  | .one a, some (.struct fs) => (match fs.toList with
   | [f] => tyX P n a (.inr ([f], 0, P.cellsOf t))
   | _ => false)
  | .pair a b, some (.struct fs) => tyX P n (.pair a b) (.inr (fs.toList, 0, P.cellsOf t))
  | _, _ => false)
 | n + 1, T, .inr ([f], o, tot) => decide (f.offset = o) && decide (o + P.cellsOf f.type = tot) && tyX P n T (.inl f.type)
 | n + 1, .pair a b, .inr (f :: g :: l, o, tot) => decide (f.offset = o) && decide (o + P.cellsOf f.type ≤ tot) && tyX P n a (.inl f.type) && tyX P n b (.inr (g :: l, o + P.cellsOf f.type, tot))
 | _, _, _ => false
theorem tyX_int {n : Nat} {k : IntKind} {t : TypeId} (h : tyX P (n + 1) (.int k) (.inl t) = true) : P.underlying t = some (.int k) := by
 cases hu : P.underlying t with
 | none => simp [tyX, hu] at h
 | some d => cases d <;> simp [tyX, hu] at h <;> simp [h]
theorem yjk {n : Nat} {t : TypeId} (h : tyX P (n + 1) .bool (.inl t) = true) : P.underlying t = some .bool := by
 cases hu : P.underlying t with
 | none => simp [tyX, hu] at h
 | some d => cases d <;> simp [tyX, hu] at h <;> simp
theorem tyX_str {n : Nat} {t : TypeId} (h : tyX P (n + 1) .str (.inl t) = true) : P.underlying t = some .string := by
 cases hu : P.underlying t with
 | none => simp [tyX, hu] at h
 | some d => cases d <;> simp [tyX, hu] at h <;> simp
theorem tyX_sl {n : Nat} {a : Ty} {t : TypeId} (h : tyX P (n + 1) (.sl a) (.inl t) = true) : ∃ e, P.underlying t = some (.slice e) ∧ tyX P n a (.inl e) = true := by
 cases hu : P.underlying t with
 | none => simp [tyX, hu] at h
 | some d => cases d <;> simp [tyX, hu] at h <;> exact ⟨_, rfl, h⟩
theorem tyX_one {n : Nat} {a : Ty} {t : TypeId} (h : tyX P (n + 1) (.one a) (.inl t) = true) : ∃ fs f, P.underlying t = some (.struct fs) ∧ fs.toList = [f] ∧ tyX P n a (.inr ([f], 0, P.cellsOf t)) = true := by
 cases hu : P.underlying t with
 | none => simp [tyX, hu] at h
 | some d =>
  cases d <;> simp only [tyX, hu, Bool.false_eq_true] at h
  rename_i fs
  split at h
  ·rename_i f hf
   exact ⟨fs, f, rfl, hf, h⟩
  ·cases h
theorem ykk {n : Nat} {a b : Ty} {t : TypeId} (h : tyX P (n + 1) (.pair a b) (.inl t) = true) : ∃ fs, P.underlying t = some (.struct fs) ∧ tyX P n (.pair a b) (.inr (fs.toList, 0, P.cellsOf t)) = true := by
 cases hu : P.underlying t with
 | none => simp [tyX, hu] at h
 | some d => cases d <;> simp [tyX, hu] at h <;> exact ⟨_, rfl, h⟩
section
variable {H : Type} {enc : TypeId × Value → H} {w : World} {spare : Nat → Bool} {held : Bool}
def Stands (w : World) (T : Ty) (cs : List Value) : Prop := ∃ a : T.α, T.ok a ∧ (T.enc a).length = cs.length ∧ ∀ (j : Nat) (c : C), (T.enc a)[j]? = some c → Frz (fun b => b < w.heap.size) w (cs.getD j undef) c
theorem cell_lt {a : Addr} {v : Value} (h : w.cell? a = some v) : a.block < w.heap.size := by
 unfold World.cell? at h
 split at h
 ·rename_i hx; exact (Array.getElem?_eq_some_iff.1 hx).1
 ·cases h
theorem yim (n : Nat) : (∀ (T : Ty) (t : TypeId), tyX P n T (.inl t) = true → ∀ (fuel : Nat) (cs : List Value) (x : DataW H × List MemPlace), DataW.trod enc P w 0 spare held fuel t cs = some x → Stands w T cs) ∧
  (∀ (T : Ty) (fs : List Field) (o tot : Nat), tyX P n T (.inr (fs, o, tot)) = true → ∀ (fuel : Nat) (cs : List Value) (xs : List (DataW H × List MemPlace)), cs.length = tot → o ≤ tot →
   fs.mapM (fun f => DataW.trod enc P w 0 spare held fuel f.type ((cs.drop f.offset).take (P.cellsOf f.type))) = some xs → Stands w T (cs.drop o)) := by
 induction n with
 | zero => exact ⟨fun T t h => by simp [tyX] at h, fun T fs o tot h => by cases T <;> simp [tyX] at h⟩
 | succ n ih =>
  obtain ⟨ih1, ih2⟩ := ih
  constructor
  ·intro T t h fuel cs x hx
   cases fuel with
   | zero => simp [DataW.trod] at hx
   | succ fuel =>
    cases T with
    | int k =>
     have hu := tyX_int h
     obtain ⟨m, hcs, _, hw⟩ := DataW.trod_int hu hx
     subst hcs
     refine ⟨m, hw, rfl, fun j c hj => ?_⟩
     cases j with
     | zero => simp [Ty.enc, eU] at hj; subst hj; exact .raw rfl
     | succ j => simp [Ty.enc, eU] at hj
    | bool =>
     have hu := yjk h
     obtain ⟨b, hcs, _⟩ := DataW.trod_bool hu hx
     subst hcs
     refine ⟨b, trivial, rfl, fun j c hj => ?_⟩
     cases j with
     | zero => simp [Ty.enc, eB] at hj; subst hj; exact .raw rfl
     | succ j => simp [Ty.enc, eB] at hj
    | str =>
     have hu := tyX_str h
     obtain ⟨s, hcs, _, hw⟩ := DataW.trod_string hu hx
     subst hcs
     refine ⟨s, hw, rfl, fun j c hj => ?_⟩
     cases j with
     | zero => simp [Ty.enc, eT] at hj; subst hj; exact .raw rfl
     | succ j => simp [Ty.enc, eT] at hj
    | sl a =>
     obtain ⟨e, hu, h⟩ := tyX_sl h
     rcases open_slice hu hx with ⟨rfl, _⟩ | ⟨ad, len, cap, m, n', D, Pl, rfl, _, hl, hm, hmm, _, hel⟩
     ·refine ⟨([] : List a.α), ⟨by simp, by simp⟩, rfl, fun j c hj => ?_⟩
      cases j with
      | zero => simp [Ty.enc, eF] at hj; subst hj; exact .nil
      | succ j => simp [Ty.enc, eF] at hj
     ·have hml : len ≤ m := by rw [hmm]; split <;> omega
      have : Inhabited a.α := ⟨a.dflt⟩
      have step : ∀ i, i < len → ∃ y : a.α × List Value, w.cells? 0 (ad.add (i * P.cellsOf e)) (P.cellsOf e) = some y.2 ∧ a.ok y.1 ∧ (a.enc y.1).length = y.2.length ∧ ∀ (j : Nat) (c : C), (a.enc y.1)[j]? = some c → Frz (fun b => b < w.heap.size) w (y.2.getD j undef) c := fun i hi => by
       obtain ⟨cs', h1, h2⟩ := hel i (by omega)
       obtain ⟨y, h3, h4, h5⟩ := ih1 a e h n' cs' _ h2
       exact ⟨(y, cs'), h1, h3, h4, h5⟩
      obtain ⟨f, hf⟩ := choose_lt step
      refine ⟨(List.range len).map fun i => (f i).1, ⟨by simp; omega, ?_⟩, rfl, fun j c hj => ?_⟩
      ·intro y hy
       obtain ⟨i, hi, rfl⟩ := List.mem_map.1 hy
       exact (hf i (List.mem_range.1 hi)).2.1
      ·cases j with
       | succ j => simp [Ty.enc, eF] at hj
       | zero =>
        simp only [Ty.enc, eF, List.getElem?_cons_zero, Option.some.injEq] at hj
        subst hj
        show Frz _ w (.slice (some ad) len cap) _
        cases len with
        | zero => exact .nil
        | succ len =>
         have hlen : ∀ i, i < len + 1 → (a.enc (f i).1).length = P.cellsOf e := fun i hi => by
          rw [(hf i hi).2.2.1]; exact (World.cells?_some (hf i hi).1).2.1
         have hget : ∀ (i : Nat) (row : List C), (List.map a.enc ((List.range (len + 1)).map fun i => (f i).1))[i]? = some row → i < len + 1 ∧ row = a.enc (f i).1 := fun i row hr => by
          simp only [List.map_map, List.getElem?_map] at hr
          by_cases hi : i < len + 1
          ·simp [hi] at hr; exact ⟨hi, hr.symm⟩
          ·simp [hi] at hr
         have key : ∀ (i o : Nat) (row : List C) (c : C), (List.map a.enc ((List.range (len + 1)).map fun i => (f i).1))[i]? = some row → row[o]? = some c →
           w.cell? (ad.add (i * P.cellsOf e + o)) = some ((f i).2.getD o undef) ∧ Frz (fun b => b < w.heap.size) w ((f i).2.getD o undef) c := fun i o row c hr ho => by
          obtain ⟨hi, rfl⟩ := hget i row hr
          have ho' : o < P.cellsOf e := by rw [← hlen i hi]; exact (List.getElem?_eq_some_iff.1 ho).1
          obtain ⟨_, hl2, hc2⟩ := World.cells?_some (hf i hi).1
          refine ⟨?_, (hf i hi).2.2.2 o c ho⟩
          have := hc2 o ho'
          rw [add_add] at this
          rw [this]
          rw [List.getElem?_eq_getElem (by omega)]
          simp [List.getD, List.getElem?_eq_getElem (show o < (f i).2.length by omega)]
         by_cases hz : P.cellsOf e = 0
         ·-- rows without cells
          obtain ⟨b, off, spot⟩ := ad
          exact absurd hz (by
           intro hz
           have h1 := hlen 0 (by omega)
           rw [hz] at h1
           have : ∀ (T : Ty) (x : T.α), (T.enc x).length ≠ 0 := by
            intro T
            induction T with
            | int k => intro x; simp [Ty.enc, eU]
            | bool => intro x; simp [Ty.enc, eB]
            | str => intro x; simp [Ty.enc, eT]
            | sl a _ => intro x; simp [Ty.enc, eF]
            | one a ih => intro x; exact ih x
            | pair a b iha ihb => intro x; simp only [Ty.enc, eP, List.length_append]; have := iha x.1; omega
           exact this a _ h1)
         ·have hlt0 : 0 < (a.enc (f 0).1).length := by rw [hlen 0 (by omega)]; omega
          have h00 := key 0 0 _ _ (by simp) (List.getElem?_eq_getElem hlt0)
          obtain ⟨b, off, spot⟩ := ad
          have hspot : spot = none := by
           have := World.cell?_spot h00.1
           simpa [Addr.add] using this
          subst hspot
          have hb := cell_lt h00.1
          simp [Addr.add] at hb
          have hadd : ∀ k, (Addr.mk b off none).add k = ⟨b, off + k, none⟩ := fun k => by
           unfold Addr.add; split <;> simp_all
          have h9 := Frz.sl (Z := fun b => b < w.heap.size) (w := w) (b := b) (off := off) (cap := cap) (sz := P.cellsOf e) (rows := List.map a.enc ((List.range (len + 1)).map fun i => (f i).1)) (fun i o => (f i).2.getD o undef)
           (by simpa using hl) (by first | exact hb | (split at hb <;> exact hb)) (by
            intro row hr
            obtain ⟨i, hi⟩ := List.mem_iff_getElem?.1 hr
            obtain ⟨h1, rfl⟩ := hget i row hi
            exact hlen i h1)
           (fun i row o c hr ho => by have := (key i o row c hr ho).1; rw [hadd] at this; rw [Nat.add_assoc]; exact this)
           (fun i row o c hr ho => (key i o row c hr ho).2)
          simpa using h9
    | one a =>
     obtain ⟨fs, f, hu, hfs, h⟩ := tyX_one h
     rw [DataW.trod_step] at hx
     unfold DataW.trodStep at hx
     simp only [hu] at hx
     ·split at hx
      ·rename_i hlen
       cases hm : fs.toList.mapM (fun f => DataW.trod enc P w 0 spare held fuel f.type ((cs.drop f.offset).take (P.cellsOf f.type))) with
       | none => simp [hm] at hx
       | some xs =>
        have := ih2 a fs.toList 0 (P.cellsOf t) (by rw [hfs]; exact h) fuel cs xs hlen (Nat.zero_le _) hm
        simpa [Stands, Ty.ok, Ty.enc, Ty.α] using this
      ·cases hx
    | pair a b =>
     obtain ⟨fs, hu, h⟩ := ykk h
     rw [DataW.trod_step] at hx
     unfold DataW.trodStep at hx
     simp only [hu] at hx
     split at hx
     ·rename_i hlen
      cases hm : fs.toList.mapM (fun f => DataW.trod enc P w 0 spare held fuel f.type ((cs.drop f.offset).take (P.cellsOf f.type))) with
      | none => simp [hm] at hx
      | some xs =>
       have := ih2 (.pair a b) fs.toList 0 (P.cellsOf t) h fuel cs xs hlen (Nat.zero_le _) hm
       simpa using this
     ·cases hx
  ·intro T fs o tot h fuel cs xs hlen ho hm
   match fs with
   | [] => cases T <;> simp [tyX] at h
   | [f] =>
    have h' : f.offset = o ∧ o + P.cellsOf f.type = tot ∧ tyX P n T (.inl f.type) = true := by
     cases T <;> simpa [tyX, and_assoc] using h
    obtain ⟨h1, h2, h3⟩ := h'
    rw [List.mapM_cons] at hm
    cases hx : DataW.trod enc P w 0 spare held fuel f.type ((cs.drop f.offset).take (P.cellsOf f.type)) with
    | none => simp [hx] at hm
    | some x =>
     have := ih1 T f.type h3 fuel _ x hx
     rw [h1, List.take_of_length_le (by simp; omega)] at this
     exact this
   | f :: g :: l =>
    cases T with
    | pair a b =>
     simp only [tyX, Bool.and_eq_true, decide_eq_true_eq] at h
     obtain ⟨⟨⟨h1, h2⟩, h3⟩, h4⟩ := h
     rw [List.mapM_cons] at hm
     cases hx : DataW.trod enc P w 0 spare held fuel f.type ((cs.drop f.offset).take (P.cellsOf f.type)) with
     | none => simp [hx] at hm
     | some x =>
      cases hm2 : (g :: l).mapM (fun f => DataW.trod enc P w 0 spare held fuel f.type ((cs.drop f.offset).take (P.cellsOf f.type))) with
      | none => simp [hx, hm2] at hm
      | some xs' =>
       obtain ⟨y, g1, g2, g3⟩ := ih1 a f.type h3 fuel _ x hx
       obtain ⟨z, k1, k2, k3⟩ := ih2 b (g :: l) (o + P.cellsOf f.type) tot h4 fuel cs xs' hlen h2 hm2
       rw [h1] at g2 g3
       have hl1 : ((cs.drop o).take (P.cellsOf f.type)).length = P.cellsOf f.type := by simp; omega
       rw [hl1] at g2
       refine ⟨(y, z), ⟨g1, k1⟩, ?_, fun j c hj => ?_⟩
       ·simp only [Ty.enc, eP, List.length_append, g2, k2, List.length_drop]; omega
       ·simp only [Ty.enc, eP] at hj
        by_cases hjl : j < P.cellsOf f.type
        ·rw [List.getElem?_append_left (by omega)] at hj
         have := g3 j c hj
         have e : ((cs.drop o).take (P.cellsOf f.type)).getD j undef = (cs.drop o).getD j undef := by
          simp [List.getD, List.getElem?_take, hjl]
         rwa [e] at this
        ·rw [List.getElem?_append_right (by omega), g2] at hj
         have := k3 _ c hj
         have e : (cs.drop (o + P.cellsOf f.type)).getD (j - P.cellsOf f.type) undef = (cs.drop o).getD j undef := by
          simp only [List.getD, List.getElem?_drop]
          congr 2
          omega
         rwa [e] at this
    | _ => simp [tyX] at h
end
end Go.PV

/-
 A walk over pure values: from a contract to what the statement asks.
 Conditions: none.
-/
namespace Go.PV
open Go.Deep Go.ChangeShapes Go.WideShapes Go.RowKit Go.ChangeMaps
variable {P : Program}
def Ty.agg : Ty → Bool
 | .one _ => true
 | .pair _ _ => true
 | _ => false
theorem arg_of {H : Type} {enc : TypeId × Value → H} {W : World} {base n : Nat} {T : Ty} {t : TypeId} {v : Value} {d : DataW H} {p : List MemPlace} (hT : tyX P n T (.inl t) = true)
  (hv : Value.okWide P W .any base t v) (h : DataW.Trod enc P W 0 (fun _ => true) true t v d p) :
  ∃ a : T.α, T.ok a ∧ ArgV (fun b => b < W.heap.size) W v (mkA T.agg (T.enc a)) := by
 have h0 := h
 obtain ⟨fuel, hf⟩ := h
 obtain ⟨a, h1, h2, h3⟩ := (yim (P := P) (enc := enc) n).1 T t hT fuel _ _ hf
 refine ⟨a, h1, mkA_ok ?_⟩
 have hcells : ∀ j, v.cells.toList.getD j undef = v.cells.getD j undef := fun j => by
  simp [List.getD, Array.getD_eq_getD_getElem?]
 refine ⟨?_, fun j c hj => by rw [← hcells]; exact h3 j c hj⟩
 cases n with
 | zero => simp [tyX] at hT
 | succ n =>
  have plain : T.agg = false → (∀ arr, v ≠ .agg arr) → VShape T.agg v (T.enc a).length := fun hg hna => by
   have hc : v.cells = #[v] := by
    cases v <;> first | rfl | exact absurd rfl (hna _)
   rw [hg]
   unfold VShape
   simp only [Bool.false_eq_true, if_false]
   exact ⟨hc, by rw [h2, hc]; rfl⟩
  cases T with
  | int k =>
   obtain ⟨x, rfl, _⟩ := open_int (tyX_int hT) hv h0
   exact plain rfl (by intro arr h; cases h)
  | bool =>
   obtain ⟨x, rfl, _⟩ := open_bool (yjk hT) hv h0
   exact plain rfl (by intro arr h; cases h)
  | str =>
   obtain ⟨x, rfl, _⟩ := open_string (tyX_str hT) hv h0
   exact plain rfl (by intro arr h; cases h)
  | sl b =>
   obtain ⟨e, hu, _⟩ := tyX_sl hT
   obtain ⟨ad, len, cap, rfl⟩ := okWide_slice hu hv
   exact plain rfl (by intro arr h; cases h)
  | one b =>
   obtain ⟨fs, f, hu, _⟩ := tyX_one hT
   unfold Value.okWide at hv
   simp only [hu] at hv
   obtain ⟨cs, rfl, _⟩ := hv
   exact ⟨cs, rfl, by rw [h2]; rfl⟩
  | pair b c =>
   obtain ⟨fs, hu, _⟩ := ykk hT
   unfold Value.okWide at hv
   simp only [hu] at hv
   obtain ⟨cs, rfl, _⟩ := hv
   exact ⟨cs, rfl, by rw [h2]; rfl⟩
theorem yjm {f : FuncId} {args : List Arg} {vals : Array Value} {W : World} {b : Bool} (hT : Tabs P (fun b => b < W.heap.size) W) (hm : Meets P f args { vals := [.p (.bool b)] }) (hb : b = true) (ha : ArgsV (fun b => b < W.heap.size) W vals.toList args) :
  Calls P f vals W fun e W' => e = .returned (.bool true) ∧ Below W.heap.size W W' := by
 subst hb
 refine (hm.2 W (fun b => b < W.heap.size) vals ⟨fun b hb => hb, hT⟩ ha.rep).mono fun e W' h => ?_
 obtain ⟨v, L, rfl, hp⟩ := h
 have hv := hp.val
 simp only [ResAt, RVat] at hv
 subst hv
 exact ⟨rfl, hp.ev.os, hp.ev.tape, hp.ev.output, hp.ev.size, fun k hk => hp.ev.block k hk (not_nob k)⟩
theorem ykm {A : Nat → Prop} {W : World} (h : (varNames.all fun n => (P.globalNamed n).isNone) = true) : ∀ n ∈ varNames, ∀ g, P.globalNamed n = some g → A g ∧ ∃ v, W.cell? ⟨g, 0, none⟩ = some v ∧ varOk n v := fun n hn g hg => by
 have := List.all_eq_true.1 h n hn
 rw [hg] at this
 cases this
theorem ylm {A : Nat → Prop} {W : World} (h : P.globalNamed "internal/strconv.uint64pow10" = none) (h2 : ∀ n ∈ varNames, ∀ g, P.globalNamed n = some g → A g ∧ ∃ v, W.cell? ⟨g, 0, none⟩ = some v ∧ varOk n v) : Tabs P A W := ⟨fun g hg => (by rw [h] at hg; cases hg), h2⟩
end Go.PV

/-
 A walk over pure values: structs of two whole numbers compared.
 Conditions: none.
-/
namespace Go.PV
variable {P : Program}
def two (P : Program) (t : TypeId) (k : IntKind) : Bool :=
 match P.underlying t with
 | some (.struct fs) => !P.stoodInHeld t && !P.eqGuardType P.depth t && (match fs.toList with
  | [f, g] => (f.name != "_") && (g.name != "_") && f.offset == 0 && g.offset == 1 && (match P.underlying f.type, P.underlying g.type with
   | some (.int k1), some (.int k2) => k1 == k && k2 == k
   | _, _ => false)
  | _ => false)
 | _ => false
end Go.PV

/-
 A walk over pure values: a slice held against nil.
 Conditions: none.
-/
namespace Go.PV
variable {P : Program} {N : Nat}
theorem yrn {t t2 e : TypeId} {a : Act} {x : Operand} {o : Oper} {w : World} {ad : Option Addr} {n c : Nat} (ho : o.op = .binOp .eql t x (.const (.slice none 0 0)) t2) (hu : P.underlying t = some (.slice e)) (hx : a.eval x = .slice ad n c) :
  (execOp a.eval o).run P w = .ok (.value (.bool ad.isNone)) w := by
 have h1 : a.eval (.const (.slice none 0 0)) = .slice none 0 0 := rfl
 simp only [execOp, ho, hx, h1, Sem.run_bind]
 have h2 : (eqGuard .eql t x (.const (.slice none 0 0)) (.slice ad n c) (.slice none 0 0)).run P w = .ok () w := by simp [eqGuard]
 rw [h2]
 simp only [Result.andThen_ok]
 rw [Lib.run_eql_slice_nil w t e ad n c 0 0 hu]
 rfl
theorem k_nil {id d1 d z : Nat} {m o : Oper} {b : Code} {l : LS} {Q : Ex → LS → Prop} {t t2 e : TypeId} {rows : List (List C)} (l' : Bool → LS)
  (hm : m.op = .move (.tmp z)) (hmg : m.guard = none) (hmd : m.dst = some d1)
  (ho : o.op = .binOp .eql t (.tmp d1) (.const (.slice none 0 0)) t2) (hog : o.guard = none) (hod : o.dst = some d)
  (hu : P.underlying t = some (.slice e)) (hz : ofL l z = .d false [.sl none rows])
  (hr : ∀ v, refsOk (l' v) = true) (hl : ∀ v, readL (put (put (ofL l) d1 (.d false [.sl none rows])) d (.p (.bool v))) (l' v) = l' v)
  (h1 : OkL P N b (l' false) Q) (h2 : rows = [] → OkL P N b (l' true) Q) : OkL P N (.seq (.region id [m, o].toArray false) b) l Q := by
 have hreg : OkL P N (.region id [m, o].toArray false) l (seqL (fun l' => OkL P N b l' Q) Q) := by
  intro k hB w0 A I a w L hI hR
  have hd : ∀ x ∈ [m, o], ∀ d, x.dst = some d → I.pins.length ≤ d ∧ d < N := fun x hx d hd => by
   have := List.all_eq_true.1 hB x (by simpa using hx)
   rw [hd] at this
   rw [hI]
   simpa using this
  refine wp_region ?_
  have hw : ∀ (x : Oper) (tm : Array Value), x.guard = none → Region.wanted x (yielded [m, o].toArray tm) = true := fun x tm hx => by unfold Region.wanted; rw [hx]
  have e0 : List.range [m, o].toArray.size = [0, 1] := rfl
  rw [e0]
  simp only [wpOps]
  have e1 : ([m, o].toArray)[0]? = some m := rfl
  have e2 : ([m, o].toArray)[1]? = some o := rfl
  rw [e1]
  simp only [hw m _ hmg, if_true]
  refine .inl (ysc (K := fun σ' => σ' = put (ofL l) d1 (.d false [.sl none rows])) hR (hd m (by simp)) ?_ fun a' w' σ' L' h3 h4 => ?_)
  ·simp only [pvOp, hm, hz, sOp]
   have : evS (ofL l) (.tmp z) = .d false [.sl none rows] := by simp [evS, hz]
   rw [this, hmd]
   exact ⟨rfl, rfl⟩
  ·subst h3
   rw [e2]
   simp only [hw o _ hog, if_true]
   left
   have hs := h4.slot d1
   have hp : put (ofL l) d1 (.d false [.sl none rows]) d1 = .d false [.sl none rows] := by unfold put; split <;> simp [updK, upd, killSV]
   rw [hp] at hs
   obtain ⟨ad, cap, hv, hnil⟩ : ∃ ad cap, a'.tmps.getD d1 undef = .slice ad rows.length cap ∧ (ad = none → rows = []) := by
    have hf := hs.2 0 _ rfl
    have hc := hs.1.1
    have hc2 : (a'.tmps.getD d1 undef).cells.getD 0 undef = a'.tmps.getD d1 undef := by rw [hc]; rfl
    rw [hc2] at hf
    generalize a'.tmps.getD d1 undef = tv at hf
    cases hf with
    | nil => exact ⟨_, _, rfl, fun _ => rfl⟩
    | sl => exact ⟨_, _, rfl, fun h => by cases h⟩
   have hev : a'.eval (.tmp d1) = .slice ad rows.length cap := hv
   refine wp_val (yrn ho hu hev) ?_
   rw [hod]
   have h5 := h4.up.put (hd o (by simp) d hod) (sv := .p (.bool ad.isNone)) (tv := .bool ad.isNone) rfl
   refine ⟨_, _, h5, l' ad.isNone, .inr (yfc (hr _) (hl _)), ?_⟩
   show OkL P N b (l' ad.isNone) Q
   cases ad with
   | none => exact h2 (hnil rfl)
   | some x => exact h1
 exact k_seq hreg
end Go.PV

/-
 A walk over pure values: the block of an owned slice written in one go; slices cleared, copied, turned round.
 Conditions: none.
-/
namespace Go.PV
variable {P : Program} {N : Nat} {w0 : World} {A : Nat → Prop} {I : Bor}
def rawRow : List C → Bool
 | [] => true
 | .raw v :: l => scal v && rawRow l
 | _ :: _ => false
theorem ygf {l : List C} (h : rawRow l = true) {o : Nat} {c : C} (ho : l[o]? = some c) : ∃ v, c = .raw v ∧ scal v = true := by
 induction l generalizing o with
 | nil => simp at ho
 | cons x l ih =>
  cases x with
  | raw v =>
   simp only [rawRow, Bool.and_eq_true] at h
   cases o with
   | zero => simp at ho; exact ⟨v, ho.symm, h.1⟩
   | succ o => exact ih h.2 (by simpa using ho)
  | _ => simp [rawRow] at h
theorem own_at {M : Nat} {σ : St} {a : Act} {w : World} {L : Lab} (hR : Rel P N M w0 A I σ a w L) {r : Nat} {e : TypeId} {rows : List (List C)} (hσ : σ r = .ov false [.sl (some e) rows]) :
  (tmOf a r = .slice none 0 0 ∧ rows = []) ∨ ∃ g arr cap, tmOf a r = .slice (some ⟨g, 0, none⟩) rows.length cap ∧ rows.length ≤ cap ∧ cap ≤ maxLen ∧ arr.size = cap * esz P e ∧ (∀ row ∈ rows, row.length = esz P e) ∧
   L g = some (r, [(0, 0)]) ∧ w.heap[g]? = some (.cells arr e (0, 0)) ∧ (∀ i row o v, rows[i]? = some row → row[o]? = some (.raw v) → arr.getD (i * esz P e + o) undef = v) := by
 have hslot := hR.slot r
 rw [hσ] at hslot
 have hrep := hslot.2 0 _ rfl
 have hcell : (tmOf a r).cells = #[tmOf a r] := hslot.1.1
 have hrep : Rep P (Zof w0 A L w) L w r [(0, 0)] (tmOf a r) (.sl (some e) rows) := by
  have h1 : (tmOf a r).cells.getD 0 undef = tmOf a r := by rw [hcell]; rfl
  rw [← h1]
  exact hrep
 rcases hrep.node with ⟨h1, h2⟩ | ⟨b, arr, cap, h1, h2, h3, h4, h5, hn⟩
 ·exact .inl ⟨h1, h2⟩
 ·exact .inr ⟨b, arr, cap, h1, h2, h3, h4, h5, hn.lab, hn.heap, fun i row o v h6 h7 => (hn.kids i row o _ h6 h7).raw_eq⟩
def wrS (σ : St) (r : Nat) (x : SV) : St := fun s => if s = r then x else killSV r (σ s)
theorem Rel.rewrite {M : Nat} {σ : St} {a : Act} {w w' : World} {L : Lab} (hR : Rel P N M w0 A I σ a w L) {r g cap : Nat} {arr arr' : Array Value} {e : TypeId} {rows rows' : List (List C)}
  (hσ : σ r = .ov false [.sl (some e) rows]) (hv : tmOf a r = .slice (some ⟨g, 0, none⟩) rows.length cap) (hl : L g = some (r, [(0, 0)])) (ha : arr.size = cap * esz P e) (hc : cap ≤ maxLen) (hn : rows.length ≤ cap)
  (hs : arr'.size = arr.size) (hlen : rows'.length = rows.length) (hu : ∀ row ∈ rows', row.length = esz P e)
  (hr : ∀ i row o c, rows'[i]? = some row → row[o]? = some c → ∃ v, c = .raw v ∧ scal v = true ∧ arr'.getD (i * esz P e + o) undef = v)
  (h1 : w'.heap[g]? = some (.cells arr' e (0, 0))) (h2 : ∀ b, b ≠ g → w'.heap[b]? = w.heap[b]?) (h3 : w'.heap.size = w.heap.size) (h4 : w'.os = w.os) (h5 : w'.tape = w.tape) (h6 : w'.output = w.output) :
  Rel P N M w0 A I (wrS σ r (.ov false [.sl (some e) rows'])) a w' L := by
 have hz : ∀ b, Zof w0 A L w b → Zof w0 A L w' b ∧ w'.heap[b]? = w.heap[b]? := fun b hb =>
  ⟨⟨hb.1, by rw [h3]; exact hb.2.1, hb.2.2⟩, h2 b (by rintro rfl; rw [hb.1] at hl; cases hl)⟩
 refine ⟨hR.dfr, hR.siz, ⟨h4.trans hR.ev.os, h5.trans hR.ev.tape, h6.trans hR.ev.output, by rw [h3]; exact hR.ev.size, fun b hb hI => ?_⟩, hR.inj, fun b l hb => by rw [h3]; exact hR.lab b l hb, fun s hs => ?_, hR.hA, hR.pin, fun s => ?_⟩
 ·refine (h2 b ?_).trans (hR.ev.block b hb hI)
  rintro rfl
  rcases (hR.lab b _ hl).2.1 with h | h
  ·omega
  ·exact hI h
 ·have h7 := hR.out s hs
  unfold wrS
  have : s ≠ r := by rintro rfl; rw [h7] at hσ; cases hσ
  rw [if_neg this, h7]; rfl
 ·by_cases hsr : s = r
  ·subst hsr
   simp only [wrS, if_true]
   have hv' : a.tmps.getD s undef = .slice (some ⟨g, 0, none⟩) rows'.length cap := by rw [hlen]; exact hv
   rw [hv']
   refine ⟨⟨rfl, rfl⟩, fun j c hj => ?_⟩
   cases j with
   | succ j => simp at hj
   | zero =>
    simp at hj
    subst hj
    refine Rep.own hl h1 (by rw [hlen]; exact hn) hc (hs.trans ha) hu fun i row o c h7 h8 => ?_
    obtain ⟨v, rfl, h9, h10⟩ := hr i row o c h7 h8
    rw [h10]
    exact .frz (.raw h9)
  ·simp only [wrS, if_neg hsr]
   rcases yob r (σ s) with ⟨h7, h8⟩ | h7
   ·rw [h7]
    refine (hR.slot s).keep hz (fun b q _ hb => ⟨hb, h2 b ?_⟩) fun x hx hroot => ?_
    ·rintro rfl
     rw [hl] at hb
     exact hsr (congrArg Prod.fst (Option.some.inj hb)).symm
    ·have hxr : x ≠ r := fun h => h8 (h ▸ hx)
     have hk : wrS σ r (.ov false [.sl (some e) rows']) x = σ x := by
      unfold wrS
      rw [if_neg hxr]
      exact yab hroot
     refine ⟨fun b q hb => ⟨hb, h2 b ?_⟩, rfl, ?_, ?_⟩
     ·rintro rfl
      rw [hl] at hb
      exact hxr (congrArg Prod.fst (Option.some.inj hb)).symm
     ·rw [hk]; exact hroot
     ·rw [hk]
   ·rw [h7]; trivial
theorem Rel.putU {σ : St} {a : Act} {w : World} {L : Lab} (hR : Rel P N N w0 A I σ a w L) {d : Nat} (hd : I.pins.length ≤ d ∧ d < N) (v : Value) : ∃ L', Rel P N N w0 A I (Go.PV.put σ d .u) (a.put (some d) v) w L' :=
 ⟨_, hR.up.put hd (sv := .u) (tv := v) trivial⟩
theorem ysn {a : Act} {d : Nat} {v : Value} (hd : d < a.tmps.size) (t : Nat) : (a.put (some d) v).eval (.tmp t) = if t = d then v else a.eval (.tmp t) := tm_put a v hd t
theorem yfb (a : Act) (d : Option Nat) (v : Value) : (a.put d v).tmps.size = a.tmps.size := by cases d <;> simp [Act.put]
theorem yvb {a : Act} {o : Oper} {x : Operand} {w : World} (h : o.op = .move x) : (execOp a.eval o).run P w = .ok (.value (a.eval x)) w := by simp [execOp, h]
theorem lift_of {σ : St} {a : Act} {w : World} {L : Lab} {l1 : LS} {Q : Ex → LS → Prop} (hR : Rel P N N w0 A I σ a w L) (hr : refsOk l1 = true) (hl : readL σ l1 = l1) (hq : Q .normal l1) :
  lift P N w0 A I (fun e σ => ∃ l', (σ = ofL l' ∨ agree l' σ) ∧ Q e l') .normal a w := ⟨σ, L, hR, l1, .inr (yfc hr hl), hq⟩
structure Wrote (w w' : World) (g : Nat) (arr' : Array Value) (e : TypeId) : Prop where
 at' : w'.heap[g]? = some (.cells arr' e (0, 0))
 oth : ∀ b, b ≠ g → w'.heap[b]? = w.heap[b]?
 size : w'.heap.size = w.heap.size
 os : w'.os = w.os
 tape : w'.tape = w.tape
 output : w'.output = w.output
theorem yoi {w : World} {g : Nat} {arr : Array Value} {e : TypeId} (h : w.heap[g]? = some (.cells arr e (0, 0))) (arr' : Array Value) : Wrote w (w.setRow g arr') g arr' e :=
 ⟨setRow_heap w g arr arr' e (0, 0) h, fun b hb => setRow_other w g b arr' hb, by simp, rfl, rfl, rfl⟩
end Go.PV

/-
 A walk over pure values: what a slice owns cut off behind; slices copied.
 Conditions: none.
-/
namespace Go.PV
variable {P : Program} {N : Nat} {w0 : World} {A : Nat → Prop} {I : Bor}
def seqOk (ops : Array Oper) : List (Nat × Bool) → Array Bool → Bool
 | [], listed => (Region.ready .any ops listed).isEmpty
 | (i, fr) :: l, listed => (match ops[i]? with | some o => o.guard.isNone | none => false) &&
   (if fr then Region.free .any ops listed i && (Region.ready .any ops listed).contains i else Region.ready .any ops listed == [i]) && seqOk ops l (listed.setIfInBounds i true)
def wpSeq (P : Program) (ops : Array Oper) (Q : Exit → Act → World → Prop) : List (Nat × Bool) → Act → World → Prop
 | [], a, w => Q .normal a w
 | (i, fr) :: l, a, w => match ops[i]? with
  | some o => if fr then ∃ v, (∀ w, (execOp a.eval o).run P w = .ok (.value v) w) ∧ wpSeq P ops Q l (a.put o.dst v) w else o.wp P a w (wpSeq P ops Q l) Q
  | none => False
end Go.PV

/-
 A walk over pure values: slices copied, at elements of one cell.
 Conditions: none.
-/
namespace Go.PV
variable {P : Program} {N : Nat} {w0 : World} {A : Nat → Prop} {I : Bor}
def copyAt {α : Type} (xs : List α) (n : Nat) (ys : List α) : List α := xs.take n ++ ys.take (xs.length - n) ++ xs.drop (n + min ys.length (xs.length - n))
theorem row1 {row : List C} (h1 : row.length = 1) (h2 : rawRow row = true) : ∃ v, row = [.raw v] ∧ scal v = true := by
 match row, h1 with
 | [c], _ =>
  obtain ⟨v, rfl, hv⟩ := ygf h2 (o := 0) rfl
  exact ⟨v, rfl, hv⟩
def putsA (a : Act) : List (Nat × Value) → Act
 | [] => a
 | (d, v) :: l => putsA (a.put (some d) v) l
def order9 : List (Nat × Bool) := [(0, true), (1, true), (2, true), (3, true), (4, true), (5, true), (6, true), (7, false), (8, false), (9, false)]
end Go.PV

/-
 A walk over pure values: two elements of a slice exchanged, in whatever order.
 Conditions: none.
-/
namespace Go.PV
variable {P : Program} {N : Nat} {w0 : World} {A : Nat → Prop} {I : Bor}
inductive Stp where
 | free (i : Nat)
 | one (i : Nat)
 | two (i j : Nat)
def stpLen : List Stp → Nat
 | [] => 0
 | .two _ _ :: l => stpLen l + 2
 | _ :: l => stpLen l + 1
def opOk (ops : Array Oper) (i : Nat) : Bool := match ops[i]? with
 | some o => o.guard.isNone
 | none => false
def apart2 (ops : Array Oper) (i j : Nat) : Bool := match ops[i]?, ops[j]? with
 | some o, some p => o.apart ops p
 | _, _ => false
def stpOk (ops : Array Oper) : List Stp → Array Bool → Bool
 | [], listed => (Region.ready .any ops listed).isEmpty
 | .free i :: l, listed => opOk ops i && (Region.free .any ops listed i && (Region.ready .any ops listed).contains i) && stpOk ops l (listed.setIfInBounds i true)
 | .one i :: l, listed => opOk ops i && (Region.ready .any ops listed == [i]) && stpOk ops l (listed.setIfInBounds i true)
 | .two i j :: l, listed => (opOk ops i && opOk ops j && apart2 ops i j && i != j) && (Region.ready .any ops listed == [i, j] && Region.ready .any ops (listed.setIfInBounds i true) == [j] && Region.ready .any ops (listed.setIfInBounds j true) == [i]) &&
   stpOk ops l ((listed.setIfInBounds i true).setIfInBounds j true)
def wpStp (P : Program) (ops : Array Oper) (Q : Exit → Act → World → Prop) : List Stp → Act → World → Prop
 | [], a, w => Q .normal a w
 | .free i :: l, a, w => ∃ o v, ops[i]? = some o ∧ (∀ w, (execOp a.eval o).run P w = .ok (.value v) w) ∧ wpStp P ops Q l (a.put o.dst v) w
 | .one i :: l, a, w => ∃ o, ops[i]? = some o ∧ o.wp P a w (wpStp P ops Q l) Q
 | .two i j :: l, a, w => ∃ o p v u, ops[i]? = some o ∧ ops[j]? = some p ∧ (execOp a.eval o).run P w = .ok (.value v) w ∧ (execOp a.eval p).run P w = .ok (.value u) w ∧ wpStp P ops Q l ((a.put o.dst v).put p.dst u) w
theorem opOk_w {ops : Array Oper} {i : Nat} {o : Oper} (h : opOk ops i = true) (ho : ops[i]? = some o) (tm : Array Value) : Region.wanted o (yielded ops tm) = true := by
 unfold opOk at h
 rw [ho] at h
 simp only [Option.isNone_iff_eq_none] at h
 unfold Region.wanted; rw [h]
theorem ytn {listed : Array Bool} {i j : Nat} (h : i ≠ j) : (listed.setIfInBounds j true).setIfInBounds i true = (listed.setIfInBounds i true).setIfInBounds j true := by
 refine Array.ext_getElem? fun k => ?_
 simp only [Array.getElem?_setIfInBounds, Array.size_setIfInBounds]
 by_cases h1 : i = k <;> by_cases h2 : j = k <;> simp_all
theorem ywd {ops : Array Oper} {Q : Exit → Act → World → Prop} (hs : Region.noSelect ops = true) (hQ : ∀ c a w, ¬ Q (.panic c) a w) : ∀ (l : List Stp) (listed : Array Bool) (a : Act) (w : World),
  stpOk ops l listed = true → wpStp P ops Q l a w → wpAny P .any ops Q (stpLen l) listed a w
 | [], listed, a, w, h1, h2 => wpAny_done (by simpa [stpOk] using h1) h2 0
 | .free i :: l, listed, a, w, h1, h2 => by
  simp only [stpOk, Bool.and_eq_true] at h1
  obtain ⟨⟨hg, hf⟩, hr⟩ := h1
  obtain ⟨o, v, ho, h3, h4⟩ := h2
  exact wpAny_take ho hs hf.1 hf.2 (fun c a w h => absurd h (hQ c _ _)) (.inl ⟨opOk_w hg ho _, h3⟩) (ywd hs hQ l _ _ w hr h4)
 | .one i :: l, listed, a, w, h1, h2 => by
  simp only [stpOk, Bool.and_eq_true, beq_iff_eq] at h1
  obtain ⟨⟨hg, hf⟩, hr⟩ := h1
  obtain ⟨o, ho, h2⟩ := h2
  refine wpAny_all hf (by simp) fun j hj => ?_
  simp at hj
  subst hj
  unfold wpOp
  rw [ho]
  simp only [opOk_w hg ho, if_true]
  left
  exact Oper.wp_mono (fun a w h => ywd hs hQ l _ a w hr h) h2
 | .two i j :: l, listed, a, w, h1, h2 => by
  simp only [stpOk, Bool.and_eq_true, beq_iff_eq, bne_iff_ne] at h1
  obtain ⟨⟨⟨⟨⟨hg1, hg2⟩, hap⟩, hne⟩, ⟨hf1, hf2⟩, hf3⟩, hr⟩ := h1
  obtain ⟨o, p, v, u, ho, hp, h3, h4, h5⟩ := h2
  unfold apart2 at hap
  rw [ho, hp] at hap
  simp only at hap
  obtain ⟨k1, k2, k3⟩ := Oper.apart_spec hap
  have hsel : ∀ {k : Nat} {x : Oper}, ops[k]? = some x → ∀ cs b, x.op ≠ .select cs b := fun {k x} hx cs b => Region.noSelect_spec hs k x cs b hx
  have hrest := ywd hs hQ l _ _ w hr h5
  have step : ∀ {k : Nat} {x : Oper} {y : Value} {listed' : Array Bool} {a' : Act} {m : Nat}, opOk ops k = true → ops[k]? = some x → Region.ready .any ops listed' = [k] → (execOp a'.eval x).run P w = .ok (.value y) w →
    wpAny P .any ops Q m (listed'.setIfInBounds k true) (a'.put x.dst y) w → wpAny P .any ops Q (m + 1) listed' a' w := fun {k x y listed' a' m} hg hx hf he hn => by
   refine wpAny_all hf (by simp) fun j hj => ?_
   simp at hj
   subst hj
   unfold wpOp
   rw [hx]
   simp only [opOk_w hg hx, if_true]
   exact .inl (wp_val he hn)
  refine wpAny_all hf1 (by simp) fun k hk => ?_
  simp at hk
  unfold wpOp
  rcases hk with rfl | rfl
  ·rw [ho]
   simp only [opOk_w hg1 ho, if_true]
   refine .inl (wp_val h3 ?_)
   exact step hg2 hp hf2 (by rw [execOp_put p (hsel hp) a o.dst v k1]; exact h4) hrest
  ·rw [hp]
   simp only [opOk_w hg2 hp, if_true]
   refine .inl (wp_val h4 ?_)
   refine step hg1 ho hf3 (by rw [execOp_put o (hsel ho) a p.dst u k3]; exact h3) ?_
   rw [ytn hne, ← Act.put_comm a v u k2]
   exact hrest
theorem yfj {id : Nat} {ops : Array Oper} {Q : Exit → Act → World → Prop} {a : Act} {w : World} (hm : P.follows .mixedOrders = true) (hs : Region.noSelect ops = true) (hQ : ∀ c a w, ¬ Q (.panic c) a w) (l : List Stp) (hl : stpLen l = ops.size)
  (h1 : stpOk ops l (Array.replicate ops.size false) = true) (h2 : wpStp P ops Q l a { w with drawn := w.drawn + 1 }) : (Code.region id ops true).wp P Q a w :=
 wp_region_any hm (by have := ywd hs hQ l _ a _ h1 h2; rwa [hl] at this)
theorem yyb {ops : Array Oper} {Q : Exit → Act → World → Prop} {i : Nat} {l : List Stp} {o : Oper} {a : Act} {w : World} (ho : ops[i]? = some o) (v : Value) (h : ∀ w, (execOp a.eval o).run P w = .ok (.value v) w) (hn : wpStp P ops Q l (a.put o.dst v) w) : wpStp P ops Q (.free i :: l) a w :=
 ⟨o, v, ho, h, hn⟩
theorem ylk {e : TypeId} {g : Bool} {sz : Nat} (ht : tyC P e = some (g, sz)) (hg : g = false → sz = 1) {w : World} {b off : Nat} {row : List C} (hl : row.length = sz) (hraw : rawRow row = true) (hc : ∀ o v, row[o]? = some (.raw v) → w.cell? ⟨b, off + o, none⟩ = some v) :
  ∃ V, (∀ w', w'.heap = w.heap → (Instr.loadAt e (.pointer (some ⟨b, off, none⟩))).run P w' = .ok V w') ∧ V.cells.size = sz ∧ (∀ x ∈ V.cells.toList, x.oneCell' = true) ∧ ∀ o v, row[o]? = some (.raw v) → V.cells.getD o undef = v := by
 have hex : ∀ j, j < sz → ∃ v, row[j]? = some (C.raw v) ∧ scal v = true := fun j hj => by
  obtain ⟨v, hv, hs⟩ := ygf hraw (List.getElem?_eq_getElem (by omega : j < row.length))
  exact ⟨v, by rw [List.getElem?_eq_getElem (by omega : j < row.length), hv], hs⟩
 have hget : ∀ o v, row[o]? = some (C.raw v) → (cellsAt w b off sz)[o]? = some v := fun o v h => by
  have ho : o < sz := by rw [← hl]; exact (List.getElem?_eq_some_iff.1 h).1
  exact yeb ho (hc o v h)
 have hone : ∀ v ∈ cellsAt w b off sz, v.oneCell' = true := fun v hv => by
  obtain ⟨j, hj⟩ := List.mem_iff_getElem?.1 hv
  have hjl : j < sz := by have := (List.getElem?_eq_some_iff.1 hj).1; rwa [yla] at this
  obtain ⟨v', h1, h2⟩ := hex j hjl
  rw [hget j v' h1] at hj
  rw [← Option.some.inj hj]; exact yze h2
 have hsh := yue (g := g) hone (fun h => by rw [yla]; exact hg h)
 refine ⟨mkV g (cellsAt w b off sz), fun w' hw' => ?_, by rw [hsh.2]; simp [yla], by rw [hsh.2]; simpa using hone, fun o v h => by rw [hsh.2]; simp [hget o v h]⟩
 have hcell : ∀ x, w'.cell? x = w.cell? x := fun x => by simp [World.cell?, hw']
 have := yxc ht hg w' b off (fun j hj => by
  obtain ⟨v, h1, _⟩ := hex j hj
  exact ⟨v, by rw [hcell]; exact hc j v h1⟩)
 have e : cellsAt w' b off sz = cellsAt w b off sz := by
  apply List.ext_getElem?
  intro j
  by_cases hj : j < sz
  ·obtain ⟨v, h1, _⟩ := hex j hj
   rw [hget j v h1]
   exact yeb hj (by rw [hcell]; exact hc j v h1)
  ·rw [List.getElem?_eq_none (by rw [yla]; omega), List.getElem?_eq_none (by rw [yla]; omega)]
 rw [e] at this
 simpa [Instr.loadAt, Instr.sureAddr] using this
def orderSwap : List Stp := [.free 2, .free 3, .free 0, .free 1, .free 4, .free 5, .free 8, .free 9, .free 6, .free 10, .two 7 11, .one 12, .one 13, .one 14, .one 15]
theorem r_swap {id : Nat} {o0 o1 o2 o3 o4 o5 o6 o7 o8 o9 o10 o11 o12 o13 o14 o15 : Oper} {l0 : LS} (l1 : LS) {t e : TypeId} {g : Bool} {sz : Nat} {rows rows' : List (List C)} {i j : Int} {ri rj : List C} (hm : P.follows .mixedOrders = true)
  (h0 : o0.op = .move (.tmp 0) ∧ o0.dst = some 14) (h1 : o1.op = .move (.tmp 2) ∧ o1.dst = some 15) (h2 : o2.op = .move (.tmp 0) ∧ o2.dst = some 16) (h3 : o3.op = .move (.tmp 3) ∧ o3.dst = some 17)
  (h4 : o4.op = .move (.tmp 0) ∧ o4.dst = some 18) (h5 : o5.op = .move (.tmp 3) ∧ o5.dst = some 19) (h6 : o6.op = .indexAddr t (.tmp 18) (.tmp 19) ∧ o6.dst = some 20) (h7 : o7.op = .load e (.tmp 20) ∧ o7.dst = some 21)
  (h8 : o8.op = .move (.tmp 0) ∧ o8.dst = some 22) (h9 : o9.op = .move (.tmp 2) ∧ o9.dst = some 23) (h10 : o10.op = .indexAddr t (.tmp 22) (.tmp 23) ∧ o10.dst = some 24) (h11 : o11.op = .load e (.tmp 24) ∧ o11.dst = some 25)
  (h12 : o12.op = .indexAddr t (.tmp 14) (.tmp 15) ∧ o12.dst = some 26) (h13 : o13.op = .store e (.tmp 26) (.tmp 21) ∧ o13.dst = none) (h14 : o14.op = .indexAddr t (.tmp 16) (.tmp 17) ∧ o14.dst = some 27) (h15 : o15.op = .store e (.tmp 27) (.tmp 25) ∧ o15.dst = none)
  (hseq : (Region.noSelect [o0, o1, o2, o3, o4, o5, o6, o7, o8, o9, o10, o11, o12, o13, o14, o15].toArray && stpOk [o0, o1, o2, o3, o4, o5, o6, o7, o8, o9, o10, o11, o12, o13, o14, o15].toArray orderSwap (Array.replicate 16 false)) = true)
  (hE : slE P t = some (e, sz)) (hT : tyC P e = some (g, sz)) (hg : g = false → sz = 1) (hs : ofL l0 0 = .ov false [.sl (some e) rows]) (hi : ofL l0 2 = .p (.int .i64 i)) (hj : ofL l0 3 = .p (.int .i64 j)) (hr1 : refsOk l1 = true)
  (hl1 : readL (put (put (put (put (put (put (put (put (put (put (put (put (put (put (wrS (ofL l0) 0 (.ov false [.sl (some e) rows'])) 16 .u) 17 .u) 14 .u) 15 .u) 18 .u) 19 .u) 22 .u) 23 .u) 20 .u) 24 .u) 21 .u) 25 .u) 26 .u) 27 .u) l1 = l1)
  (hraw : ∀ row ∈ rows, rawRow row = true) (hi0 : 0 ≤ i) (hj0 : 0 ≤ j) (hri : rows[i.toNat]? = some ri) (hrj : rows[j.toNat]? = some rj) (hij : i ≠ j) (hrows : (rows.set i.toNat rj).set j.toNat ri = rows') :
  RegOk P N (.region id [o0, o1, o2, o3, o4, o5, o6, o7, o8, o9, o10, o11, o12, o13, o14, o15].toArray true) l0 l1 := by
 intro Q hq k' hB w0 A I a w L hI hR
 have hd : ∀ x ∈ [o0, o1, o2, o3, o4, o5, o6, o7, o8, o9, o10, o11, o12, o13, o14, o15], ∀ d, x.dst = some d → I.pins.length ≤ d ∧ d < N := fun x hx d hd => by
  have := List.all_eq_true.1 hB x (by simpa using hx)
  rw [hd] at this
  rw [hI]
  simpa using this
 have d0 := hd o0 (by simp) 14 h0.2
 have d1 := hd o1 (by simp) 15 h1.2
 have d2 := hd o2 (by simp) 16 h2.2
 have d3 := hd o3 (by simp) 17 h3.2
 have d4 := hd o4 (by simp) 18 h4.2
 have d5 := hd o5 (by simp) 19 h5.2
 have d6 := hd o6 (by simp) 20 h6.2
 have d7 := hd o7 (by simp) 21 h7.2
 have d8 := hd o8 (by simp) 22 h8.2
 have d9 := hd o9 (by simp) 23 h9.2
 have d10 := hd o10 (by simp) 24 h10.2
 have d11 := hd o11 (by simp) 25 h11.2
 have d12 := hd o12 (by simp) 26 h12.2
 have d14 := hd o14 (by simp) 27 h14.2
 simp only [Bool.and_eq_true] at hseq
 obtain ⟨m, rfl⟩ : ∃ m : Nat, i = m := ⟨i.toNat, by omega⟩
 obtain ⟨n, rfl⟩ : ∃ n : Nat, j = n := ⟨j.toNat, by omega⟩
 simp only [Int.toNat_natCast] at hri hrj hrows
 have hmn : m ≠ n := by omega
 have hml : m < rows.length := (List.getElem?_eq_some_iff.1 hri).1
 have hnl : n < rows.length := (List.getElem?_eq_some_iff.1 hrj).1
 obtain ⟨inf, hu, hinf, hsz, hes⟩ := ynb hE
 have hN := hR.siz
 have hiv : a.eval (.tmp 2) = .int .i64 m := by have := hR.slot 2; rw [hi] at this; exact this
 have hjv : a.eval (.tmp 3) = .int .i64 n := by have := hR.slot 3; rw [hj] at this; exact this
 rcases own_at hR hs with ⟨_, h0⟩ | ⟨b, arr, cap, hv, hcap, hmax, ha, hu', hl, hb, hget⟩
 ·rw [h0] at hml; simp at hml
 rw [hes] at ha hu' hget
 have hsv : a.eval (.tmp 0) = .slice (some ⟨b, 0, none⟩) rows.length cap := hv
 have hrl : ∀ {k row}, rows[k]? = some row → row.length = sz ∧ rawRow row = true := fun h => ⟨hu' _ (List.mem_of_getElem? h), hraw _ (List.mem_of_getElem? h)⟩
 have hin : ∀ k, k < rows.length → k * sz + sz ≤ arr.size := fun k hk => by
  rw [ha]
  calc k * sz + sz = (k + 1) * sz := by rw [Nat.add_mul, Nat.one_mul]
   _ ≤ cap * sz := Nat.mul_le_mul_right _ (by omega)
 have hcell : ∀ k row, rows[k]? = some row → ∀ o v, row[o]? = some (.raw v) → w.cell? ⟨b, k * sz + o, none⟩ = some v := fun k row hk o v ho => by
  have h1 := hget k row o v hk ho
  have h2 : o < sz := by rw [← (hrl hk).1]; exact (List.getElem?_eq_some_iff.1 ho).1
  have h3 := hin k (List.getElem?_eq_some_iff.1 hk).1
  have h4 : k * sz + o < arr.size := by omega
  simp [World.cell?, hb, h4]
  rw [← h1]; simp [h4]
 obtain ⟨Vi, li1, li2, li3, li4⟩ := ylk hT hg (hrl hri).1 (hrl hri).2 (hcell m ri hri)
 obtain ⟨Vj, lj1, lj2, lj3, lj4⟩ := ylk hT hg (hrl hrj).1 (hrl hrj).2 (hcell n rj hrj)
 -- the two stores
 have hb1 : w.drew.heap[b]? = some (.cells arr e (0, 0)) := hb
 have st1 := yge (P := P) hT hb1 lj2 lj3 (hin m hml)
 obtain ⟨p1, p2⟩ := yqc (arr := arr) (vs := Vj.cells) (off := m * sz) (by rw [lj2]; exact hin m hml)
 rw [lj2] at p1 p2
 generalize hA1 : (arr.toList.take (m * sz) ++ Vj.cells.toList ++ arr.toList.drop (m * sz + sz)).toArray = arr1 at st1 p1 p2
 have W1 := yoi hb1 arr1
 have st2 := yge (P := P) hT W1.at' li2 li3 (by rw [p1]; exact hin n hnl)
 obtain ⟨q1, q2⟩ := yqc (arr := arr1) (vs := Vi.cells) (off := n * sz) (by rw [li2, p1]; exact hin n hnl)
 rw [li2] at q1 q2
 generalize hA2 : (arr1.toList.take (n * sz) ++ Vi.cells.toList ++ arr1.toList.drop (n * sz + sz)).toArray = arr2 at st2 q1 q2
 have W2 := yoi W1.at' arr2
 have hR' : Rel P N N w0 A I (wrS (ofL l0) 0 (.ov false [.sl (some e) rows'])) a ((w.drew.setRow b arr1).setRow b arr2) L := by
  refine hR.rewrite hs hv hl (by rw [hes]; exact ha) hmax hcap (q1.trans p1) (by rw [← hrows]; simp) (fun row hrow => ?_) (fun k row o c h5 h6 => ?_) W2.at' (fun b' hb' => (W2.oth b' hb').trans (W1.oth b' hb')) (W2.size.trans W1.size) (W2.os.trans W1.os) (W2.tape.trans W1.tape) (W2.output.trans W1.output)
  ·rw [hes]
   obtain ⟨k, hk⟩ := List.mem_iff_getElem?.1 hrow
   rw [← hrows, List.getElem?_set] at hk
   split at hk
   ·split at hk
    ·rw [← Option.some.inj hk]; exact (hrl hri).1
    ·cases hk
   ·rw [List.getElem?_set] at hk
    split at hk
    ·rw [← Option.some.inj hk]; exact (hrl hrj).1
    ·exact (hrl hk).1
  ·rw [hes]
   rw [← hrows, List.getElem?_set] at h5
   have far : ∀ x y o, x ≠ y → o < sz → ¬ (x * sz ≤ y * sz + o ∧ y * sz + o < x * sz + sz) := fun x y o hxy ho => by
    rintro ⟨k1, k2⟩
    rcases Nat.lt_or_ge x y with h | h
    ·have := Nat.mul_le_mul_right sz (show x + 1 ≤ y from h)
     rw [Nat.add_mul, Nat.one_mul] at this; omega
    ·have := Nat.mul_le_mul_right sz (show y + 1 ≤ x from by omega)
     rw [Nat.add_mul, Nat.one_mul] at this; omega
   have fin : ∀ {row : List C}, rawRow row = true → row.length = sz → row[o]? = some c → (∀ v, row[o]? = some (.raw v) → arr2.getD (k * sz + o) undef = v) → ∃ v, c = .raw v ∧ scal v = true ∧ arr2.getD (k * sz + o) undef = v := fun h1 h2 h3 h4 => by
    obtain ⟨v, rfl, hvs⟩ := ygf h1 h3
    exact ⟨v, rfl, hvs, h4 v h3⟩
   split at h5
   ·rename_i hk
    subst hk
    rw [if_pos (by simpa using hnl)] at h5
    obtain rfl := Option.some.inj h5
    refine fin (hrl hri).2 (hrl hri).1 h6 fun v hv => ?_
    have ho : o < sz := by rw [← (hrl hri).1]; exact (List.getElem?_eq_some_iff.1 hv).1
    rw [q2, if_pos (by omega), show n * sz + o - n * sz = o from by omega]
    exact li4 o v hv
   ·rename_i hk
    rw [List.getElem?_set] at h5
    split at h5
    ·rename_i hk2
     subst hk2
     obtain rfl := Option.some.inj h5
     refine fin (hrl hrj).2 (hrl hrj).1 h6 fun v hv => ?_
     have ho : o < sz := by rw [← (hrl hrj).1]; exact (List.getElem?_eq_some_iff.1 hv).1
     rw [q2, if_neg (far n m o hk ho), p2, if_pos (by omega), show m * sz + o - m * sz = o from by omega]
     exact lj4 o v hv
    ·rename_i hk2
     refine fin (hrl h5).2 (hrl h5).1 h6 fun v hv => ?_
     have ho : o < sz := by rw [← (hrl h5).1]; exact (List.getElem?_eq_some_iff.1 hv).1
     rw [q2, if_neg (far n k o hk ho), p2, if_neg (far m k o hk2 ho)]
     exact hget k row o v h5 hv
 refine yfj hm hseq.1 (fun c a w h => h) orderSwap rfl hseq.2 ?_
 have ee : ∀ (a : Act) (d : Nat) (v : Value) (t : Nat), a.tmps.size = N → d < N → (a.put (some d) v).eval (.tmp t) = if t = d then v else a.eval (.tmp t) := fun a d v t h1 h2 => ysn (h1 ▸ h2) t
 have ix : ∀ (w : World) (k : Nat), k < rows.length → (Instr.indexAt t (.slice (some ⟨b, 0, none⟩) rows.length cap) (.int .i64 k)).run P w = .ok (.pointer (some ⟨b, k * sz, none⟩)) w := fun w k hk => by
  have := yee hE w b 0 rows.length cap .i64 (k : Int) (by omega) (by simpa using hk)
  simpa using this
 generalize hS : Value.slice (some ⟨b, 0, none⟩) rows.length cap = S at hsv ix
 obtain ⟨a1, ha1⟩ : ∃ a1, a1 = a.put (some 16) S := ⟨_, rfl⟩
 obtain ⟨a2, ha2⟩ : ∃ a2, a2 = a1.put (some 17) (.int .i64 n) := ⟨_, rfl⟩
 obtain ⟨a3, ha3⟩ : ∃ a3, a3 = a2.put (some 14) S := ⟨_, rfl⟩
 obtain ⟨a4, ha4⟩ : ∃ a4, a4 = a3.put (some 15) (.int .i64 m) := ⟨_, rfl⟩
 obtain ⟨a5, ha5⟩ : ∃ a5, a5 = a4.put (some 18) S := ⟨_, rfl⟩
 obtain ⟨a6, ha6⟩ : ∃ a6, a6 = a5.put (some 19) (.int .i64 n) := ⟨_, rfl⟩
 obtain ⟨a7, ha7⟩ : ∃ a7, a7 = a6.put (some 22) S := ⟨_, rfl⟩
 obtain ⟨a8, ha8⟩ : ∃ a8, a8 = a7.put (some 23) (.int .i64 m) := ⟨_, rfl⟩
 obtain ⟨a9, ha9⟩ : ∃ a9, a9 = a8.put (some 20) (.pointer (some ⟨b, n * sz, none⟩)) := ⟨_, rfl⟩
 obtain ⟨a10, ha10⟩ : ∃ a10, a10 = a9.put (some 24) (.pointer (some ⟨b, m * sz, none⟩)) := ⟨_, rfl⟩
 obtain ⟨a11, ha11⟩ : ∃ a11, a11 = a10.put (some 21) Vj := ⟨_, rfl⟩
 obtain ⟨a12, ha12⟩ : ∃ a12, a12 = a11.put (some 25) Vi := ⟨_, rfl⟩
 obtain ⟨a13, ha13⟩ : ∃ a13, a13 = a12.put (some 26) (.pointer (some ⟨b, m * sz, none⟩)) := ⟨_, rfl⟩
 obtain ⟨a14, ha14⟩ : ∃ a14, a14 = a13.put (some 27) (.pointer (some ⟨b, n * sz, none⟩)) := ⟨_, rfl⟩
 have s1 : a1.tmps.size = N := by rw [ha1, yfb, hN]
 have s2 : a2.tmps.size = N := by rw [ha2, yfb, s1]
 have s3 : a3.tmps.size = N := by rw [ha3, yfb, s2]
 have s4 : a4.tmps.size = N := by rw [ha4, yfb, s3]
 have s5 : a5.tmps.size = N := by rw [ha5, yfb, s4]
 have s6 : a6.tmps.size = N := by rw [ha6, yfb, s5]
 have s7 : a7.tmps.size = N := by rw [ha7, yfb, s6]
 have s8 : a8.tmps.size = N := by rw [ha8, yfb, s7]
 have s9 : a9.tmps.size = N := by rw [ha9, yfb, s8]
 have s10 : a10.tmps.size = N := by rw [ha10, yfb, s9]
 have s11 : a11.tmps.size = N := by rw [ha11, yfb, s10]
 have s12 : a12.tmps.size = N := by rw [ha12, yfb, s11]
 have s13 : a13.tmps.size = N := by rw [ha13, yfb, s12]
 have f1 : ∀ t, a1.eval (.tmp t) = if t = 16 then S else a.eval (.tmp t) := fun t => by rw [ha1]; exact ee a _ _ t hN d2.2
 have f2 : ∀ t, a2.eval (.tmp t) = if t = 17 then .int .i64 n else a1.eval (.tmp t) := fun t => by rw [ha2]; exact ee a1 _ _ t s1 d3.2
 have f3 : ∀ t, a3.eval (.tmp t) = if t = 14 then S else a2.eval (.tmp t) := fun t => by rw [ha3]; exact ee a2 _ _ t s2 d0.2
 have f4 : ∀ t, a4.eval (.tmp t) = if t = 15 then .int .i64 m else a3.eval (.tmp t) := fun t => by rw [ha4]; exact ee a3 _ _ t s3 d1.2
 have f5 : ∀ t, a5.eval (.tmp t) = if t = 18 then S else a4.eval (.tmp t) := fun t => by rw [ha5]; exact ee a4 _ _ t s4 d4.2
 have f6 : ∀ t, a6.eval (.tmp t) = if t = 19 then .int .i64 n else a5.eval (.tmp t) := fun t => by rw [ha6]; exact ee a5 _ _ t s5 d5.2
 have f7 : ∀ t, a7.eval (.tmp t) = if t = 22 then S else a6.eval (.tmp t) := fun t => by rw [ha7]; exact ee a6 _ _ t s6 d8.2
 have f8 : ∀ t, a8.eval (.tmp t) = if t = 23 then .int .i64 m else a7.eval (.tmp t) := fun t => by rw [ha8]; exact ee a7 _ _ t s7 d9.2
 have f9 : ∀ t, a9.eval (.tmp t) = if t = 20 then .pointer (some ⟨b, n * sz, none⟩) else a8.eval (.tmp t) := fun t => by rw [ha9]; exact ee a8 _ _ t s8 d6.2
 have f10 : ∀ t, a10.eval (.tmp t) = if t = 24 then .pointer (some ⟨b, m * sz, none⟩) else a9.eval (.tmp t) := fun t => by rw [ha10]; exact ee a9 _ _ t s9 d10.2
 have f11 : ∀ t, a11.eval (.tmp t) = if t = 21 then Vj else a10.eval (.tmp t) := fun t => by rw [ha11]; exact ee a10 _ _ t s10 d7.2
 have f12 : ∀ t, a12.eval (.tmp t) = if t = 25 then Vi else a11.eval (.tmp t) := fun t => by rw [ha12]; exact ee a11 _ _ t s11 d11.2
 have f13 : ∀ t, a13.eval (.tmp t) = if t = 26 then .pointer (some ⟨b, m * sz, none⟩) else a12.eval (.tmp t) := fun t => by rw [ha13]; exact ee a12 _ _ t s12 d12.2
 have f14 : ∀ t, a14.eval (.tmp t) = if t = 27 then .pointer (some ⟨b, n * sz, none⟩) else a13.eval (.tmp t) := fun t => by rw [ha14]; exact ee a13 _ _ t s13 d14.2
 have xi : ∀ {o : Oper} {x y : Operand} {c : Act} {k : Nat} (w : World), o.op = .indexAddr t x y → c.eval x = S → c.eval y = .int .i64 k → k < rows.length → (execOp c.eval o).run P w = .ok (.value (.pointer (some ⟨b, k * sz, none⟩))) w := fun {o x y c k} w h1 h2 h3 h4 => by
  simp only [execOp, h1, h2, h3]
  rw [Sem.run_bind, ix w k h4]
  rfl
 have xl : ∀ {o : Oper} {x : Operand} {c : Act} {V p : Value} (w : World), o.op = .load e x → c.eval x = p → (Instr.loadAt e p).run P w = .ok V w → (execOp c.eval o).run P w = .ok (.value V) w := fun {o x c V p} w h1 h2 h3 => by
  simp only [execOp, h1, h2]
  rw [Sem.run_bind, h3]
  rfl
 unfold orderSwap
 refine yyb (o := o2) rfl S (fun w => by rw [yvb h2.1, hsv]) ?_
 rw [h2.2, ← ha1]
 refine yyb (o := o3) rfl (.int .i64 n) (fun w => by rw [yvb h3.1]; simp [f1, hjv]) ?_
 rw [h3.2, ← ha2]
 refine yyb (o := o0) rfl S (fun w => by rw [yvb h0.1]; simp [f2, f1, hsv]) ?_
 rw [h0.2, ← ha3]
 refine yyb (o := o1) rfl (.int .i64 m) (fun w => by rw [yvb h1.1]; simp [f3, f2, f1, hiv]) ?_
 rw [h1.2, ← ha4]
 refine yyb (o := o4) rfl S (fun w => by rw [yvb h4.1]; simp [f4, f3, f2, f1, hsv]) ?_
 rw [h4.2, ← ha5]
 refine yyb (o := o5) rfl (.int .i64 n) (fun w => by rw [yvb h5.1]; simp [f5, f4, f3, f2, f1, hjv]) ?_
 rw [h5.2, ← ha6]
 refine yyb (o := o8) rfl S (fun w => by rw [yvb h8.1]; simp [f6, f5, f4, f3, f2, f1, hsv]) ?_
 rw [h8.2, ← ha7]
 refine yyb (o := o9) rfl (.int .i64 m) (fun w => by rw [yvb h9.1]; simp [f7, f6, f5, f4, f3, f2, f1, hiv]) ?_
 rw [h9.2, ← ha8]
 refine yyb (o := o6) rfl (.pointer (some ⟨b, n * sz, none⟩)) (fun w => xi w h6.1 (by simp [f8, f7, f6, f5]) (by simp [f8, f7, f6]) hnl) ?_
 rw [h6.2, ← ha9]
 refine yyb (o := o10) rfl (.pointer (some ⟨b, m * sz, none⟩)) (fun w => xi w h10.1 (by simp [f9, f8, f7]) (by simp [f9, f8]) hml) ?_
 rw [h10.2, ← ha10]
 refine ⟨o7, o11, Vj, Vi, rfl, rfl, xl _ h7.1 (by simp [f10, f9]) (lj1 _ rfl), xl _ h11.1 (by simp [f10]) (li1 _ rfl), ?_⟩
 rw [h7.2, h11.2, ← ha11, ← ha12]
 refine ⟨o12, rfl, wp_val (xi _ h12.1 (by simp [f12, f11, f10, f9, f8, f7, f6, f5, f4, f3]) (by simp [f12, f11, f10, f9, f8, f7, f6, f5, f4]) hml) ?_⟩
 rw [h12.2, ← ha13]
 have skip : ∀ {o : Oper} {c : Act} {x y : Operand} {p V : Value} {w w' : World} {K : Act → World → Prop} {Q : Exit → Act → World → Prop}, o.op = .store e x y → o.dst = none → c.eval x = p → c.eval y = V → (Instr.storeAt e p V).run P w = .ok () w' → K c w' → o.wp P c w K Q := fun {o c x y p V w w' K Q} h1 h2 h3 h4 h5 h6 => by
  have : (execOp c.eval o).run P w = .ok .skip w' := by
   simp only [execOp, h1, h3, h4]
   rw [Sem.run_bind, h5]
   rfl
  unfold Oper.wp
  rw [this, Oper.upon_skip, h2]
  exact h6
 refine ⟨o13, rfl, skip h13.1 h13.2 (by simp [f13]) (by simp [f13, f12, f11]) st1 ?_⟩
 refine ⟨o14, rfl, wp_val (xi _ h14.1 (by simp [f13, f12, f11, f10, f9, f8, f7, f6, f5, f4, f3, f2, f1]) (by simp [f13, f12, f11, f10, f9, f8, f7, f6, f5, f4, f3, f2]) hnl) ?_⟩
 rw [h14.2, ← ha14]
 refine ⟨o15, rfl, skip h15.1 h15.2 (by simp [f14]) (by simp [f14, f13, f12]) st2 ?_⟩
 simp only [wpStp]
 obtain ⟨L1, r1⟩ := hR'.putU d2 S
 rw [← ha1] at r1
 obtain ⟨L2, r2⟩ := r1.putU d3 (.int .i64 n)
 rw [← ha2] at r2
 obtain ⟨L3, r3⟩ := r2.putU d0 S
 rw [← ha3] at r3
 obtain ⟨L4, r4⟩ := r3.putU d1 (.int .i64 m)
 rw [← ha4] at r4
 obtain ⟨L5, r5⟩ := r4.putU d4 S
 rw [← ha5] at r5
 obtain ⟨L6, r6⟩ := r5.putU d5 (.int .i64 n)
 rw [← ha6] at r6
 obtain ⟨L7, r7⟩ := r6.putU d8 S
 rw [← ha7] at r7
 obtain ⟨L8, r8⟩ := r7.putU d9 (.int .i64 m)
 rw [← ha8] at r8
 obtain ⟨L9, r9⟩ := r8.putU d6 (.pointer (some ⟨b, n * sz, none⟩))
 rw [← ha9] at r9
 obtain ⟨L10, r10⟩ := r9.putU d10 (.pointer (some ⟨b, m * sz, none⟩))
 rw [← ha10] at r10
 obtain ⟨L11, r11⟩ := r10.putU d7 Vj
 rw [← ha11] at r11
 obtain ⟨L12, r12⟩ := r11.putU d11 Vi
 rw [← ha12] at r12
 obtain ⟨L13, r13⟩ := r12.putU d12 (.pointer (some ⟨b, m * sz, none⟩))
 rw [← ha13] at r13
 obtain ⟨L14, r14⟩ := r13.putU d14 (.pointer (some ⟨b, n * sz, none⟩))
 rw [← ha14] at r14
 exact lift_of r14 hr1 hl1 hq
end Go.PV
namespace Go.PV
variable {P : Program}
theorem raw_map {α : Type} {f : α → List C} {xs : List α} (h : ∀ x, rawRow (f x) = true) : ∀ row ∈ xs.map f, rawRow row = true := by
 intro row hr
 obtain ⟨x, _, rfl⟩ := List.mem_map.1 hr
 exact h x
theorem yun {t t2 : TypeId} {a b : Operand} {k : IntKind} {x y : Int} : PureAt P (.binOp .and t a b t2) [.int k x, .int k y] (.int k (iand k x y)) := by
 intro ρ o ho hv w
 have hv : ρ a = .int k x ∧ ρ b = .int k y := by simpa [Op.operands] using hv
 simp [execOp, ho, hv.1, hv.2, eqGuard, binOp, Op.intBits, iand]
theorem yvn {t t2 : TypeId} {a b : Operand} {k k' : IntKind} {x y : Int} (h : 0 ≤ y) : PureAt P (.binOp .shr t a b t2) [.int k x, .int k' y] (.int k (ishr k x y)) := by
 intro ρ o ho hv w
 have hv : ρ a = .int k x ∧ ρ b = .int k' y := by simpa [Op.operands] using hv
 have : ¬ y < 0 := by omega
 simp [execOp, ho, hv.1, hv.2, eqGuard, binOp, Op.shift, ishr, this]
theorem ydg {s d : TypeId} {a : Operand} {k k' : IntKind} {x : Int} (h1 : P.underlying s = some (.int k)) (h2 : P.underlying d = some (.int k')) : PureAt P (.convert s d a) [.int k x] (.int k' (k'.wrap x)) := by
 intro ρ o ho hv w
 have hv : ρ a = .int k x := by simpa [Op.operands] using hv
 simp [execOp, ho, hv, convert, run_underlying h1, run_underlying h2, Conv.intToInt]
end Go.PV

/-
 A walk over pure values: a struct of one slice handed in, the slice lent on.
 Conditions: none.
-/
namespace Go.PV
variable {P : Program}
end Go.PV

/-
 A walk over pure values: a region's operations listed in another order.
 Conditions: none.
-/
namespace Go.PV
variable {P : Program} {N : Nat}
def permOp (π : List Nat) (o : Oper) : Oper := { o with after := o.after.map fun e => { e with on := π.idxOf e.on }, guard := o.guard.map fun g => (π.idxOf g.1, g.2) }
def permOps (π : List Nat) (ops : List Oper) : List Oper := π.map fun i => permOp π (ops.getD i default)
def permB (π : List Nat) (ops : List Oper) : Bool :=
 (π.length == ops.length && ((List.range ops.length).all (fun i => decide (π.idxOf i < ops.length) && π.getD (π.idxOf i) ops.length == i) && (List.range ops.length).all (fun j => decide (π.getD j ops.length < ops.length) && π.idxOf (π.getD j ops.length) == j))) &&
 ops.all fun o => o.after.all (fun e => decide (e.on < ops.length)) && (match o.guard with | some g => decide (g.1 < ops.length) | none => true)
section
variable {π : List Nat} {ops : List Oper} (h : permB π ops = true)
include h
end
end Go.PV

/-
 A walk over pure values: a region in whatever order, every order walked.
 Conditions: none.
-/
namespace Go.PV
variable {P : Program} {N : Nat}
def freeAt (ops : Array Oper) (listed : Array Bool) : Option Nat := (Region.ready .any ops listed).find? fun k => match ops[k]? with
 | some o => plainO o && (Region.noSelect ops && Region.free .any ops listed k)
 | none => false
def pvT (P : Program) (ops : Array Oper) (K : St → Prop) : Nat → Array Bool → St → Prop
 | 0, listed, σ => Region.ready .any ops listed = [] ∧ K σ
 | f + 1, listed, σ => match freeAt ops listed with
  | some k => ∃ o, ops[k]? = some o ∧ o.guard = none ∧ pvOpF P o σ fun σ' => pvT P ops K f (listed.setIfInBounds k true) σ'
  | none => (Region.ready .any ops listed = [] → K σ) ∧ ∀ i ∈ Region.ready .any ops listed, ∃ o, ops[i]? = some o ∧ o.guard = none ∧ pvOpF P o σ fun σ' => pvT P ops K f (listed.setIfInBounds i true) σ'
def xTl (step : Nat → Option (List LS × List Prop)) : List Nat → Option (List LS × List Prop)
 | [] => some ([], [])
 | i :: l => match step i, xTl step l with
  | some (a, b), some (c, d) => some (a ++ c, b ++ d)
  | _, _ => none
def xT (P : Program) (ops : Array Oper) (hs : List (Nat × HH)) (l1 : LS) : Nat → Array Bool → St → Option (List LS × List Prop)
 | 0, listed, σ => (match Region.ready .any ops listed with
  | [] => some ([readL σ l1], [])
  | _ => none)
 | f + 1, listed, σ =>
  let go := fun k => match ops[k]? with
   | some o => if o.guard.isNone = true then (match xOpF P o σ (hintAt hs k) with
    | some (σ1, o2) => (match xT P ops hs l1 f (listed.setIfInBounds k true) (xFix σ1 (hintAt hs k)).1 with
     | some (ls, o3) => some (ls, o2 ++ ((xFix σ1 (hintAt hs k)).2 ++ o3))
     | none => none)
    | none => none) else none
   | none => none
  match freeAt ops listed with
  | some k => go k
  | none => (match Region.ready .any ops listed with
   | [] => some ([readL σ l1], [])
   | i :: l => xTl go (i :: l))
theorem ymk : ∀ (rows : List (List C)) (i : Nat) (c : C), setL (setL rows [(i, 0)] [.dead]) [(i, 0)] [c] = setL rows [(i, 0)] [c]
 | [], i, c => by cases i <;> simp [setL]
 | r :: l, 0, c => by simp [setL]
 | r :: l, i + 1, c => by simp only [setL]; rw [ymk l i c]
theorem ypi : ∀ (rows : List (List C)) (i : Nat) (row : List C), rows[i]? = some row → row.length = 1 → getRow (setL rows [(i, 0)] [.dead]) [(i, 0)] = some [.dead]
 | [], i, row, h, _ => by simp at h
 | r :: l, 0, row, h, h1 => by
  simp at h; subst h
  cases r with
  | nil => simp at h1
  | cons x r => simp at h1; subst h1; simp [setL, getRow]
 | r :: l, i + 1, row, h, h1 => by
  have := ypi l i row (by simpa using h) h1
  simpa [setL, getRow] using this
theorem ywn {α : Type} {F : α → List C} {xs : List α} {i : Nat} {v : α} (h : xs[i]? = some v) (h1 : (F v).length = 1) : getRow (setL (xs.map F) [(i, 0)] [.dead]) [(i, 0)] = some [.dead] :=
 ypi _ i (F v) (by rw [List.getElem?_map, h]; rfl) h1
theorem yqi : ∀ (rows : List (List C)) (i : Nat) (row : List C), rows[i]? = some row → row.length = 1 → (setL rows [(i, 0)] [.dead])[i]? = some [.dead]
 | [], i, row, h, _ => by simp at h
 | r :: l, 0, row, h, h1 => by
  simp at h; subst h
  cases r with
  | nil => simp at h1
  | cons x r => simp at h1; subst h1; simp [setL]
 | r :: l, i + 1, row, h, h1 => by
  have := yqi l i row (by simpa using h) h1
  simpa [setL] using this
theorem ymm {α : Type} {F : α → List C} {xs : List α} {i : Nat} {v : α} (h : xs[i]? = some v) (h1 : (F v).length = 1) : (setL (xs.map F) [(i, 0)] [.dead])[i]? = some [.dead] :=
 yqi _ i (F v) (by rw [List.getElem?_map, h]; rfl) h1
end Go.PV

/-
 A walk over pure values: structs of two structs of two whole numbers compared.
 Conditions: none.
-/
namespace Go.PV
variable {P : Program}
def twoS (P : Program) (t : TypeId) (k : IntKind) : Bool :=
 match P.underlying t, P.info? t with
 | some (.struct fs), some i => i.size == 2 && !P.stoodInHeld t && (match fs.toList with
  | [f, g] => (f.name != "_") && (g.name != "_") && f.offset == 0 && g.offset == 1 && (match P.underlying f.type, P.underlying g.type with
   | some (.int k1), some (.int k2) => k1 == k && k2 == k
   | _, _ => false)
  | _ => false)
 | _, _ => false
def four (P : Program) (t : TypeId) (k : IntKind) : Bool :=
 match P.underlying t with
 | some (.struct fs) => !P.stoodInHeld t && !P.eqGuardType P.depth t && (match fs.toList with
  | [f, g] => (f.name != "_") && (g.name != "_") && f.offset == 0 && g.offset == 2 && twoS P f.type k && twoS P g.type k
  | _ => false)
 | _ => false
end Go.PV

/-
 A walk over pure values: the rules once more, with what the kernel reckons left out.
 Conditions: none.
-/
namespace Go.PV
variable {P : Program} {N : Nat}
theorem A1 {a : Prop} (x : a) : a ∧ True := ⟨x, trivial⟩
theorem A2 {a b : Prop} (x : a) (y : b) : a ∧ b ∧ True := ⟨x, y, trivial⟩
theorem A3 {a b c : Prop} (x : a) (y : b) (z : c) : a ∧ b ∧ c ∧ True := ⟨x, y, z, trivial⟩
theorem A4 {a b c d : Prop} (x : a) (y : b) (z : c) (u : d) : a ∧ b ∧ c ∧ d ∧ True := ⟨x, y, z, u, trivial⟩
theorem A5 {a b c d e : Prop} (x : a) (y : b) (z : c) (u : d) (v : e) : a ∧ b ∧ c ∧ d ∧ e ∧ True := ⟨x, y, z, u, v, trivial⟩
theorem A6 {a b c d e f : Prop} (x : a) (y : b) (z : c) (u : d) (v : e) (w : f) : a ∧ b ∧ c ∧ d ∧ e ∧ f ∧ True := ⟨x, y, z, u, v, w, trivial⟩
theorem B6 {a b c d e f g : Prop} (x : a) (y : b) (z : c) (u : d) (v : e) (w : f) (t : g) : a ∧ b ∧ c ∧ d ∧ e ∧ f ∧ g := ⟨x, y, z, u, v, w, t⟩
theorem r_gq {id : Nat} {ops : List Oper} {l0 : LS} {Q : Prop} (l1 : LS) (hs : List (Nat × HH)) (ho : Q) (e : (xGo P ops hs l0 l1).map (fun p => (p.1, allP p.2)) = some (l1, Q) := by kernel_rfl) : RegOk P N (.region id ops.toArray false) l0 l1 := by
 cases hx : xGo P ops hs l0 l1 with
 | none => rw [hx] at e; cases e
 | some p =>
  rw [hx] at e
  simp only [Option.map_some, Option.some.injEq, Prod.mk.injEq] at e
  obtain ⟨e1, e2⟩ := e
  exact r_go l1 hs p.2 (by rw [hx, ← e1]) (by rw [e2]; exact ho)
theorem r_dq {id : Nat} {ops : List Oper} {l0 : LS} {Q : Prop} (hm : P.follows .mixedOrders = true) (n : Nat) (T : List (Nat × Nat)) (l1 : LS) (hs : List (Nat × HH)) (ho : Q) (e : (xGoD P n T ops hs l0 l1).map (fun p => (p.1, allP p.2)) = some (l1, Q) := by kernel_rfl) : RegOk P N (.region id ops.toArray true) l0 l1 := by
 cases hx : xGoD P n T ops hs l0 l1 with
 | none => rw [hx] at e; cases e
 | some p =>
  rw [hx] at e
  simp only [Option.map_some, Option.some.injEq, Prod.mk.injEq] at e
  obtain ⟨e1, e2⟩ := e
  exact r_draw hm n T l1 hs p.2 (by rw [hx, ← e1]) (by rw [e2]; exact ho)
theorem kc {c : Operand} (b : Bool) {x y : Code} {l : LS} {Q : Ex → LS → Prop} (h1 : b = true → OkL P N x l Q) (h2 : b = false → OkL P N y l Q) (hc : evS (ofL l) c = .p (.bool b) := by kernel_rfl) : OkL P N (.cond c x y) l Q := k_cond hc h1 h2
theorem er {fn : Func} {args : List Arg} {vals : List RV} {l : LS} (ls : List (RV × Nat)) (h1 : retVs P (ofL l) fn.results.toList = some ls := by kernel_rfl) (h2 : ovOk ls = true := by rfl) (h3 : ls.map (·.1) = vals := by kernel_rfl) (h4 : outsOf (ofL l) ((List.range args.length).zip args) = some [] := by rfl) : endL P fn args { vals := vals } .ret l := e_ret h1 h2 h3 h4
theorem ebr {fn : Func} {vals : List RV} {x' : SV} {l : LS} (ls : List (RV × Nat)) (h1 : retVs P (ofL l) fn.results.toList = some ls := by kernel_rfl) (h2 : ovOk ls = true := by rfl) (h0 : (ls.all fun y => !isOvR y.1 || y.2 != 0) = true := by rfl) (h3 : ls.map (·.1) = vals := by kernel_rfl) (h4 : ofL l 0 = x' := by kernel_rfl) : endLB P fn vals x' .ret l := eb_ret h1 h2 h0 h3 h4
theorem ebe {fn : Func} {vals : List RV} {x' : SV} {l : LS} (ls : List (RV × Nat)) (h1 : retVs P (ofL l) fn.results.toList = some ls := by kernel_rfl) (h2 : ovOk ls = true := by rfl) (h0 : (ls.all fun y => !isOvR y.1 || y.2 != 0) = true := by rfl) (h3 : ls.map (·.1) = vals := by kernel_rfl) (h4 : ofL l 0 = x' := by kernel_rfl) : endLB P fn vals x' .normal l := eb_end h1 h2 h0 h3 h4
theorem lqn {X Y : Type} {o : X ⊕ Y} {J : X → LS} {Q : Ex → LS → Prop} {l : LS} (x' : X) (h : some (Sum.inl x') = some o) (h1 : refsOk (J x') = true := by kernel_rfl) (h2 : readL (ofL l) (J x') = J x' := by kernel_rfl) : loopQ o J Q .normal l := lq_n x' (Option.some.inj h).symm (wk_of h1 h2)
theorem jx {X : Type} {K : X → Prop} {J : X → LS} {l : LS} (x : X) (h : K x) (h1 : refsOk (J x) = true := by kernel_rfl) (h2 : readL (ofL l) (J x) = J x := by kernel_rfl) : ∃ x, K x ∧ wk l (J x) := ⟨x, h, wk_of h1 h2⟩
theorem mo {f : FuncId} {fn : Func} {c : Code} {args : List Arg} {res : Res} (hf : P.funcs[f]? = some fn) (l0 : LS) (h : OkL P fn.ntmps c l0 (endL P fn args res)) (hb : fn.body = some c := by rfl) (hc : callable P f = true := by kernel_rfl)
  (hN : (decide (args.length ≤ fn.ntmps) && codeB 0 fn.ntmps c && args.all notPtrA) = true := by kernel_rfl) (hl0 : (List.range args.length).zip (args.map argSV) = l0 := by kernel_rfl) : Meets P f args res := ymi hc hf hb hN hl0 h
theorem mob {f : FuncId} {fn : Func} {c : Code} {x x' : SV} {args : List Arg} {vals : List RV} (hf : P.funcs[f]? = some fn) (l0 : LS) (h : OkL P fn.ntmps c l0 (endLB P fn vals x')) (hb : fn.body = some c := by rfl) (hc : callable P f = true := by kernel_rfl)
  (hN : (decide (args.length + 1 ≤ fn.ntmps) && codeB 1 fn.ntmps c && args.all notPtrA) = true := by kernel_rfl) (hx' : (isOwnR x' || match (generalizing := false) x' with | .u => true | _ => false) = true := by kernel_rfl) (hl0 : (List.range (args.length + 1)).zip (x :: args.map argSV) = l0 := by kernel_rfl) : MeetsB P f x args vals x' := yhk hc hf hb hN hx' hl0 h
theorem bs {α β : Type} {o : Option α} {f : α → Option β} {r : β} (h : o.bind f = some r) : ∃ x, o = some x ∧ f x = some r := Option.bind_eq_some_iff.1 h
theorem oi {α : Type} {a b : α} (h : some a = some b) : a = b := Option.some.inj h
theorem ft (b : Bool) : b = true ∨ b = false := Bool.eq_false_or_eq_true b
abbrev rI (n : Int) : C := .raw (.int .i64 n)
abbrev iV (n : Int) : Value := .int .i64 n
abbrev wI (n : Int) : Arg := .v (.int .i64 n)
abbrev Cu := List Int × Int × Int
abbrev eCu : Cu → List C := eP (eF (eU .u8)) (eP eI (eU .u64))
abbrev Qr := Int × Int
abbrev Qp := Qr × Qr
abbrev eRt : Qr → List C := eP eI eI
abbrev ePt : Qp → List C := eP eRt eRt
abbrev vRt (x : Qr) : Value := .agg #[.int .i64 x.1, .int .i64 x.2]
abbrev vPt (x : Qp) : Value := .agg #[.int .i64 x.1.1, .int .i64 x.1.2, .int .i64 x.2.1, .int .i64 x.2.2]
abbrev gT : HH := { g := some true }
abbrev gF : HH := { g := some false }
abbrev bT : HH := { b := some true }
abbrev bF : HH := { b := some false }
end Go.PV

/-
 A walk over pure values: decimal numerals.
 Conditions: none.
-/
set_option linter.all false
namespace Go.PV
def itoaB (n : Int) : ByteArray := ⟨(Lib.itoa n).toArray⟩
def byteB (z : Int) : ByteArray := ⟨[UInt8.ofNat (Int.toNat z)].toArray⟩
end Go.PV

/-
 A walk over pure values: letters and parts of strings.
 Conditions: none.
-/
set_option linter.all false
namespace Go.PV
variable {P : Program}
def strAt (s : ByteArray) (i : Int) : Int := if h : 0 ≤ i ∧ i < s.size then ((s[i.toNat]'(by omega)).toNat : Int) else 0
def strCut (s : ByteArray) (i j : Int) : ByteArray := s.extract i.toNat j.toNat
def bytesL (b : ByteArray) : List Int := b.data.toList.map fun c => (c.toNat : Int)
end Go.PV

/-
 A walk over pure values: strings.Builder: the check that it has not been copied.
 Conditions: none.
-/
set_option linter.all false
namespace Go.PV
variable {P : Program}
def eBp (t : TypeId) : Unit → List C := fun _ => [.bp t]
def bytesB (xs : List Int) : ByteArray := ⟨(xs.map fun z => UInt8.ofNat (Int.toNat z)).toArray⟩
def bytesOk (xs : List Int) : Bool := xs.all fun x => decide (0 ≤ x) && decide (x ≤ 255)
def asciiB (b : ByteArray) : Bool := b.data.toList.all fun x => decide (x.toNat < 128)
def trimB (a b : ByteArray) : ByteArray := ⟨(((a.data.toList.reverse.dropWhile (b.data.toList.contains ·)).reverse).dropWhile (b.data.toList.contains ·)).toArray⟩
def cutB (s t : ByteArray) : ByteArray × ByteArray × Bool := (⟨(Lib.cut s.data.toList t.data.toList).1.toArray⟩, ⟨(Lib.cut s.data.toList t.data.toList).2.1.toArray⟩, (Lib.cut s.data.toList t.data.toList).2.2)
def atoiV (s : ByteArray) : Int × Bool := match Lib.atoiAll s.data.toList with
 | .ok v => (v, true)
 | .range => (Lib.atoiSat s.data.toList, false)
 | _ => (0, false)
def eEr : Bool → List C := fun b => [.er b]
def oppP (q : (Int × Int) × (Int × Int)) : (Int × Int) × (Int × Int) := ((w64 (q.1.2 - q.1.1), q.1.2), (w64 (q.2.2 - q.2.1), q.2.2))
end Go.PV

/-
 Plain laws of loops, elements and wraps.
 Conditions: none.
-/
namespace Go.PV
theorem w64_id {n : Int} (h1 : -9223372036854775808 ≤ n) (h2 : n ≤ 9223372036854775807) : w64 n = n := IntWalk.i64_in n ⟨h1, h2⟩
theorem w64_nat {n : Nat} (h2 : n < 9223372036854775807) : w64 ((n : Int) + 1) = ((n + 1 : Nat) : Int) := by
 rw [w64_id (by omega) (by omega)]; omega
section
variable {α β X Y : Type}
theorem yzb (xs : List α) (i : Nat) : idxO xs (i : Int) = xs[i]? := by simp [idxO]
theorem idxO_lt {xs : List α} {i : Nat} (h : i < xs.length) : idxO xs (i : Int) = some xs[i] := by simp [idxO, h]
theorem yda {p : Prop} [Decidable p] {f : Unit → Option α} (h : p) : (guardO p).bind f = f () := by simp [guardO, h]
theorem yia {body : X → Option (X ⊕ Y)} (n : Nat) (S : Nat → X) (y : Y) (h1 : ∀ i, i < n → body (S i) = some (.inl (S (i + 1)))) (h2 : body (S n) = some (.inr y)) : loopO body (S 0) = some y := by
 have : ∀ k, k ≤ n → loopO body (S (n - k)) = some y := by
  intro k
  induction k with
  | zero => intro _; rw [ysa, Nat.sub_zero, h2]
  | succ k ih =>
   intro hk
   rw [ysa, h1 _ (by omega)]
   have := ih (by omega)
   rwa [show n - (k + 1) + 1 = n - k by omega]
 simpa using this n (Nat.le_refl n)
theorem yeg {body : X → Option (X ⊕ Y)} (Inv : X → Prop) (μ : X → Nat) (R : Y → Prop) (h : ∀ x, Inv x → (∃ x', body x = some (.inl x') ∧ Inv x' ∧ μ x' < μ x) ∨ (∃ y, body x = some (.inr y) ∧ R y)) (x0 : X) (h0 : Inv x0) : ∃ y, loopO body x0 = some y ∧ R y := by
 have : ∀ n x, μ x = n → Inv x → ∃ y, loopO body x = some y ∧ R y := by
  intro n
  induction n using Nat.strongRecOn with
  | ind n ih =>
   intro x hx hi
   rcases h x hi with ⟨x', h1, h2, h3⟩ | ⟨y, h1, h2⟩
   ·obtain ⟨y, h4, h5⟩ := ih _ (by omega) x' rfl h2
    exact ⟨y, by rw [ysa, h1]; exact h4, h5⟩
   ·exact ⟨y, by rw [ysa, h1], h2⟩
 exact this _ x0 rfl h0
theorem yhf {xs : List α} {body : X → Option (X ⊕ Y)} (p : α → Bool) (S : Nat → X) (yes : Nat → Y) (no : Y) (h1 : ∀ i x, xs[i]? = some x → body (S i) = some (if p x then .inr (yes i) else .inl (S (i + 1)))) (h2 : body (S xs.length) = some (.inr no)) :
  loopO body (S 0) = some (match xs.findIdx? p with | some i => yes i | none => no) := by
 cases h : xs.findIdx? p with
 | none =>
  have hn := List.findIdx?_eq_none_iff.1 h
  refine yia xs.length S no (fun i hi => ?_) h2
  rw [h1 i xs[i] (List.getElem?_eq_getElem hi), hn _ (List.getElem_mem hi)]; rfl
 | some m =>
  obtain ⟨hm, hp, hlt⟩ := List.findIdx?_eq_some_iff_getElem.1 h
  refine yia m S (yes m) (fun i hi => ?_) ?_
  ·rw [h1 i xs[i] (List.getElem?_eq_getElem (by omega))]
   have := hlt i hi
   simp [this]
  ·rw [h1 m xs[m] (List.getElem?_eq_getElem hm), hp]; rfl
theorem ynk {xs : List α} {body : X → Option (X ⊕ Y)} (p : α → Bool) (S : Nat → X) (yes no : Y) (h1 : ∀ i x, xs[i]? = some x → body (S i) = some (if p x then .inr yes else .inl (S (i + 1)))) (h2 : body (S xs.length) = some (.inr no)) :
  loopO body (S 0) = some (if xs.any p then yes else no) := by
 rw [yhf p S (fun _ => yes) no h1 h2]
 cases h : xs.findIdx? p with
 | none =>
  have hn := List.findIdx?_eq_none_iff.1 h
  have : xs.any p = false := by simpa using hn
  simp [this]
 | some m =>
  obtain ⟨hm, hp, _⟩ := List.findIdx?_eq_some_iff_getElem.1 h
  have : xs.any p = true := by simp; exact ⟨xs[m], List.getElem_mem hm, hp⟩
  simp [this]
theorem getElem?_lt {xs : List α} {i : Nat} {x : α} (h : xs[i]? = some x) : i < xs.length := (List.getElem?_eq_some_iff.1 h).1
end
end Go.PV

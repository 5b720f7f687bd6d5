/-
  A walk over pure values: what stands for what, and that each operation keeps it.
  Conditions: none.
-/
import Derived.Deep.Slices
import Derived.WalkKit
import Derived.ProofKit
import Derived.Below
import Derived.Carry
import Derived.OpenShut
import Derived.Laws.StructEq
import Derived.Lib.SliceRun
import Derived.Laws.IdiomCopy
import Derived.KernelRfl
import Derived.Lib.ItoaNum
import Derived.Lib.LaidTab
import Derived.Sort.Grow
import Derived.Deep.Draws
import Derived.Laws.Strings
import Derived.Laws.Strings2
import Derived.Laws.Slices
import Derived.Lib.Bytealg
import Derived.Lib.IndexMore
import Derived.Lib.AtoiAll
import Derived.RangeFuncNested
import Derived.RangeFuncLeaves
import Derived.OrdersIn
import Derived.IntWalk
import Derived.Test.YtkcfcccfonekoaaPvBx
set_option linter.all false
/-
 A walk over pure values: operations reckoned, with hints where a value can't be.
 Conditions: none.
-/
namespace Go.PV
variable {P : Program} {N : Nat}
structure HH where
 deep : Option (List C) := none
 row : Option (List C) := none
 n : Option Nat := none
 b : Option Bool := none
 g : Option Bool := none
 pv : Option Value := none
 call : Option (Option (List Arg) × List RV × Bool) := none
 lend : Option (Option (List Arg) × List RV × SV × Bool) := none
 fix : Option (Nat × SV) := none
 pre : Option (Nat × SV) := none
 take : Option (Nat × List C) := none
 bts : Option (List UInt8) := none
def allP : List Prop → Prop
 | [] => True
 | p :: l => p ∧ allP l
theorem allP_append {l l' : List Prop} : allP (l ++ l') ↔ allP l ∧ allP l' := by
 induction l with
 | nil => simp [allP]
 | cons p l ih => simp [allP, ih, and_assoc]
def asO (as0 : List Arg) : Option (List Arg) → List Arg
 | none => as0
 | some axs => axs
def asP (as0 : List Arg) : Option (List Arg) → List Prop
 | none => []
 | some axs => [as0 = axs]
theorem as_ok {as0 : List Arg} {o : Option (List Arg)} (h : allP (asP as0 o)) : asO as0 o = as0 := by
 cases o with
 | none => rfl
 | some axs => exact h.1.symm
def isPR : RV → Bool
 | .p _ => true
 | _ => false
def smP (b : Bool) (vals : List RV) : List Prop := if (!b || vals.all isPR) = true then [] else [vals.all simpleR = true]
theorem all_sm {vals : List RV} (h : vals.all isPR = true) : vals.all simpleR = true := by
 induction vals with
 | nil => rfl
 | cons v l ih =>
  simp only [List.all_cons, Bool.and_eq_true] at h ⊢
  refine ⟨?_, ih h.2⟩
  cases v <;> simp_all [isPR, simpleR]
theorem sm_ok {b : Bool} {vals : List RV} (h : allP (smP b vals)) : (!b || vals.all simpleR) = true := by
 unfold smP at h
 cases b with
 | false => rfl
 | true =>
  cases hv : vals.all isPR with
  | true => rw [all_sm hv]; rfl
  | false => simp only [hv, Bool.not_true, Bool.or_self, Bool.false_eq_true, if_false] at h; rw [h.1]; rfl
def rawB : List C → Bool
 | [] => true
 | .raw _ :: l => rawB l
 | _ :: _ => false
theorem rawB_wn {l : List C} (h : rawB l = true) : wnR l = true := by
 induction l with
 | nil => rfl
 | cons c l ih =>
  cases c with
  | raw v => simpa [wnR, wnC] using ih h
  | _ => simp [rawB] at h
def rawS : SV → Bool
 | .box cs | .ov _ cs => rawB cs
 | _ => false
theorem rawS_wn {x : SV} (h : rawS x = true) : wnS x = true := by
 cases x <;> first | exact rawB_wn h | cases h
def smL (b : Bool) (vals : List RV) (x : SV) : List Prop := if (!b || (vals.all isPR && rawS x)) = true then [] else [(vals.all simpleR && wnS x) = true]
theorem smL_ok {b : Bool} {vals : List RV} {x : SV} (h : allP (smL b vals x)) : (!b || (vals.all simpleR && wnS x)) = true := by
 unfold smL at h
 cases b with
 | false => rfl
 | true =>
  cases hv : (vals.all isPR && rawS x) with
  | true =>
   simp only [Bool.and_eq_true] at hv
   rw [all_sm hv.1, rawS_wn hv.2]; rfl
  | false => simp only [hv, Bool.not_true, Bool.or_self, Bool.false_eq_true, if_false] at h; rw [h.1]; rfl
def PureAt (P : Program) (op : Op) (vals : List Value) (v : Value) : Prop :=
 ∀ (ρ : Operand → Value) (o : Oper), o.op = op → op.operands.toList.map ρ = vals → ∀ w, (execOp ρ o).run P w = .ok (.value v) w
def valOf : SV → Option Value
 | .p v => some v
 | _ => none
def valsOf (ev : Operand → SV) : List Operand → Option (List Value)
 | [] => some []
 | x :: l => match valOf (ev x), valsOf ev l with
  | some v, some vs => some (v :: vs)
  | _, _ => none
def xPure (P : Program) (ev : Operand → SV) (o : Oper) (h : HH) : Option (SV × List Prop) :=
 match h.pv, valsOf ev o.op.operands.toList with
 | some v, some vs => some (.p v, [PureAt P o.op vs v])
 | _, _ => none
theorem xPure_ok {ev : Operand → SV} {o : Oper} {h : HH} {y : SV} {obs : List Prop} {K : SV → Prop} (e : xPure P ev o h = some (y, obs)) (ho : allP obs) (hk : K y) : ∃ v, PureRun P ev o v ∧ K (.p v) := by
 unfold xPure at e
 split at e
 ·rename_i v vs h1 h2
  simp only [Option.some.injEq, Prod.mk.injEq] at e
  obtain ⟨rfl, rfl⟩ := e
  refine ⟨v, ⟨fun x => (valOf (ev x)).getD undef, ?_, ?_⟩, hk⟩
  ·have : ∀ (l : List Operand) (vs : List Value), valsOf ev l = some vs → (∀ x ∈ l, ev x = .p ((valOf (ev x)).getD undef)) := by
    intro l
    induction l with
    | nil => simp
    | cons x l ih =>
     intro vs hv y hy
     simp only [valsOf] at hv
     split at hv
     ·rename_i v' vs' h3 h4
      rcases List.mem_cons.1 hy with rfl | hy
      ·cases hx : ev y <;> simp_all [valOf]
      ·exact ih vs' h4 y hy
     ·cases hv
   intro x hx
   exact this _ _ h2 x (by simpa using hx)
  ·refine ho.1 _ o rfl ?_
   have : ∀ (l : List Operand) (vs : List Value), valsOf ev l = some vs → l.map (fun x => (valOf (ev x)).getD undef) = vs := by
    intro l
    induction l with
    | nil => intro vs hv; simpa [valsOf] using hv
    | cons x l ih =>
     intro vs hv
     simp only [valsOf] at hv
     split at hv
     ·rename_i v' vs' h3 h4
      simp only [Option.some.injEq] at hv
      subst hv
      simp [h3, ih _ h4]
     ·cases hv
   exact this _ _ h2
 ·cases e
def xInt (op : BinOp) (k : IntKind) (a b : Int) : Option (SV × List Prop) :=
 match op with
 | .add => some (.p (.int k (k.wrap (a + b))), [])
 | .sub => some (.p (.int k (k.wrap (a - b))), [])
 | .mul => some (.p (.int k (k.wrap (a * b))), [])
 | .quo => some (.p (.int k (k.wrap (a.tdiv b))), [b ≠ 0])
 | .rem => some (.p (.int k (a.tmod b)), [b ≠ 0])
 | .eql => some (.p (.bool (a == b)), [])
 | .neq => some (.p (.bool (a != b)), [])
 | .lss => some (.p (.bool (decide (a < b))), [])
 | .leq => some (.p (.bool (decide (a ≤ b))), [])
 | .gtr => some (.p (.bool (decide (a > b))), [])
 | .geq => some (.p (.bool (decide (a ≥ b))), [])
 | _ => none
theorem xInt_ok {op : BinOp} {k : IntKind} {a b : Int} {y : SV} {obs : List Prop} {K : SV → Prop} {F : Prop} (e : xInt op k a b = some (y, obs)) (ho : allP obs) (hk : K y) : intK op k a b F K := by
 cases op <;> simp only [xInt, Option.some.injEq, Prod.mk.injEq, reduceCtorEq] at e <;> obtain ⟨rfl, rfl⟩ := e <;> first | exact hk | exact ⟨ho.1, hk⟩
def xBool (P : Program) (op : BinOp) (t : TypeId) (a b : Bool) : Option (SV × List Prop) :=
 match op, P.underlying t with
 | .eql, some .bool => some (.p (.bool (a == b)), [])
 | .neq, some .bool => some (.p (.bool (!(a == b))), [])
 | _, _ => none
def xStr (op : BinOp) (a b : ByteArray) : Option (SV × List Prop) :=
 match op with
 | .eql => some (.p (.bool (a.toList == b.toList)), [])
 | .neq => some (.p (.bool (!(a.toList == b.toList))), [])
 | .add => some (.p (.string (a ++ b)), [a.size + b.size ≤ 1099511627776])
 | _ => none
def xErr (P : Program) (op : BinOp) (t : TypeId) (b : Bool) : Option (SV × List Prop) :=
 match op with
 | .eql => some (.p (.bool b), [P.underlying t = some (.interface (P.methodsAt t))])
 | .neq => some (.p (.bool (!b)), [P.underlying t = some (.interface (P.methodsAt t))])
 | _ => none
def xBin (P : Program) (op : BinOp) (t : TypeId) (x y : SV) (F : Option (SV × List Prop)) : Option (SV × List Prop) :=
 match x, y with
 | .p (.int k a), .p (.int k' b) => (match xInt op k a b with
  | some r => if k = k' then some r else F
  | none => F)
 | .p (.bool a), .p (.bool b) => xBool P op t a b
 | .p (.string a), .p (.string b) => (match xStr op a b with
  | some r => some r
  | none => F)
 | .d false [.er b], .p .nilIface => xErr P op t b
 | _, _ => F
theorem strK_F {op : BinOp} {a b : ByteArray} {K : SV → Prop} {F : Prop} (e : xStr op a b = none) (h : F) : strK op a b F K := by
 cases op <;> simp [xStr] at e <;> exact h
theorem xBin_ok {op : BinOp} {t : TypeId} {x y z : SV} {obs : List Prop} {K : SV → Prop} {Fo : Option (SV × List Prop)} {F : Prop} (hF : ∀ z obs, Fo = some (z, obs) → allP obs → K z → F)
  (e : xBin P op t x y Fo = some (z, obs)) (ho : allP obs) (hk : K z) : binK P op t x y F K := by
 unfold xBin at e
 split at e
 ·rename_i k a k' b
  split at e
  ·rename_i r hr
   split at e
   ·rename_i hkk
    cases e
    exact .inl ⟨hkk, xInt_ok hr ho hk⟩
   ·exact .inr (hF _ _ e ho hk)
  ·exact .inr (hF _ _ e ho hk)
 ·rename_i a b
  unfold xBool at e
  split at e
  ·rename_i hu
   simp only [Option.some.injEq, Prod.mk.injEq] at e
   obtain ⟨rfl, rfl⟩ := e
   exact ⟨hu, hk⟩
  ·rename_i hu
   simp only [Option.some.injEq, Prod.mk.injEq] at e
   obtain ⟨rfl, rfl⟩ := e
   exact ⟨hu, hk⟩
  ·cases e
 ·rename_i a b
  split at e
  ·rename_i r hr
   cases e
   cases op <;> simp only [xStr, Option.some.injEq, Prod.mk.injEq, reduceCtorEq] at hr <;> obtain ⟨rfl, rfl⟩ := hr <;> first | exact hk | exact ⟨ho.1, hk⟩
  ·rename_i hr
   exact strK_F hr (hF _ _ e ho hk)
 ·rename_i b
  cases op <;> simp only [xErr, Option.some.injEq, Prod.mk.injEq, reduceCtorEq] at e <;> obtain ⟨rfl, rfl⟩ := e <;> exact ⟨ho.1, hk⟩
 ·rename_i h1 h2 h3 h4
  have hf := hF _ _ e ho hk
  unfold binK
  split
  ·exact absurd rfl (h1 _ _ _ _ rfl)
  ·exact absurd rfl (h2 _ _ rfl)
  ·exact absurd rfl (h3 _ _ rfl)
  ·exact absurd rfl (h4 _ rfl)
  ·exact hf
def xRow (rows : List (List C)) (n : Int) (h : HH) : Option (List C × List Prop) := match h.row with
 | some row => some (row, [0 ≤ n, rows[n.toNat]? = some row])
 | none => none
def xDeref (rt : Nat → SV) (x : SV) (h : HH) : Option (Bool × List C × List Prop) :=
 match x, h.deep with
 | .ref r q none, some (c :: cs) => some (false, [c], [getRow (rows1 (rt r)) q = some (c :: cs)])
 | x, _ => match deref rt x with
  | some (g, cs) => some (g, cs, [])
  | none => none
theorem xDeref_ok {rt : Nat → SV} {x : SV} {h : HH} {g : Bool} {cs : List C} {obs : List Prop} (e : xDeref rt x h = some (g, cs, obs)) (ho : allP obs) : deref rt x = some (g, cs) := by
 unfold xDeref at e
 split at e
 ·rename_i r q c cs' h1
  simp only [Option.some.injEq, Prod.mk.injEq] at e
  obtain ⟨rfl, rfl, rfl⟩ := e
  simp [deref, ho.1]
 ·split at e
  ·rename_i g' cs' h1
   simp only [Option.some.injEq, Prod.mk.injEq] at e
   obtain ⟨rfl, rfl, rfl⟩ := e
   exact h1
  ·cases e
def xSl (rt : Nat → SV) (x : SV) (h : HH) : Option (Option TypeId × List (List C) × List Prop) := match xDeref rt x h with
 | some (false, [.sl o rows], obs) => some (o, rows, obs)
 | _ => none
theorem xSl_ok {rt : Nat → SV} {x : SV} {h : HH} {o : Option TypeId} {rows : List (List C)} {obs : List Prop} (e : xSl rt x h = some (o, rows, obs)) (ho : allP obs) : slOf rt x = some (o, rows) := by
 unfold xSl at e
 split at e
 ·rename_i o' rows' obs' h1
  simp only [Option.some.injEq, Prod.mk.injEq] at e
  obtain ⟨rfl, rfl, rfl⟩ := e
  simp [slOf, xDeref_ok h1 ho]
 ·cases e
def bytesTy (P : Program) (s d : TypeId) : Bool := match P.underlying s, P.underlying d with
 | some (.slice e), some .string => (match P.underlying e with
  | some (.int .u8) => true
  | _ => false)
 | _, _ => false
def xBytes (P : Program) (rt : Nat → SV) (s d : TypeId) (x : SV) (h : HH) (l : List UInt8) : Option (SV × List Prop) :=
 match bytesTy P s d, xSl rt x h with
 | true, some (_, rows, obs) => some (.p (.string ⟨l.toArray⟩), (l ≠ [] ∧ rows = l.map fun c => [.raw (.int .u8 (c.toNat : Int))]) :: obs)
 | _, _ => none
theorem xBytes_ok {rt : Nat → SV} {s d : TypeId} {x : SV} {h : HH} {l : List UInt8} {y : SV} {obs : List Prop} {K : SV → Prop} (e : xBytes P rt s d x h l = some (y, obs)) (ho : allP obs) (hk : K y) : bytesK P rt s d x K := by
 unfold xBytes at e
 split at e
 ·rename_i o rows obs' hT hS
  simp only [Option.some.injEq, Prod.mk.injEq] at e
  obtain ⟨rfl, rfl⟩ := e
  have h1 := xSl_ok hS ho.2
  obtain ⟨h2, h3⟩ := ho.1
  cases l with
  | nil => exact absurd rfl h2
  | cons b bs =>
   rw [h3] at h1
   unfold bytesTy at hT
   split at hT
   ·rename_i e1 hs hd
    split at hT
    ·rename_i he
     exact ⟨o, b, bs, e1, h1, hs, he, hd, hk⟩
    ·cases hT
   ·cases hT
 ·cases e
def xLoad (P : Program) (rt : Nat → SV) (t : TypeId) (x : SV) (h : HH) : Option (SV × List Prop) :=
 match tyC P t with
 | some (g, n) => if (g || n == 1) = true then (match x with
  | .fadr cs => if n ≤ cs.length then some (mkD g (cs.take n), []) else none
  | .addr r q => (match (match h.row with | some cs => some (cs, [getRow (rows1 (rt r)) q = some cs]) | none => (match getRow (rows1 (rt r)) q with | some cs => some (cs, []) | none => none)) with
   | some (cs, obs) => if n ≤ cs.length then (match raws (cs.take n) with
    | some vs => some (.p (mkV g vs), obs)
    | none => (match h.b with
     | some true => some (.d g (cs.take n), (frR (cs.take n) = true) :: obs)
     | _ => if nd (cs.take n) then some (.ref r q (if g then some n else none), (frR (cs.take n) = false) :: obs) else none)) else none
   | none => none)
  | _ => none) else none
 | none => none
theorem xLoad_ok {rt : Nat → SV} {t : TypeId} {x : SV} {h : HH} {y : SV} {obs : List Prop} {K : SV → Prop} (e : xLoad P rt t x h = some (y, obs)) (ho : allP obs) (hk : K y) : loadK P rt t x K := by
 unfold xLoad at e
 split at e
 ·rename_i g n hT
  split at e
  ·rename_i hg
   refine ⟨g, n, hT, fun hg' => by simpa [hg'] using hg, ?_⟩
   split at e
   ·rename_i cs
    split at e
    ·rename_i hn
     simp only [Option.some.injEq, Prod.mk.injEq] at e
     obtain ⟨rfl, rfl⟩ := e
     exact ⟨hn, hk⟩
    ·cases e
   ·rename_i r q
    split at e
    ·rename_i cs obs' hcs
     split at e
     ·rename_i hn
      have key : allP obs' → getRow (rows1 (rt r)) q = some cs := fun ha => by
       split at hcs
       ·simp only [Option.some.injEq, Prod.mk.injEq] at hcs
        obtain ⟨rfl, rfl⟩ := hcs
        exact ha.1
       ·split at hcs
        ·rename_i hcs2
         simp only [Option.some.injEq, Prod.mk.injEq] at hcs
         obtain ⟨rfl, rfl⟩ := hcs
         exact hcs2
        ·cases hcs
      split at e
      ·rename_i vs hvs
       simp only [Option.some.injEq, Prod.mk.injEq] at e
       obtain ⟨rfl, rfl⟩ := e
       exact ⟨cs, key ho, hn, by simpa [hvs] using hk⟩
      ·rename_i hvs
       split at e
       ·simp only [Option.some.injEq, Prod.mk.injEq] at e
        obtain ⟨rfl, rfl⟩ := e
        exact ⟨cs, key ho.2, hn, by simp [hvs, ho.1]; exact hk⟩
       ·split at e
        ·rename_i hnd
         simp only [Option.some.injEq, Prod.mk.injEq] at e
         obtain ⟨rfl, rfl⟩ := e
         refine ⟨cs, key ho.2, hn, ?_⟩
         simp only [hvs, ho.1, hnd, if_true]
         exact hk
        ·cases e
     ·cases e
    ·cases e
   ·cases e
  ·cases e
 ·cases e
def xIdx (P : Program) (rt : Nat → SV) (t : TypeId) (x i : SV) (h : HH) : Option (SV × List Prop) :=
 match i, slE P t, xSl rt x h with
 | .p (.int _ n), some (_, sz), some (o, rows, obs) => (match h.row with
  | some row => if row.length = sz then (match o, x with
   | none, _ => some (.fadr row, (0 ≤ n) :: (rows[n.toNat]? = some row) :: obs)
   | some _, .ref r q none => some (.addr r (q ++ [(n.toNat, 0)]), (0 ≤ n) :: (rows[n.toNat]? = some row) :: obs)
   | _, _ => none) else none
  | none => none)
 | _, _, _ => none
theorem xIdx_ok {rt : Nat → SV} {t : TypeId} {x i : SV} {h : HH} {y : SV} {obs : List Prop} {K : SV → Prop} (e : xIdx P rt t x i h = some (y, obs)) (ho : allP obs) (hk : K y) : idxK P rt t x i K := by
 unfold xIdx at e
 split at e
 ·rename_i k n e' sz o rows obs' hE hS
  split at e
  ·rename_i row hrow
   split at e
   ·rename_i hsz
    split at e
    ·simp only [Option.some.injEq, Prod.mk.injEq] at e
     obtain ⟨rfl, rfl⟩ := e
     exact ⟨ho.1, e', sz, none, rows, row, hE, xSl_ok hS ho.2.2, ho.2.1, hsz, hk⟩
    ·simp only [Option.some.injEq, Prod.mk.injEq] at e
     obtain ⟨rfl, rfl⟩ := e
     exact ⟨ho.1, e', sz, _, rows, row, hE, xSl_ok hS ho.2.2, ho.2.1, hsz, hk⟩
    ·cases e
   ·cases e
  ·cases e
 ·cases e
def xLen (P : Program) (rt : Nat → SV) (t : TypeId) (x : SV) (h : HH) : Option (SV × List Prop) :=
 match x with
 | .p (.string s) => (match P.underlying t with
  | some .string => some (.p (.int .i64 s.size), [])
  | _ => none)
 | x => match xSl rt x h, slE P t with
  | some (_, rows, obs), some _ => (match h.n with
   | some m => some (.p (.int .i64 m), (rows.length = m) :: obs)
   | none => some (.p (.int .i64 rows.length), obs))
  | _, _ => none
theorem xLen_ok {rt : Nat → SV} {t : TypeId} {x : SV} {h : HH} {y : SV} {obs : List Prop} {K : SV → Prop} (e : xLen P rt t x h = some (y, obs)) (ho : allP obs) (hk : K y) : lenK P rt t x K := by
 unfold xLen at e
 split at e
 ·split at e
  ·rename_i hu
   simp only [Option.some.injEq, Prod.mk.injEq] at e
   obtain ⟨rfl, rfl⟩ := e
   exact ⟨hu, hk⟩
  ·cases e
 ·rename_i hx
  unfold lenK
  split
  ·exact absurd rfl (hx _)
  ·split at e
   ·rename_i o rows obs' z hS hE
    split at e
    ·simp only [Option.some.injEq, Prod.mk.injEq] at e
     obtain ⟨rfl, rfl⟩ := e
     refine ⟨o, rows, xSl_ok hS ho.2, by simp [hE], ?_⟩
     rw [ho.1]; exact hk
    ·simp only [Option.some.injEq, Prod.mk.injEq] at e
     obtain ⟨rfl, rfl⟩ := e
     exact ⟨o, rows, xSl_ok hS ho, by simp [hE], hk⟩
   ·cases e
end Go.PV

/-
 A walk over pure values: whole operations reckoned.
 Conditions: none.
-/
namespace Go.PV
variable {P : Program} {N : Nat}
def xIntOf : SV → Option Int
 | .p (.int .i64 n) => some n
 | _ => none
def xAny : SV → Option Int
 | .p (.int _ n) => some n
 | _ => none
def xBnd (ev : Operand → SV) (x : Option Operand) (dflt : Nat) : Option (Nat × List Prop) := match x with
 | none => some (dflt, [])
 | some y => match xAny (ev y) with
  | some n => some (n.toNat, [0 ≤ n])
  | none => none
theorem xBnd_ok {ev : Operand → SV} {x : Option Operand} {dflt l : Nat} {obs : List Prop} (e : xBnd ev x dflt = some (l, obs)) (ho : allP obs) : sOp.bnd ev x dflt = some (l : Int) := by
 unfold xBnd at e
 split at e
 ·simp only [Option.some.injEq, Prod.mk.injEq] at e
  obtain ⟨rfl, rfl⟩ := e
  rfl
 ·split at e
  ·rename_i y n hn
   simp only [Option.some.injEq, Prod.mk.injEq] at e
   obtain ⟨rfl, rfl⟩ := e
   unfold xAny at hn
   split at hn
   ·rename_i hy
    simp only [Option.some.injEq] at hn
    subst hn
    simp only [sOp.bnd, hy]
    rw [Int.toNat_of_nonneg ho.1]
   ·cases hn
  ·cases e
def xMk (P : Program) (e : TypeId) : Bool := decide (((P.info? e).map (·.bytes)).getD 0 ≤ 128)
def pick2 (t : Bool) (x y : SV) : SV := if t then x else y
def xS (P : Program) (ev : Operand → SV) (rt : Nat → SV) (o : Oper) (h : HH) : Option (SV × List Prop) :=
 match o.op with
 | .move x => if noTup (ev x) then some (ev x, []) else none
 | .pick c a b => (match ev c, h.b with
  | .p (.bool t), some t0 => if noTup (pick2 t0 (ev a) (ev b)) = true then some (pick2 t0 (ev a) (ev b), [t = t0]) else none
  | _, _ => none)
 | .binOp op t x y _ => xBin P op t (ev x) (evN ev y) (xPure P ev o h)
 | .unOp .neg _ x => (match ev x with
  | .p (.int k n) => some (.p (.int k (k.wrap (0 - n))), [])
  | _ => none)
 | .unOp .not _ x => (match ev x with
  | .p (.bool b) => some (.p (.bool (!b)), [])
  | _ => none)
 | .convert s d x => (match h.bts with
  | some l => xBytes P rt s d (ev x) h l
  | none => xPure P ev o h)
 | .load t a => xLoad P rt t (ev a) h
 | .fieldAddr t a k => (match fldO P t k, ev a with
  | some off, .fadr cs => some (.fadr (cs.drop off), [])
  | some off, .addr r q => some (.addr r (bumpP q off), [])
  | _, _ => none)
 | .nilCheck x => (match ev x with
  | .fadr cs => some (.fadr cs, [])
  | .addr r q => some (.addr r q, [])
  | _ => none)
 | .indexAddr t x i => xIdx P rt t (ev x) (ev i) h
 | .extract x k => (match ev x with
  | .tup l => (match l[k]? with
   | some y => if isDR y then some (y, []) else none
   | none => none)
  | _ => none)
 | .alloc t => (match zeroC P t with
  | some cs => some (.box (bpz t cs), [])
  | none => none)
 | .makeSlice t l c => (match xIntOf (ev l), xIntOf (ev c), slE P t with
  | some n, some n', some (e, _) => (match zeroC P e with
   | some z => if xMk P e then some (.ov false [.sl (some e) (List.replicate n.toNat z)], [n' = n, 0 ≤ n, n ≤ 1099511627776]) else none
   | none => none)
  | _, _, _ => none)
 | .buildSlice t n parts => (match slE P t with
  | some (e, sz) => (match sOp.partsOf ev sz parts.toList 0 with
   | some rows => if parts.size = n ∧ n ≤ 65536 ∧ sz ≤ 16 ∧ (P.info? e).any (·.zero.isSome) = true then some (.ov false [.sl (some e) rows], []) else none
   | none => none)
  | none => none)
 | .slice t x lo hi none => (match ev x with
  | .d false [.sl none rows] => (match slE P t, xBnd ev lo 0, xBnd ev hi rows.length with
   | some (_, sz), some (l, o1), some (hh, o2) => some (.d false [.sl none ((rows.take hh).drop l)], (l ≤ hh) :: (hh ≤ rows.length) :: (∀ row ∈ rows, row.length = sz) :: (o1 ++ o2))
   | _, _, _ => none)
  | _ => xPure P ev o h)
 | .call c => (match c.callee with
  | .builtin .len => (match c.args.toList, c.argTypes.toList with
   | [x], [t] => xLen P rt t (ev x) h
   | _, _ => none)
  | .builtin .min => (match c.args.toList with
   | [x, y] => (match ev x, ev y with
    | .p (.int k a), .p (.int k' b) => if k = k' then some (.p (.int k (if b < a then b else a)), []) else none
    | _, _ => none)
   | _ => none)
  | .builtin .max => (match c.args.toList with
   | [x, y] => (match ev x, ev y with
    | .p (.int k a), .p (.int k' b) => if k = k' then some (.p (.int k (if a < b then b else a)), []) else none
    | _, _ => none)
   | _ => none)
  | .value fn => (match sOp.fnOf (ev fn), toArgs rt (c.args.toList.map ev), h.call with
   | some (f, caps), some as0, some (axs, vals, true) => if sOp.noPtr as0 then some (resSV vals, asP as0 axs ++ (Meets P f (asO as0 axs ++ caps) { vals := vals } :: smP true vals)) else none
   | _, _, _ => none)
  | _ => none)
 | .build t parts => (match sOp.buildC P ev t parts.toList with
  | some cs => some (mkD true cs, [])
  | none => none)
 | .makeFunc (.func f) first caps => if first.size = 0 then (match sOp.capsOf (caps.toList.map ev) with
  | some axs => some (.d false [.fn f axs], [])
  | none => none) else none
 | .field t x k => (match ev x with
  | .ref r [(0, 0)] (some 1) => if (isRoot (rt r) && !isBox (rt r) && fieldOne P t k) = true then some (.ref r [(0, 0)] none, []) else none
  | _ => xPure P ev o h)
 | .index .. => xPure P ev o h
 | _ => none
theorem toList_one {α : Type} {a : Array α} {x : α} (h : a.toList = [x]) : a = #[x] := by
 cases a; simp_all
theorem xS_ok {ev : Operand → SV} {rt : Nat → SV} {o : Oper} {h : HH} {y : SV} {obs : List Prop} {K : SV → Prop} (e : xS P ev rt o h = some (y, obs)) (ho : allP obs) (hk : K y) : sOp P ev rt o K := by
 unfold xS at e
 split at e
 ·rename_i x hop
  split at e
  ·rename_i hn
   simp only [Option.some.injEq, Prod.mk.injEq] at e
   obtain ⟨rfl, rfl⟩ := e
   simp only [sOp, hop]; exact ⟨hn, hk⟩
  ·cases e
 ·rename_i c a b hop
  split at e
  ·rename_i t t0 h1 h2
   split at e
   ·rename_i hn
    simp only [Option.some.injEq, Prod.mk.injEq] at e
    obtain ⟨rfl, rfl⟩ := e
    obtain rfl := ho.1
    simp only [sOp, hop]; exact ⟨t, h1, hn, hk⟩
   ·cases e
  ·cases e
 ·rename_i op t x z t2 hop
  simp only [sOp, hop]
  exact xBin_ok (fun z obs h1 h2 h3 => xPure_ok h1 h2 h3) e ho hk
 ·rename_i t x hop
  split at e
  ·rename_i k n hx
   simp only [Option.some.injEq, Prod.mk.injEq] at e
   obtain ⟨rfl, rfl⟩ := e
   simp only [sOp, hop]; exact ⟨k, n, hx, hk⟩
  ·cases e
 ·rename_i t x hop
  split at e
  ·rename_i b hx
   simp only [Option.some.injEq, Prod.mk.injEq] at e
   obtain ⟨rfl, rfl⟩ := e
   simp only [sOp, hop]; exact ⟨b, hx, hk⟩
  ·cases e
 ·rename_i s d x hop
  simp only [sOp, hop]
  split at e
  ·exact .inr (xBytes_ok e ho hk)
  ·exact .inl (xPure_ok e ho hk)
 ·rename_i t a hop
  simp only [sOp, hop]
  exact xLoad_ok e ho hk
 ·rename_i t a k hop
  simp only [sOp, hop]
  split at e
  ·rename_i off cs h1 h2
   simp only [Option.some.injEq, Prod.mk.injEq] at e
   obtain ⟨rfl, rfl⟩ := e
   exact ⟨off, h1, by rw [h2]; exact hk⟩
  ·rename_i off r q h1 h2
   simp only [Option.some.injEq, Prod.mk.injEq] at e
   obtain ⟨rfl, rfl⟩ := e
   exact ⟨off, h1, by rw [h2]; exact hk⟩
  ·cases e
 ·rename_i x hop
  simp only [sOp, hop]
  split at e
  ·rename_i cs hx
   simp only [Option.some.injEq, Prod.mk.injEq] at e
   obtain ⟨rfl, rfl⟩ := e
   rw [hx]; exact hk
  ·rename_i r q hx
   simp only [Option.some.injEq, Prod.mk.injEq] at e
   obtain ⟨rfl, rfl⟩ := e
   rw [hx]; exact hk
  ·cases e
 ·rename_i t x i hop
  simp only [sOp, hop]
  exact xIdx_ok e ho hk
 ·rename_i x k hop
  simp only [sOp, hop]
  split at e
  ·rename_i l hl
   split at e
   ·rename_i z hz
    split at e
    ·rename_i hd
     simp only [Option.some.injEq, Prod.mk.injEq] at e
     obtain ⟨rfl, rfl⟩ := e
     exact ⟨l, z, hl, hz, hd, hk⟩
    ·cases e
   ·cases e
  ·cases e
 ·rename_i t hop
  simp only [sOp, hop]
  split at e
  ·rename_i cs hcs
   simp only [Option.some.injEq, Prod.mk.injEq] at e
   obtain ⟨rfl, rfl⟩ := e
   exact ⟨cs, hcs, hk⟩
  ·cases e
 ·rename_i t l c hop
  simp only [sOp, hop]
  split at e
  ·rename_i n n' e' sz h1 h2 hE
   split at e
   ·rename_i z hz
    split at e
    ·rename_i hm
     simp only [Option.some.injEq, Prod.mk.injEq] at e
     obtain ⟨rfl, rfl⟩ := e
     obtain ⟨h3, h4, h5, _⟩ := ho
     subst h3
     have hn : ∀ {x : SV}, xIntOf x = some n' → x = .p (.int .i64 ((n'.toNat : Nat) : Int)) := fun {x} hx => by
      unfold xIntOf at hx
      split at hx
      ·simp only [Option.some.injEq] at hx
       subst hx
       rw [Int.toNat_of_nonneg h4]
      ·cases hx
     exact ⟨n'.toNat, hn h1, hn h2, by omega, e', sz, hE, z, hz, by simpa [xMk] using hm, hk⟩
    ·cases e
   ·cases e
  ·cases e
 ·rename_i t n parts hop
  simp only [sOp, hop]
  split at e
  ·rename_i e' sz hE
   split at e
   ·rename_i rows hr
    split at e
    ·rename_i hc
     simp only [Option.some.injEq, Prod.mk.injEq] at e
     obtain ⟨rfl, rfl⟩ := e
     exact ⟨e', sz, hE, rows, hc.1, hc.2.1, hc.2.2.1, hc.2.2.2, hr, hk⟩
    ·cases e
   ·cases e
  ·cases e
 ·rename_i t x lo hi hop
  simp only [sOp, hop]
  split at e
  ·rename_i rows hx
   rw [hx]
   split at e
   ·rename_i e' sz l o1 hh o2 hE h1 h2
    simp only [Option.some.injEq, Prod.mk.injEq] at e
    obtain ⟨rfl, rfl⟩ := e
    obtain ⟨h3, h4, h5, h6⟩ := ho
    rw [allP_append] at h6
    exact ⟨e', sz, hE, l, hh, xBnd_ok h1 h6.1, xBnd_ok h2 h6.2, h3, h4, h5, hk⟩
   ·cases e
  ·rename_i hx
   split
   ·exact absurd (by assumption) (hx _)
   ·exact xPure_ok e ho hk
 ·rename_i c hop
  simp only [sOp, hop]
  split at e
  ·rename_i hc
   simp only [hc]
   split at e
   ·rename_i x t ha ht
    exact ⟨x, t, toList_one ha, toList_one ht, xLen_ok e ho hk⟩
   ·cases e
  ·rename_i hc
   simp only [hc]
   split at e
   ·rename_i x z ha
    split at e
    ·rename_i k a k' b h1 h2
     split at e
     ·rename_i hkk
      subst hkk
      simp only [Option.some.injEq, Prod.mk.injEq] at e
      obtain ⟨rfl, rfl⟩ := e
      exact ⟨x, z, k, a, b, ha, h1, h2, hk⟩
     ·cases e
    ·cases e
   ·cases e
  ·rename_i hc
   simp only [hc]
   split at e
   ·rename_i x z ha
    split at e
    ·rename_i k a k' b h1 h2
     split at e
     ·rename_i hkk
      subst hkk
      simp only [Option.some.injEq, Prod.mk.injEq] at e
      obtain ⟨rfl, rfl⟩ := e
      exact ⟨x, z, k, a, b, ha, h1, h2, hk⟩
     ·cases e
    ·cases e
   ·cases e
  ·rename_i fn hc
   simp only [hc]
   split at e
   ·rename_i f caps as0 axs vals h1 h2 h3
    split at e
    ·rename_i hp
     simp only [Option.some.injEq, Prod.mk.injEq] at e
     obtain ⟨rfl, rfl⟩ := e
     obtain ⟨h4, h5, h6⟩ := allP_append.1 ho
     rw [as_ok h4] at h5
     exact ⟨f, caps, as0, { vals := vals }, h1, h2, hp, h5, rfl, by simpa using sm_ok h6, hk⟩
    ·cases e
   ·cases e
  ·cases e
 ·rename_i t parts hop
  simp only [sOp, hop]
  split at e
  ·rename_i cs hcs
   simp only [Option.some.injEq, Prod.mk.injEq] at e
   obtain ⟨rfl, rfl⟩ := e
   exact ⟨cs, hcs, hk⟩
  ·cases e
 ·rename_i f first caps hop
  simp only [sOp, hop]
  split at e
  ·rename_i h0
   split at e
   ·rename_i axs has
    simp only [Option.some.injEq, Prod.mk.injEq] at e
    obtain ⟨rfl, rfl⟩ := e
    exact ⟨h0, axs, has, hk⟩
   ·cases e
  ·cases e
 ·rename_i t x k hop
  simp only [sOp, hop]
  split at e
  ·rename_i r hx
   split at e
   ·rename_i hb
    simp only [Option.some.injEq, Prod.mk.injEq] at e
    obtain ⟨rfl, rfl⟩ := e
    simp only [Bool.and_eq_true, Bool.not_eq_true'] at hb
    exact .inr ⟨r, hx, hb.1.1, hb.1.2, hb.2, hk⟩
   ·cases e
  ·exact .inl (xPure_ok e ho hk)
 ·rename_i hop
  simp only [sOp, hop]
  exact xPure_ok e ho hk
 ·cases e
end Go.PV

/-
 A walk over pure values: operations that act, reckoned; regions.
 Conditions: none.
-/
namespace Go.PV
variable {P : Program} {N : Nat}
def nWant (g : Bool) (cs : List C) : Option Nat := if g then some cs.length else none
def xAsg (P : Program) (σ : St) (o : Oper) (d : Nat) (x : Operand) (h : HH) : Option (St × List Prop) :=
 match x with
 | .const (.slice none 0 0) => (match slE P o.type with
  | some (e, _) => some (put σ d (.ov false [.sl (some e) []]), [])
  | none => none)
 | .const v => some (put σ d (.p v), [])
 | .func f => some (put σ d (.p (.func (.func f) #[] #[])), [])
 | .global _ => none
 | .tmp t => (match σ t with
  | .ov _ _ => if t = d then none else some (trans σ t d, [])
  | .box _ => if t = d then none else some (put σ d (.addr t [(0, 0)]), [])
  | .ref r q n => if r = d then (if q = [(0, 0)] ∧ n = none then (match σ r with
     | .ov false [_] => some (σ, [])
     | _ => none) else none)
    else if q = [(0, 0)] then (match σ r with
     | .ov g cs => if n = nWant g cs then some (trans σ r d, []) else none
     | .d g cs => if n = nWant g cs then some (put σ d (.d g cs), []) else none
     | _ => none)
    else (match h.deep, n with
     | some (c :: cs), none => some (put (gone σ r) d (.ov false [c]), [getRow (rows1 (σ r)) q = some (c :: cs)])
     | none, n => some (put σ d (.ref r q n), [])
     | _, _ => none)
  | .tup _ => none
  | .addr r q => if r = d then none else some (put σ d (.addr r q), [])
  | y => some (put σ d y, []))
theorem xAsg_ok {σ σ' : St} {o : Oper} {d : Nat} {x : Operand} {h : HH} {obs : List Prop} {K : St → Prop} (e : xAsg P σ o d x h = some (σ', obs)) (ho : allP obs) (hk : K σ') : asgK P σ o d x K := by
 unfold xAsg at e
 split at e
 ·split at e
  ·rename_i e' sz hE
   simp only [Option.some.injEq, Prod.mk.injEq] at e
   obtain ⟨rfl, rfl⟩ := e
   exact ⟨e', sz, hE, hk⟩
  ·cases e
 ·rename_i v hv
  simp only [Option.some.injEq, Prod.mk.injEq] at e
  obtain ⟨rfl, rfl⟩ := e
  unfold asgK
  split
  ·rename_i heq
   simp only [Operand.const.injEq] at heq
   exact absurd heq (hv)
  ·rename_i v' _ heq
   cases heq
   exact hk
  ·rename_i heq; cases heq
  ·rename_i heq; cases heq
  ·rename_i heq; cases heq
 ·simp only [Option.some.injEq, Prod.mk.injEq] at e
  obtain ⟨rfl, rfl⟩ := e
  exact hk
 ·cases e
 ·rename_i t
  simp only [asgK]
  split at e
  ·rename_i g cs ht
   split at e
   ·cases e
   ·rename_i hne
    simp only [Option.some.injEq, Prod.mk.injEq] at e
    obtain ⟨rfl, rfl⟩ := e
    simp only [ht]; exact ⟨hne, hk⟩
  ·rename_i cs ht
   split at e
   ·cases e
   ·rename_i hne
    simp only [Option.some.injEq, Prod.mk.injEq] at e
    obtain ⟨rfl, rfl⟩ := e
    simp only [ht]; exact ⟨hne, hk⟩
  ·rename_i r q n ht
   simp only [ht]
   split at e
   ·rename_i hr
    rw [if_pos hr]
    split at e
    ·rename_i hq
     split at e
     ·rename_i c hσ
      simp only [Option.some.injEq, Prod.mk.injEq] at e
      obtain ⟨rfl, rfl⟩ := e
      simp only [hσ]; exact ⟨hq.1, hq.2, trivial, hk⟩
     ·cases e
    ·cases e
   ·rename_i hr
    rw [if_neg hr]
    split at e
    ·rename_i hq
     rw [if_pos hq]
     split at e
     ·rename_i g cs hσ
      split at e
      ·rename_i hn
       simp only [Option.some.injEq, Prod.mk.injEq] at e
       obtain ⟨rfl, rfl⟩ := e
       simp only [hσ]; exact ⟨hn, hk⟩
      ·cases e
     ·rename_i g cs hσ
      split at e
      ·rename_i hn
       simp only [Option.some.injEq, Prod.mk.injEq] at e
       obtain ⟨rfl, rfl⟩ := e
       simp only [hσ]; exact ⟨hn, hk⟩
      ·cases e
     ·cases e
    ·rename_i hq
     rw [if_neg hq]
     split at e
     ·rename_i c cs hdp
      simp only [Option.some.injEq, Prod.mk.injEq] at e
      obtain ⟨rfl, rfl⟩ := e
      exact .inr ⟨c, cs, rfl, ho.1, hk⟩
     ·simp only [Option.some.injEq, Prod.mk.injEq] at e
      obtain ⟨rfl, rfl⟩ := e
      exact .inl hk
     ·cases e
  ·cases e
  ·rename_i r q ht
   split at e
   ·cases e
   ·rename_i hne
    simp only [Option.some.injEq, Prod.mk.injEq] at e
    obtain ⟨rfl, rfl⟩ := e
    simp only [ht]; exact ⟨hne, hk⟩
  ·rename_i h1 h2 h3 h4 h5
   simp only [Option.some.injEq, Prod.mk.injEq] at e
   obtain ⟨rfl, rfl⟩ := e
   split
   ·exact absurd (by assumption) (h1 _ _)
   ·exact absurd (by assumption) (h2 _)
   ·exact absurd (by assumption) (h3 _ _ _)
   ·exact absurd (by assumption) (h4 _)
   ·exact absurd (by assumption) (h5 _ _)
   ·exact hk
def xOld (σ : St) (r : Nat) (q : Path) (h : HH) : Option (List C × List Prop) := match h.row with
 | some cs => some (cs, [getRow (rows1 (σ r)) q = some cs])
 | none => match getRow (rows1 (σ r)) q with
  | some cs => some (cs, [])
  | none => none
theorem xOld_ok {σ : St} {r : Nat} {q : Path} {h : HH} {cs : List C} {obs : List Prop} (e : xOld σ r q h = some (cs, obs)) (ho : allP obs) : getRow (rows1 (σ r)) q = some cs := by
 unfold xOld at e
 split at e
 ·simp only [Option.some.injEq, Prod.mk.injEq] at e
  obtain ⟨rfl, rfl⟩ := e
  exact ho.1
 ·split at e
  ·rename_i h2
   simp only [Option.some.injEq, Prod.mk.injEq] at e
   obtain ⟨rfl, rfl⟩ := e
   exact h2
  ·cases e
def xStore (P : Program) (σ : St) (o : Oper) (t : TypeId) (a x : SV) (h : HH) : Option (St × List Prop) :=
 match o.dst, tyC P t, a, mvCells σ x with
 | none, some (_, n), .addr r q, some (cs, mv) => (match xOld σ r q h with
  | some (old, obs) => if 0 < n ∧ isOwnR (σ r) = true ∧ n ≤ old.length ∧ cs.length = n ∧ nb cs = true ∧ mv ≠ some r then
    (if ((raws (old.take n)).isSome && (raws cs).isSome) = true then some (stScal σ r q cs, obs) else some (stStruct (goneO σ mv) r q cs, obs)) else none
  | none => none)
 | _, _, _, _ => none
theorem xStore_ok {σ σ' : St} {o : Oper} {t : TypeId} {a x : SV} {h : HH} {obs : List Prop} {K : St → Prop} (e : xStore P σ o t a x h = some (σ', obs)) (ho : allP obs) (hk : K σ') : stK P σ o t a x K := by
 unfold xStore at e
 split at e
 ·rename_i g n r q cs mv hd hT hm
  split at e
  ·rename_i old obs' hold
   split at e
   ·rename_i hc
    obtain ⟨h1, h2, h3, h4, hnb, h5⟩ := hc
    split at e
    ·rename_i hb
     simp only [Option.some.injEq, Prod.mk.injEq] at e
     obtain ⟨rfl, rfl⟩ := e
     exact ⟨hd, g, n, r, q, old, cs, mv, hT, h1, h2, rfl, xOld_ok hold ho, h3, hm, h4, hnb, h5, by rw [if_pos hb]; exact hk⟩
    ·rename_i hb
     simp only [Option.some.injEq, Prod.mk.injEq] at e
     obtain ⟨rfl, rfl⟩ := e
     exact ⟨hd, g, n, r, q, old, cs, mv, hT, h1, h2, rfl, xOld_ok hold ho, h3, hm, h4, hnb, h5, by rw [if_neg hb]; exact hk⟩
   ·cases e
  ·cases e
 ·cases e
def xStoreN (P : Program) (σ : St) (o : Oper) (t : TypeId) (a : SV) (e : TypeId) (h : HH) : Option (St × List Prop) :=
 match o.dst, tyC P t, a with
 | none, some (_, 1), .addr r q => (match xOld σ r q h with
  | some (old, obs) => if isOwnR (σ r) = true ∧ 1 ≤ old.length then some (stStruct σ r q [.sl (some e) []], obs) else none
  | none => none)
 | _, _, _ => none
theorem xStoreN_ok {σ σ' : St} {o : Oper} {t e : TypeId} {a : SV} {h : HH} {obs : List Prop} {K : St → Prop} (e' : xStoreN P σ o t a e h = some (σ', obs)) (ho : allP obs) (hk : K σ') : stKc P σ o t a [.sl (some e) []] none K := by
 unfold xStoreN at e'
 split at e'
 ·rename_i g r q hd hT
  split at e'
  ·rename_i old obs' hold
   split at e'
   ·rename_i hc
    simp only [Option.some.injEq, Prod.mk.injEq] at e'
    obtain ⟨rfl, rfl⟩ := e'
    exact ⟨hd, g, 1, r, q, old, hT, by omega, hc.1, rfl, xOld_ok hold ho, hc.2, rfl, rfl, by simp, by simpa [raws, goneO] using hk⟩
   ·cases e'
  ·cases e'
 ·cases e'
def xAdd (σ : St) (x : SV) (h : HH) : Option (List (List C) × Option Nat × List Prop) := match xSl σ x h with
 | some (none, rows, obs) => some (rows, none, obs)
 | some (some _, rows, obs) => (match x with
  | .ref r [(0, 0)] none => (match σ r with
   | .ov false [.sl (some _) _] => some (rows, some r, obs)
   | _ => none)
  | _ => none)
 | none => none
theorem xAdd_ok {σ : St} {x : SV} {h : HH} {rows : List (List C)} {mv : Option Nat} {obs : List Prop} (e : xAdd σ x h = some (rows, mv, obs)) (ho : allP obs) : addRows σ x = some (rows, mv) := by
 unfold xAdd at e
 split at e
 ·rename_i rows' obs' h1
  simp only [Option.some.injEq, Prod.mk.injEq] at e
  obtain ⟨rfl, rfl, rfl⟩ := e
  simp [addRows, xSl_ok h1 ho]
 ·rename_i t rows' obs' h1
  split at e
  ·rename_i r
   split at e
   ·rename_i t' rows2 h2
    simp only [Option.some.injEq, Prod.mk.injEq] at e
    obtain ⟨rfl, rfl, rfl⟩ := e
    simp [addRows, xSl_ok h1 ho, h2]
   ·cases e
  ·cases e
 ·cases e
def xApp (P : Program) (σ : St) (o : Oper) (t : TypeId) (s x : SV) (h : HH) : Option (St × List Prop) :=
 match slE P t, xAdd σ x h with
 | some (e, sz), some (rows2, mv, obs) => if apE P e = true then (match s with
  | .d false [.sl none []] => some (putO o.dst (.ov false [.sl (some e) rows2]) (goneO σ mv), (rows2.length ≤ 1099511627776) :: (∀ row ∈ rows2, row.length = sz) :: obs)
  | .ref r [(0, 0)] none => if mv = some r then none else (match σ r with
   | .ov false [.sl (some e') rows] => if e' = e then some (putO o.dst (.ov false [.sl (some e) (rows ++ rows2)]) (gone (goneO σ mv) r), (rows.length + rows2.length ≤ 1099511627776) :: (∀ row ∈ rows2, row.length = sz) :: obs) else none
   | _ => none)
  | _ => none) else none
 | _, _ => none
theorem xApp_ok {σ σ' : St} {o : Oper} {t : TypeId} {s x : SV} {h : HH} {obs : List Prop} {K : St → Prop} (e : xApp P σ o t s x h = some (σ', obs)) (ho : allP obs) (hk : K σ') : apK P σ o t s x K := by
 unfold xApp at e
 split at e
 ·rename_i e' sz rows2 mv obs' hE hA
  split at e
  ·rename_i hap
   split at e
   ·simp only [Option.some.injEq, Prod.mk.injEq] at e
    obtain ⟨rfl, rfl⟩ := e
    exact ⟨e', sz, rows2, mv, hE, hap, xAdd_ok hA ho.2.2, ho.2.1, ho.1, hk⟩
   ·rename_i r
    split at e
    ·cases e
    ·rename_i hmv
     split at e
     ·rename_i e2 rows hσ
      split at e
      ·rename_i he
       simp only [Option.some.injEq, Prod.mk.injEq] at e
       obtain ⟨rfl, rfl⟩ := e
       refine ⟨e', sz, rows2, mv, hE, hap, xAdd_ok hA ho.2.2, ho.2.1, hmv, ?_⟩
       simp only [hσ]
       exact ⟨he, ho.1, hk⟩
      ·cases e
     ·cases e
   ·cases e
  ·cases e
 ·cases e
def xAps (P : Program) (σ : St) (o : Oper) (t t' : TypeId) (s x : SV) : Option (St × List Prop) :=
 match slE P t, P.underlying t', s, x with
 | some (e, 1), some .string, .ref r [(0, 0)] none, .p (.string b) => if apE P e = true then (match σ r with
  | .ov false [.sl (some e') rows] => if e' = e then some (putO o.dst (.ov false [.sl (some e) (rows ++ bytesR b)]) (gone σ r), [rows.length + b.size ≤ 1099511627776]) else none
  | _ => none) else none
 | _, _, _, _ => none
theorem xAps_ok {σ σ' : St} {o : Oper} {t t' : TypeId} {s x : SV} {obs : List Prop} {K : St → Prop} (e : xAps P σ o t t' s x = some (σ', obs)) (ho : allP obs) (hk : K σ') : ∃ b, P.underlying t' = some .string ∧ x = .p (.string b) ∧ apsK P σ o t s b K := by
 unfold xAps at e
 split at e
 ·rename_i e' r b hE hu
  split at e
  ·rename_i hap
   split at e
   ·rename_i e2 rows hσ
    split at e
    ·rename_i he
     simp only [Option.some.injEq, Prod.mk.injEq] at e
     obtain ⟨rfl, rfl⟩ := e
     subst he
     exact ⟨b, hu, rfl, _, r, rows, hE, hap, rfl, hσ, ho.1, hk⟩
    ·cases e
   ·cases e
  ·cases e
 ·cases e
def xArg (σ : St) (d : Option (List C)) (x : SV) : Option (Arg × List Prop) := match x, d with
 | .ref r (p :: p2 :: q) none, some (c :: cs) => some (mkA false (eraR [c]), [getRow (rows1 (σ r)) (p :: p2 :: q) = some (c :: cs)])
 | x, _ => (match toArg σ x with
  | some a => some (a, [])
  | none => none)
theorem xArg_ok {σ : St} {d : Option (List C)} {x : SV} {a : Arg} {obs : List Prop} (e : xArg σ d x = some (a, obs)) (ho : allP obs) : toArg σ x = some a := by
 unfold xArg at e
 split at e
 ·rename_i r p p2 q c cs
  simp only [Option.some.injEq, Prod.mk.injEq] at e
  obtain ⟨rfl, rfl⟩ := e
  simp only [toArg, deref, ho.1]
 ·split at e
  ·simp only [Option.some.injEq, Prod.mk.injEq] at e
   obtain ⟨rfl, _⟩ := e
   assumption
  ·cases e
def xArgs (σ : St) (d : Option (List C)) : List SV → Option (List Arg × List Prop)
 | [] => some ([], [])
 | x :: l => match xArg σ d x, xArgs σ d l with
  | some (a, o), some (axs, os) => some (a :: axs, o ++ os)
  | _, _ => none
theorem xArgs_ok {σ : St} {d : Option (List C)} : ∀ {l : List SV} {axs : List Arg} {obs : List Prop}, xArgs σ d l = some (axs, obs) → allP obs → toArgs σ l = some axs
 | [], axs, obs, e, _ => by
  simp only [xArgs, Option.some.injEq, Prod.mk.injEq] at e
  obtain ⟨rfl, _⟩ := e
  rfl
 | x :: l, axs, obs, e, ho => by
  simp only [xArgs] at e
  split at e
  ·rename_i a o as1 os h1 h2
   simp only [Option.some.injEq, Prod.mk.injEq] at e
   obtain ⟨rfl, rfl⟩ := e
   obtain ⟨h3, h4⟩ := allP_append.1 ho
   simp only [toArgs, xArg_ok h1 h3, xArgs_ok h2 h4]
  ·cases e
def xCall (P : Program) (σ : St) (o : Oper) (fn : Operand) (args : List Operand) (h : HH) : Option (St × List Prop) :=
 match sOp.fnOf (evS σ fn), xArgs σ h.deep (args.map (evS σ)), h.call with
 | some (f, caps), some (as0, ob), some (axs, vals, b) => if sOp.noPtr as0 = true then
   some (putO o.dst (resSV vals) (if b then σ else frzAll ((args.map (evS σ)).flatMap rootOf) σ), asP as0 axs ++ (Meets P f (asO as0 axs ++ caps) { vals := vals } :: (smP b vals ++ ob))) else none
 | _, _, _ => none
theorem xCall_ok {σ σ' : St} {o : Oper} {fn : Operand} {args : List Operand} {h : HH} {obs : List Prop} {K : St → Prop} (e : xCall P σ o fn args h = some (σ', obs)) (ho : allP obs) (hk : K σ') : callK P σ o fn args K := by
 unfold xCall at e
 split at e
 ·rename_i f caps as0 ob axs vals b h1 h2 h3
  split at e
  ·rename_i hp
   simp only [Option.some.injEq, Prod.mk.injEq] at e
   obtain ⟨rfl, rfl⟩ := e
   obtain ⟨h4, h5, h6⟩ := allP_append.1 ho
   obtain ⟨h7, h8⟩ := allP_append.1 h6
   rw [as_ok h4] at h5
   exact ⟨f, caps, as0, { vals := vals }, h1, xArgs_ok h2 h8, hp, h5, rfl, b, sm_ok h7, hk⟩
  ·cases e
 ·cases e
def xLendOf (σ : St) (x : SV) (h : HH) : Option (Nat × Option Path × SV × List Prop) := match x, h.deep with
 | .ref r q none, some (c :: cs) => if isOwnR (σ r) = true ∧ q ≠ [(0, 0)] then some (r, some q, .ov false [c], [getRow (rows1 (σ r)) q = some (c :: cs)]) else none
 | x, _ => (match lendOf σ x with
  | some (r, q, sv) => some (r, q, sv, [])
  | none => none)
theorem xLendOf_ok {σ : St} {x : SV} {h : HH} {r : Nat} {q : Option Path} {sv : SV} {obs : List Prop} (e : xLendOf σ x h = some (r, q, sv, obs)) (ho : allP obs) : lendOf σ x = some (r, q, sv) := by
 unfold xLendOf at e
 split at e
 ·rename_i r' q' c cs h1
  split at e
  ·rename_i hc
   simp only [Option.some.injEq, Prod.mk.injEq] at e
   obtain ⟨rfl, rfl, rfl, rfl⟩ := e
   have h2 := ho.1
   have h3 : lendCell (σ r') r' q' none = some (r', some q', .ov false [c]) := by simp [lendCell, hc.1, h2]
   unfold lendOf
   split
   ·rename_i heq; cases heq
   ·rename_i heq
    cases heq
    split
    ·rename_i g cs' hσ
     rw [if_neg hc.2, ← hσ]; exact h3
    ·exact h3
   ·rename_i hno; exact absurd rfl (hno _ _ _)
  ·cases e
 ·split at e
  ·rename_i h2
   simp only [Option.some.injEq, Prod.mk.injEq] at e
   obtain ⟨rfl, rfl, rfl, rfl⟩ := e
   exact h2
  ·cases e
def xLend (P : Program) (σ : St) (o : Oper) (fn : Operand) (args : List Operand) (h : HH) : Option (St × List Prop) :=
 match sOp.fnOf (evS σ fn), args, h.lend with
 | some (f, []), x0 :: rest, some (axs, vals, sv', b) => (match xLendOf σ (evS σ x0) h, toArgs σ (rest.map (evS σ)) with
  | some (r, q, sv, obs), some as0 => if (sOp.noPtr as0 && !((rest.map (evS σ)).flatMap rootOf).contains r && lendSame sv sv') = true then
    some (putO o.dst (resSV vals) (lendBack (if b then σ else frzAll ((rest.map (evS σ)).flatMap rootOf) σ) r q sv'), asP as0 axs ++ (MeetsB P f sv (asO as0 axs) vals sv' :: (smL b vals sv' ++ obs))) else none
  | _, _ => none)
 | _, _, _ => none
theorem xLend_ok {σ σ' : St} {o : Oper} {fn : Operand} {args : List Operand} {h : HH} {obs : List Prop} {K : St → Prop} (e : xLend P σ o fn args h = some (σ', obs)) (ho : allP obs) (hk : K σ') : lendK P σ o fn args K := by
 unfold xLend at e
 split at e
 ·rename_i f x0 rest axs vals sv' b h1 h2
  split at e
  ·rename_i r q sv obs' as0 h3 h4
   split at e
   ·rename_i hc
    simp only [Option.some.injEq, Prod.mk.injEq] at e
    obtain ⟨rfl, rfl⟩ := e
    obtain ⟨h5, h6, h78⟩ := allP_append.1 ho
    obtain ⟨h7, h8⟩ := allP_append.1 h78
    rw [as_ok h5] at h6
    replace h7 := smL_ok h7
    simp only [Bool.and_eq_true, Bool.not_eq_true', List.contains_eq_mem, decide_eq_false_iff_not] at hc
    exact ⟨f, x0, rest, r, q, sv, as0, vals, sv', h1, rfl, xLendOf_ok h3 h8, h4, hc.1.1, hc.1.2, h6, hc.2, b, h7, hk⟩
   ·cases e
  ·cases e
 ·cases e
def xEat (P : Program) (σ : St) (o : Oper) (fn : Operand) (args : List Operand) (h : HH) : Option (St × List Prop) :=
 match sOp.fnOf (evS σ fn), args, h.lend with
 | some (f, []), x0 :: rest, some (axs, vals, .u, b) => (match lendOf σ (evS σ x0), toArgs σ (rest.map (evS σ)) with
  | some (r, none, sv), some as0 => if (sOp.noPtr as0 && !((rest.map (evS σ)).flatMap rootOf).contains r) = true then
    some (putO o.dst (resSV vals) (gone (if b then σ else frzAll ((rest.map (evS σ)).flatMap rootOf) σ) r), asP as0 axs ++ (MeetsB P f sv (asO as0 axs) vals .u :: smP b vals)) else none
  | _, _ => none)
 | _, _, _ => none
theorem xEat_ok {σ σ' : St} {o : Oper} {fn : Operand} {args : List Operand} {h : HH} {obs : List Prop} {K : St → Prop} (e : xEat P σ o fn args h = some (σ', obs)) (ho : allP obs) (hk : K σ') : eatK P σ o fn args K := by
 unfold xEat at e
 split at e
 ·rename_i f x0 rest axs vals b h1 h2
  split at e
  ·rename_i r sv as0 h3 h4
   split at e
   ·rename_i hc
    simp only [Option.some.injEq, Prod.mk.injEq] at e
    obtain ⟨rfl, rfl⟩ := e
    obtain ⟨h5, h6, h7⟩ := allP_append.1 ho
    rw [as_ok h5] at h6
    replace h7 := sm_ok h7
    simp only [Bool.and_eq_true, Bool.not_eq_true', List.contains_eq_mem, decide_eq_false_iff_not] at hc
    exact ⟨f, x0, rest, r, sv, as0, vals, h1, rfl, h3, h4, hc.1, hc.2, h6, b, h7, hk⟩
   ·cases e
  ·cases e
 ·cases e
def xOp0 (P : Program) (o : Oper) (σ : St) (h : HH) : Option (St × List Prop) :=
 match o.op with
 | .assign x => (match o.dst with | some d => xAsg P σ o d x h | none => none)
 | .store t a x => (match nilSl P t x with
  | some e => xStoreN P σ o t (evS σ a) e h
  | none => xStore P σ o t (evS σ a) (evS σ x) h)
 | .box t x => (match tyC P t, mvCells σ (evS σ x) with
  | some (_, n), some (cs, mv) => if cs.length = n ∧ nb cs = true then some (putO o.dst (.box cs) (goneO σ mv), []) else none
  | _, _ => none)
 | .call { callee := .builtin .append, args := args, argTypes := ts } => (match args.toList, ts.toList with
  | [s, x], [t, t'] => if t = t' then xApp P σ o t (apSrc σ s) (evS σ x) h else xAps P σ o t t' (apSrc σ s) (evS σ x)
  | _, _ => none)
 | .call { callee := .value fn, args := args, argTypes := _ } => (match h.lend with
  | some (_, _, .u, _) => xEat P σ o fn args.toList h
  | some _ => xLend P σ o fn args.toList h
  | none => xCall P σ o fn args.toList h)
 | .move (.tmp t) => (match σ t with
  | .tup _ => (match o.dst with
   | some d => if t = d then none else some (trans σ t d, [])
   | none => none)
  | _ => (match xS P (evS σ) σ o h with
   | some (x, obs) => some (putO o.dst x σ, obs)
   | none => none))
 | .extract (.tmp t) k => (match σ t with
  | .tup l => (match l[k]? with
   | some (.ov g cs) => some (putO o.dst (.ov g cs) (upd σ t (.tup (l.set k .u))), [])
   | some y => if isDR y = true then some (putO o.dst y σ, []) else none
   | none => none)
  | _ => none)
 | .build t parts => (match h.b with
  | some true => (match sOp.buildC P (evS σ) t [], zeroC P t with
   | some _, some cs => if parts.size = 0 then some (putO o.dst (.ov true cs) σ, []) else none
   | _, _ => none)
  | _ => (match xS P (evS σ) σ o h with
   | some (x, obs) => some (putO o.dst x σ, obs)
   | none => (match parts.toList with
    | [(0, x)] => (match mvCells σ (evS σ x) with
     | some (cs, some r) => if oneF P t = some cs.length then some (putO o.dst (.ov true cs) (gone σ r), []) else none
     | _ => none)
    | _ => none)))
 | .slice t x lo hi c => (match xS P (evS σ) σ o h with
  | some (y, obs) => some (putO o.dst y σ, obs)
  | none => (match lo, hi, c, slE P t, evS σ x with
   | none, some y, none, some (e, _), .ref r [(0, 0)] none => (match σ r, evS σ y with
    | .ov false [.sl (some e') rows], .p (.int _ n) => if e' = e then some (putO o.dst (.ov false [.sl (some e) (rows.take n.toNat)]) (gone σ r), [0 ≤ n, n ≤ rows.length]) else none
    | _, _ => none)
   | _, _, _, _, _ => none))
 | .buildSlice t n parts => (match xS P (evS σ) σ o h with
  | some (x, obs) => some (putO o.dst x σ, obs)
  | none => (match slE P t, parts.toList with
   | some (e, sz), [(0, x)] => (match mvCells σ (evS σ x) with
    | some (cs, some r) => if apE P e = true ∧ n = 1 ∧ cs.length = sz ∧ 0 < sz ∧ sz ≤ 16 then some (putO o.dst (.ov false [.sl (some e) [cs]]) (gone σ r), []) else none
    | _ => none)
   | _, _ => none))
 | _ => (match xS P (evS σ) σ o h with
  | some (x, obs) => some (putO o.dst x σ, obs)
  | none => none)
theorem xOp0_ok {σ σ' : St} {o : Oper} {h : HH} {obs : List Prop} {K : St → Prop} (e : xOp0 P o σ h = some (σ', obs)) (ho : allP obs) (hk : K σ') : pvOp P o σ K := by
 have gen : ∀ {x obs}, xS P (evS σ) σ o h = some (x, obs) → allP obs → K (putO o.dst x σ) → sOp P (evS σ) σ o (fun x => K (putO o.dst x σ)) := fun h1 h2 h3 => xS_ok (K := fun x => K (putO o.dst x σ)) h1 h2 h3
 unfold xOp0 at e
 split at e
 ·rename_i x hop
  split at e
  ·rename_i d hd
   simp only [pvOp, hop, hd]
   exact xAsg_ok e ho hk
  ·cases e
 ·rename_i t a x hop
  simp only [pvOp, hop]
  split at e
  ·rename_i e1 h1
   exact .inr ⟨e1, h1, xStoreN_ok e ho hk⟩
  ·exact .inl (xStore_ok e ho hk)
 ·rename_i t x hop
  simp only [pvOp, hop]
  split at e
  ·rename_i g n cs mv h1 h2
   split at e
   ·rename_i hn
    simp only [Option.some.injEq, Prod.mk.injEq] at e
    obtain ⟨rfl, rfl⟩ := e
    exact ⟨g, n, cs, mv, h1, h2, hn.1, hn.2, hk⟩
   ·cases e
  ·cases e
 ·rename_i args ts hop
  simp only [pvOp, hop]
  split at e
  ·rename_i s x t t' h1 h2
   split at e
   ·rename_i ht
    subst ht
    exact .inl ⟨s, x, t, h1, h2, xApp_ok e ho hk⟩
   ·obtain ⟨b, h3, h4, h5⟩ := xAps_ok e ho hk
    exact .inr ⟨s, x, t, t', b, h1, h2, h3, h4, h5⟩
  ·cases e
 ·rename_i fn args ts hop
  simp only [pvOp, hop]
  split at e
  ·exact .inr (.inr (xEat_ok e ho hk))
  ·exact .inr (.inl (xLend_ok e ho hk))
  ·exact .inl (xCall_ok e ho hk)
 ·rename_i t hop
  simp only [pvOp, hop]
  split at e
  ·rename_i l hl
   split at e
   ·rename_i d hd
    split at e
    ·cases e
    ·rename_i hne
     simp only [Option.some.injEq, Prod.mk.injEq] at e
     obtain ⟨rfl, rfl⟩ := e
     rw [hl]
     exact ⟨d, hd, hne, hk⟩
   ·cases e
  ·rename_i hno
   split at e
   ·rename_i x obs' hx
    simp only [Option.some.injEq, Prod.mk.injEq] at e
    obtain ⟨rfl, rfl⟩ := e
    have := gen hx ho hk
    split
    ·exact absurd (by assumption) (hno _)
    ·exact this
   ·cases e
 ·rename_i t k hop
  simp only [pvOp, hop]
  split at e
  ·rename_i l hl
   split at e
   ·rename_i g cs hy
    simp only [Option.some.injEq, Prod.mk.injEq] at e
    obtain ⟨rfl, rfl⟩ := e
    exact ⟨l, _, hl, hy, hk⟩
   ·rename_i y hy hno
    split at e
    ·rename_i hd
     simp only [Option.some.injEq, Prod.mk.injEq] at e
     obtain ⟨rfl, rfl⟩ := e
     refine ⟨l, y, hl, hno, ?_⟩
     split
     ·exact absurd rfl (hy _ _)
     ·exact ⟨hd, hk⟩
    ·cases e
   ·cases e
  ·cases e
 ·rename_i t parts hop
  simp only [pvOp, hop]
  split at e
  ·split at e
   ·rename_i cs0 cs h1 h2
    split at e
    ·rename_i hp
     simp only [Option.some.injEq, Prod.mk.injEq] at e
     obtain ⟨rfl, rfl⟩ := e
     exact .inr (.inl ⟨cs0, cs, Array.eq_empty_of_size_eq_zero hp, h1, h2, hk⟩)
    ·cases e
   ·cases e
  ·split at e
   ·rename_i x obs' hx
    simp only [Option.some.injEq, Prod.mk.injEq] at e
    obtain ⟨rfl, rfl⟩ := e
    exact .inl (gen hx ho hk)
   ·split at e
    ·rename_i x hp
     split at e
     ·rename_i cs r hm
      split at e
      ·rename_i h1
       simp only [Option.some.injEq, Prod.mk.injEq] at e
       obtain ⟨rfl, rfl⟩ := e
       exact .inr (.inr ⟨x, cs, r, hp, h1, hm, hk⟩)
      ·cases e
     ·cases e
    ·cases e
 ·rename_i t x lo hi c hop
  simp only [pvOp, hop]
  split at e
  ·rename_i y obs' hx
   simp only [Option.some.injEq, Prod.mk.injEq] at e
   obtain ⟨rfl, rfl⟩ := e
   exact .inl (gen hx ho hk)
  ·split at e
   ·rename_i y e1 sz r hE hX
    split at e
    ·rename_i e' rows k n hσ hy
     split at e
     ·rename_i he
      subst he
      simp only [Option.some.injEq, Prod.mk.injEq] at e
      obtain ⟨rfl, rfl⟩ := e
      obtain ⟨h1, h2, _⟩ := ho
      obtain ⟨m, rfl⟩ := Int.eq_ofNat_of_zero_le h1
      exact .inr ⟨_, sz, r, rows, y, k, m, rfl, rfl, rfl, hE, hX, hσ, hy, by omega, hk⟩
     ·cases e
    ·cases e
   ·cases e
 ·rename_i t n parts hop
  simp only [pvOp, hop]
  split at e
  ·rename_i x obs' hx
   simp only [Option.some.injEq, Prod.mk.injEq] at e
   obtain ⟨rfl, rfl⟩ := e
   exact .inl (gen hx ho hk)
  ·split at e
   ·rename_i e' sz x hE hp
    split at e
    ·rename_i cs r hm
     split at e
     ·rename_i hc
      simp only [Option.some.injEq, Prod.mk.injEq] at e
      obtain ⟨rfl, rfl⟩ := e
      exact .inr ⟨e', sz, x, cs, r, hE, hc.1, hp, hc.2.1, hm, hc.2.2.1, hc.2.2.2.1, hc.2.2.2.2, hk⟩
     ·cases e
    ·cases e
   ·cases e
 ·rename_i h1 h2 h3 h4 h5 h6 h7 h8 h9 h10
  split at e
  ·rename_i x obs' hx
   simp only [Option.some.injEq, Prod.mk.injEq] at e
   obtain ⟨rfl, rfl⟩ := e
   have := gen hx ho hk
   unfold pvOp
   split
   ·exact absurd (by assumption) (h1 _)
   ·exact absurd (by assumption) (h2 _ _ _)
   ·exact absurd (by assumption) (h3 _ _)
   ·exact absurd (by assumption) (h4 _ _)
   ·exact absurd (by assumption) (h5 _ _ _)
   ·exact absurd (by assumption) (h6 _)
   ·exact absurd (by assumption) (h7 _ _)
   ·exact absurd (by assumption) (h8 _ _)
   ·exact absurd (by assumption) (h9 _ _ _ _ _)
   ·exact absurd (by assumption) (h10 _ _ _)
   ·exact this
  ·cases e
def xFix (σ : St) (h : HH) : St × List Prop := match h.fix with
 | some (k, x) => (fun s => if s = k then x else σ s, [σ k = x])
 | none => (σ, [])
theorem xFix_ok {σ : St} {h : HH} (ho : allP (xFix σ h).2) : (xFix σ h).1 = σ := by
 unfold xFix at ho ⊢
 split
 ·rename_i k x hk
  simp only [hk] at ho
  funext s
  show (if s = k then x else σ s) = σ s
  split
  ·rename_i hs; rw [hs]; exact ho.1.symm
  ·rfl
 ·rfl
def hintAt (hs : List (Nat × HH)) (k : Nat) : HH := match hs.lookup k with
 | some h => h
 | none => {}
def xOpF (P : Program) (o : Oper) (σ : St) (h : HH) : Option (St × List Prop) := match h.pre, h.take with
 | none, none => xOp0 P o σ h
 | none, some (t, c :: cs) => (match σ t with
  | .ref r q none => if tkOk σ t r q = true then (match xOp0 P o (tkSt σ t r q c) h with
   | some (σ', obs) => some (σ', (getRow (rows1 (σ r)) q = some (c :: cs)) :: obs)
   | none => none) else none
  | _ => none)
 | none, some (_, []) => none
 | some (r, x), _ => (match xOp0 P o (fun s => if s = r then x else frz r σ s) h with
  | some (σ', obs) => some (σ', (frz r σ r = x) :: obs)
  | none => none)
theorem xOpF_ok {σ σ' : St} {o : Oper} {h : HH} {obs : List Prop} {K : St → Prop} (e : xOpF P o σ h = some (σ', obs)) (ho : allP obs) (hk : K σ') : pvOpF P o σ K := by
 unfold xOpF at e
 split at e
 ·exact .inl (xOp0_ok e ho hk)
 ·rename_i t c cs _ _
  split at e
  ·rename_i r q ht
   split at e
   ·rename_i hok
    split at e
    ·rename_i σ2 obs2 h2
     simp only [Option.some.injEq, Prod.mk.injEq] at e
     obtain ⟨rfl, rfl⟩ := e
     exact .inr (.inr ⟨t, r, q, c, cs, ht, hok, ho.1, xOp0_ok h2 ho.2 hk⟩)
    ·cases e
   ·cases e
  ·cases e
 ·cases e
 ·rename_i _ r x _
  split at e
  ·rename_i σ2 obs2 h2
   simp only [Option.some.injEq, Prod.mk.injEq] at e
   obtain ⟨rfl, rfl⟩ := e
   obtain ⟨h3, h4⟩ := ho
   have e2 : (fun s => if s = r then x else frz r σ s) = frz r σ := by
    funext s
    by_cases hs : s = r
    ·subst hs; rw [if_pos rfl]; exact h3.symm
    ·rw [if_neg hs]
   rw [e2] at h2
   exact .inr (.inl ⟨r, xOp0_ok h2 h4 hk⟩)
  ·cases e
def xGuard (ops : Array Oper) (o : Oper) (σ : St) (h : HH) : Option (Bool × List Prop) := match o.guard with
 | none => some (true, [])
 | some (j, want) => match (ops[j]?).bind (·.dst) with
  | some d => (match σ d, h.g with
   | .p (.bool b), some t => some (t == want, [b = t])
   | .p (.tuple vs), _ => if vs.size = 0 then some (false, []) else none
   | _, _ => none)
  | none => none
theorem xGuard_ok {ops : Array Oper} {o : Oper} {σ : St} {h : HH} {t : Bool} {obs : List Prop} {run skip : Prop} (e : xGuard ops o σ h = some (t, obs)) (ho : allP obs) (hk : if t then run else skip) : gOp ops o σ run skip := by
 unfold xGuard at e
 unfold gOp
 split at e
 ·rename_i hg
  simp only [Option.some.injEq, Prod.mk.injEq] at e
  obtain ⟨rfl, rfl⟩ := e
  simp only [hg]; exact hk
 ·rename_i j want hg
  simp only [hg]
  split at e
  ·rename_i d hd
   refine ⟨d, hd, ?_⟩
   split at e
   ·rename_i b t' h1 h2
    simp only [Option.some.injEq, Prod.mk.injEq] at e
    obtain ⟨rfl, rfl⟩ := e
    simp only [h1]
    rw [ho.1]
    by_cases hw : t' = want
    ·subst hw; simpa using hk
    ·rw [if_neg hw]
     have : (t' == want) = false := by simpa using hw
     simpa [this] using hk
   ·rename_i vs h1
    split at e
    ·rename_i hv
     simp only [Option.some.injEq, Prod.mk.injEq] at e
     obtain ⟨rfl, rfl⟩ := e
     simp only [h1]
     exact ⟨hv, hk⟩
    ·cases e
   ·cases e
  ·cases e
def xL (P : Program) (ops : Array Oper) (hs : List (Nat × HH)) : Nat → List Oper → St → Option (St × List Prop)
 | _, [], σ => some (σ, [])
 | k, o :: l, σ => match xGuard ops o σ (hintAt hs k) with
  | some (true, o1) => (match xOpF P o σ (hintAt hs k) with
   | some (σ1, o2) => (match xL P ops hs (k + 1) l (xFix σ1 (hintAt hs k)).1 with
    | some (σ2, o3) => some (σ2, o1 ++ (o2 ++ ((xFix σ1 (hintAt hs k)).2 ++ o3)))
    | none => none)
   | none => none)
  | some (false, o1) => (match xL P ops hs (k + 1) l (putO o.dst (.p (.tuple #[])) σ) with
   | some (σ2, o3) => some (σ2, o1 ++ o3)
   | none => none)
  | none => none
theorem xL_ok {ops : Array Oper} {hs : List (Nat × HH)} {K : St → Prop} : ∀ (l : List Oper) (k : Nat) (σ σ' : St) (obs : List Prop), xL P ops hs k l σ = some (σ', obs) → allP obs → K σ' → pvL P ops l σ K
 | [], k, σ, σ', obs, e, ho, hk => by
  simp only [xL, Option.some.injEq, Prod.mk.injEq] at e
  obtain ⟨rfl, rfl⟩ := e
  exact hk
 | o :: l, k, σ, σ', obs, e, ho, hk => by
  simp only [xL] at e
  split at e
  ·rename_i o1 hg
   split at e
   ·rename_i σ1 o2 h1
    split at e
    ·rename_i σ2 o3 h2
     simp only [Option.some.injEq, Prod.mk.injEq] at e
     obtain ⟨rfl, rfl⟩ := e
     rw [allP_append, allP_append, allP_append] at ho
     refine xGuard_ok hg ho.1 ?_
     rw [if_pos rfl]
     refine xOpF_ok h1 ho.2.1 ?_
     rw [xFix_ok ho.2.2.1] at h2
     exact xL_ok l (k + 1) _ _ _ h2 ho.2.2.2 hk
    ·cases e
   ·cases e
  ·rename_i o1 hg
   split at e
   ·rename_i σ2 o3 h2
    simp only [Option.some.injEq, Prod.mk.injEq] at e
    obtain ⟨rfl, rfl⟩ := e
    rw [allP_append] at ho
    refine xGuard_ok hg ho.1 ?_
    simp only [Bool.false_eq_true, if_false]
    exact xL_ok l (k + 1) _ _ _ h2 ho.2 hk
   ·cases e
  ·cases e
def xDSt (P : Program) (rt : Nat → SV) (o : Oper) (σ : St) (r : Nat) : Option (St × List Prop) :=
 match o.op with
 | .store t (.tmp d) x => (match o.guard, o.dst, rt r, tyC P t, σ r, evS σ x with
  | none, none, .tup [], some (_, n), .box old, .p v =>
   if (d == r && decide (0 < n) && old.length == n && (raws old).isSome && v.cells.toList.all scal && v.cells.size == n) = true then some (upd σ r (.box (cellsV v)), []) else none
  | _, _, _, _, _, _ => none)
 | _ => none
theorem xDSt_ok {rt : Nat → SV} {o : Oper} {σ σ' : St} {r : Nat} {obs : List Prop} {K : St → Prop} (e : xDSt P rt o σ r = some (σ', obs)) (hk : K σ') : ∃ y, dStore P rt o σ r y ∧ K (upd σ r y) := by
 unfold xDSt at e
 split at e
 ·rename_i t d x hop
  split at e
  ·rename_i _ g n old v h1 h2 h3 h4 h5 h6
   split at e
   ·rename_i hc
    simp only [Bool.and_eq_true, decide_eq_true_eq, beq_iff_eq] at hc
    obtain ⟨⟨⟨⟨⟨rfl, c1⟩, c2⟩, c3⟩, c4⟩, c5⟩ := hc
    simp only [Option.some.injEq, Prod.mk.injEq] at e
    obtain ⟨rfl, rfl⟩ := e
    exact ⟨_, ⟨h1, h2, h3, t, x, _, n, old, v, hop, h4, c1, h5, c2, c3, h6, c4, c5, rfl⟩, hk⟩
   ·cases e
  ·cases e
 ·cases e
def xDLend (P : Program) (rt : Nat → SV) (o : Oper) (σ : St) (r : Nat) (h : HH) : Option (St × List Prop) :=
 match o.op with
 | .call { callee := .value fn, args := args, argTypes := _ } => (match args.toList with
  | x0 :: rest => (match sOp.fnOf (evS σ fn), evS σ x0, σ r, rt r, toArgs (rtL rt o σ) (rest.map (evS σ)), h.lend with
   | some (f, []), .addr r' [(0, 0)], .box cs, .tup [], some as0, some (axs, vals, .box cs', _) =>
    if (r' == r && sOp.noPtr as0 && (wnR cs' || ((rest.map (evS σ)).flatMap rootOf).isEmpty)) = true then (match o.dst with
     | some d => if (!isRoot (σ d) && d != r && okW rt d (resSV vals)) = true then some (upd (upd σ d (resSV vals)) r (.box cs'), asP as0 axs ++ (MeetsB P f (.box cs) (asO as0 axs) vals (.box cs') :: smP true vals)) else none
     | none => some (upd σ r (.box cs'), asP as0 axs ++ (MeetsB P f (.box cs) (asO as0 axs) vals (.box cs') :: smP true vals))) else none
   | _, _, _, _, _, _ => none)
  | [] => none)
 | _ => none
theorem xDLend_ok {rt : Nat → SV} {o : Oper} {σ σ' : St} {r : Nat} {h : HH} {obs : List Prop} {K : St → Prop} (e : xDLend P rt o σ r h = some (σ', obs)) (ho : allP obs) (hk : K σ') : ∃ d y, dLend P rt o σ r d y ∧ K (upd (putW σ d) r y) := by
 unfold xDLend at e
 split at e
 ·rename_i fn args ts hop
  split at e
  ·rename_i x0 rest hargs
   split at e
   ·rename_i f r' cs as0 axs vals cs' b h1 h2 h3 h4 h5 h6
    split at e
    ·rename_i hc
     simp only [Bool.and_eq_true, beq_iff_eq, Bool.or_eq_true, List.isEmpty_iff] at hc
     obtain ⟨⟨rfl, hp⟩, hw⟩ := hc
     split at e
     ·rename_i d hd
      split at e
      ·rename_i hc
       simp only [Bool.and_eq_true, Bool.not_eq_true', bne_iff_ne, ne_eq] at hc
       simp only [Option.some.injEq, Prod.mk.injEq] at e
       obtain ⟨rfl, rfl⟩ := e
       obtain ⟨ho1, ho2, ho3⟩ := allP_append.1 ho
       rw [as_ok ho1] at ho2
       replace ho3 : vals.all simpleR = true := by simpa using sm_ok ho3
       exact ⟨some (d, resSV vals), _, ⟨h4, fn, args, ts, f, x0, rest, as0, vals, cs, cs', hop, hargs, h1, h2, h3, h5, hp, hw, ho2, ho3, rfl, by rw [hd]; exact ⟨hc.1.1, hc.1.2, hc.2, rfl⟩⟩, hk⟩
      ·cases e
     ·rename_i hd
      simp only [Option.some.injEq, Prod.mk.injEq] at e
      obtain ⟨rfl, rfl⟩ := e
      obtain ⟨ho1, ho2, ho3⟩ := allP_append.1 ho
      rw [as_ok ho1] at ho2
      replace ho3 : vals.all simpleR = true := by simpa using sm_ok ho3
      exact ⟨none, _, ⟨h4, fn, args, ts, f, x0, rest, as0, vals, cs, cs', hop, hargs, h1, h2, h3, h5, hp, hw, ho2, ho3, rfl, by rw [hd]⟩, hk⟩
    ·cases e
   ·cases e
  ·cases e
 ·cases e
def xDEat (P : Program) (rt : Nat → SV) (o : Oper) (σ : St) (r : Nat) (h : HH) : Option (St × List Prop) :=
 match o.dst, o.guard, rt r with
 | some d, none, .tup [.u] => if (d == r || isRoot (σ d)) = true then none else (match o.op with
  | .move (.tmp t) => if t = r then (match σ r with
   | .ov g cs => if okW rt d (.ov g cs) = true then some (upd (upd σ r .u) d (.ov g cs), []) else none
   | _ => none) else none
  | .call { callee := .builtin .append, args := args, argTypes := ts } => (match args.toList, ts.toList with
   | [.tmp z, y], [t, t'] => if z = r ∧ t = t' then (match slE P t, σ r, xSl (rtL rt o σ) (evS σ y) h with
    | some (e, sz), .ov false [.sl (some e') rows], some (none, rows2, obs) => if e' = e ∧ apE P e = true ∧ okW rt d (.ov false [.sl (some e) (rows ++ rows2)]) = true then some (upd (upd σ r .u) d (.ov false [.sl (some e) (rows ++ rows2)]), (rows.length + rows2.length ≤ 1099511627776) :: (∀ row ∈ rows2, row.length = sz) :: obs) else none
    | _, _, _ => none) else none
   | _, _ => none)
  | _ => none)
 | _, _, _ => none
theorem xDEat_ok {rt : Nat → SV} {o : Oper} {σ σ' : St} {r : Nat} {h : HH} {obs : List Prop} {K : St → Prop} (e : xDEat P rt o σ r h = some (σ', obs)) (ho : allP obs) (hk : K σ') : ∃ d x, dEat P rt o σ r d x ∧ K (upd (upd σ r .u) d x) := by
 unfold xDEat at e
 split at e
 ·rename_i d h1 h2 h3
  split at e
  ·cases e
  ·rename_i hc
   have hne : d ≠ r := by rintro rfl; simp at hc
   have hnr : isRoot (σ d) = false := by cases h9 : isRoot (σ d) <;> simp_all
   split at e
   ·rename_i t hop
    split at e
    ·rename_i htr
     subst htr
     split at e
     ·rename_i g cs hs
      split at e
      ·rename_i hw
       simp only [Option.some.injEq, Prod.mk.injEq] at e
       obtain ⟨rfl, rfl⟩ := e
       exact ⟨d, _, ⟨h3, h2, h1, hne, hnr, hw, .inl ⟨hop, ⟨g, cs, hs⟩, hs.symm⟩⟩, hk⟩
      ·cases e
     ·cases e
    ·cases e
   ·rename_i args ts hop
    split at e
    ·rename_i z y t t' ha hts
     split at e
     ·rename_i hc2
      obtain ⟨rfl, rfl⟩ := hc2
      split at e
      ·rename_i e1 sz e2 rows rows2 obs' h4 h5 h6
       split at e
       ·rename_i hc3
        obtain ⟨rfl, h7, h8⟩ := hc3
        simp only [Option.some.injEq, Prod.mk.injEq] at e
        obtain ⟨rfl, rfl⟩ := e
        obtain ⟨ho1, ho2, ho3⟩ := ho
        exact ⟨d, _, ⟨h3, h2, h1, hne, hnr, h8, .inr ⟨args, ts, y, t, e2, sz, rows, rows2, hop, ha, hts, h4, h7, h5, xSl_ok h6 ho3, ho2, ho1, rfl⟩⟩, hk⟩
       ·cases e
      ·cases e
     ·cases e
    ·cases e
   ·cases e
 ·cases e
def bth (h : HH) (x : SV) : SV := match h.pre with
 | some _ => frzAt x
 | none => x
theorem bth_or (h : HH) (x : SV) : bth h x = x ∨ bth h x = frzAt x := by unfold bth; split <;> simp
def xDOp (P : Program) (rt : Nat → SV) (e : Option Nat) (o : Oper) (σ : St) (h : HH) : Option (St × List Prop) :=
 match e with
 | some r => (match h.lend with
  | none => (match rt r with
   | .tup [.u] => xDEat P rt o σ r h
   | _ => xDSt P rt o σ r)
  | some _ => xDLend P rt o σ r h)
 | none => (match o.dst with
  | some d => if (isRoot (σ d) || (stOf o).isSome) = true then none else (match o.op with
   | .assign x => if (isDR (evS σ x) && okW rt d (evS σ x)) = true then some (upd σ d (evS σ x), []) else none
   | _ => (match xS P (evS σ) (rtL rt o σ) o h with
    | some (x, obs) => if okW rt d (bth h x) = true then some (upd σ d (bth h x), obs) else none
    | none => none))
  | none => none)
theorem xDOp_ok {rt : Nat → SV} {en : Option Nat} {o : Oper} {σ σ' : St} {h : HH} {obs : List Prop} {K : St → Prop} (e : xDOp P rt en o σ h = some (σ', obs)) (ho : allP obs) (hk : K σ') : dOp P rt en o σ K := by
 unfold xDOp at e
 split at e
 ·rename_i r
  split at e
  ·split at e
   ·exact .inr (.inr (xDEat_ok e ho hk))
   ·exact .inl (xDSt_ok e hk)
  ·exact .inr (.inl (xDLend_ok e ho hk))
 ·split at e
  ·rename_i d hd
   split at e
   ·cases e
   ·rename_i hr
    have hr' : isRoot (σ d) = false ∧ stOf o = none := by
     cases h5 : isRoot (σ d) <;> cases h6 : stOf o <;> simp_all
    refine ⟨d, hd, hr'.2, hr'.1, ?_⟩
    split at e
    ·rename_i x hop
     split at e
     ·rename_i hw
      simp only [Option.some.injEq, Prod.mk.injEq] at e
      obtain ⟨rfl, rfl⟩ := e
      have hw2 := Bool.and_eq_true_iff.1 hw
      simp only [hop]
      exact ⟨hw2.1, hw2.2, hk⟩
     ·cases e
    ·rename_i hno
     split at e
     ·rename_i x obs' hx
      split at e
      ·rename_i hw
       simp only [Option.some.injEq, Prod.mk.injEq] at e
       obtain ⟨rfl, rfl⟩ := e
       have := xS_ok (K := fun x => ∃ y, (y = x ∨ y = frzAt x) ∧ okW rt d y = true ∧ K (upd σ d y)) hx ho ⟨_, bth_or h x, hw, hk⟩
       split
       ·exact absurd (by assumption) (hno _)
       ·exact this
      ·cases e
     ·cases e
  ·cases e
def xD (P : Program) (ops : Array Oper) (rt : Nat → SV) (T : List (Nat × Nat)) (hs : List (Nat × HH)) : Nat → List Oper → St → Option (St × List Prop)
 | _, [], σ => some (σ, [])
 | k, o :: l, σ => match xGuard ops o σ (hintAt hs k) with
  | some (true, o1) => (match xDOp P rt (T.lookup k) o σ (hintAt hs k) with
   | some (σ1, o2) => (match xD P ops rt T hs (k + 1) l (xFix σ1 (hintAt hs k)).1 with
    | some (σ2, o3) => some (σ2, o1 ++ (o2 ++ ((xFix σ1 (hintAt hs k)).2 ++ o3)))
    | none => none)
   | none => none)
  | some (false, o1) => (match o.dst with
   | some d => if (isRoot (σ d) || (stOf o).isSome || !okW rt d (.p (.tuple #[]))) = true then none else (match xD P ops rt T hs (k + 1) l (upd σ d (.p (.tuple #[]))) with
    | some (σ2, o3) => some (σ2, o1 ++ o3)
    | none => none)
   | none => none)
  | none => none
theorem xD_ok {ops : Array Oper} {rt : Nat → SV} {T : List (Nat × Nat)} {hs : List (Nat × HH)} {K : St → Prop} : ∀ (l : List Oper) (k : Nat) (σ σ' : St) (obs : List Prop), xD P ops rt T hs k l σ = some (σ', obs) → allP obs → K σ' → pvD P ops rt T k l σ K
 | [], k, σ, σ', obs, e, ho, hk => by
  simp only [xD, Option.some.injEq, Prod.mk.injEq] at e
  obtain ⟨rfl, rfl⟩ := e
  exact hk
 | o :: l, k, σ, σ', obs, e, ho, hk => by
  simp only [xD] at e
  split at e
  ·rename_i o1 hg
   split at e
   ·rename_i σ1 o2 h1
    split at e
    ·rename_i σ2 o3 h2
     simp only [Option.some.injEq, Prod.mk.injEq] at e
     obtain ⟨rfl, rfl⟩ := e
     rw [allP_append, allP_append, allP_append] at ho
     refine xGuard_ok hg ho.1 ?_
     rw [if_pos rfl]
     refine xDOp_ok h1 ho.2.1 ?_
     rw [xFix_ok ho.2.2.1] at h2
     exact xD_ok l (k + 1) _ _ _ h2 ho.2.2.2 hk
    ·cases e
   ·cases e
  ·rename_i o1 hg
   split at e
   ·rename_i d hd
    split at e
    ·cases e
    ·rename_i hr
     split at e
     ·rename_i σ2 o3 h2
      simp only [Option.some.injEq, Prod.mk.injEq] at e
      obtain ⟨rfl, rfl⟩ := e
      rw [allP_append] at ho
      refine xGuard_ok hg ho.1 ?_
      simp only [Bool.false_eq_true, if_false]
      have hr' : isRoot (σ d) = false ∧ stOf o = none ∧ okW rt d (.p (.tuple #[])) = true := by
       cases h5 : isRoot (σ d) <;> cases h6 : stOf o <;> cases h7 : okW rt d (.p (.tuple #[])) <;> simp_all
      exact ⟨d, hd, hr'.2.1, hr'.1, hr'.2.2, xD_ok l (k + 1) _ _ _ h2 ho.2 hk⟩
     ·cases e
   ·cases e
  ·cases e
end Go.PV

/-
 A walk over pure values: code by rules over lists of slots; loops that are reckoned.
 Conditions: none.
-/
namespace Go.PV
variable {P : Program} {N : Nat}
abbrev LS := List (Nat × SV)
def refsOk (l : LS) : Bool := l.all fun x => refOk (l.map (·.1)) x.2
def readL (σ : St) (l : LS) : LS := l.map fun x => (x.1, σ x.1)
theorem agree_read {σ : St} {l : LS} (h1 : refsOk l = true) (h2 : readL σ l = l) : agree l σ := by
 refine ⟨h1, ?_⟩
 clear h1
 have : ∀ (l' : LS), (∀ x ∈ readL σ l', x ∈ l' ) → True := fun _ _ => trivial
 unfold readL at h2
 intro x hx
 have key : ∀ (l : LS), l.map (fun x => (x.1, σ x.1)) = l → ∀ x ∈ l, σ x.1 = x.2 := by
  intro l
  induction l with
  | nil => simp
  | cons y l ih =>
   intro h x hx
   simp only [List.map_cons, List.cons.injEq] at h
   rcases List.mem_cons.1 hx with rfl | hx
   ·exact congrArg Prod.snd h.1
   ·exact ih h.2 x hx
 exact key l h2 x hx
def wk (l l' : LS) : Prop := agree l' (ofL l)
theorem wk_of {l l' : LS} (h1 : refsOk l' = true) (h2 : readL (ofL l) l' = l') : wk l l' := agree_read h1 h2
def OkL (P : Program) (N : Nat) (c : Code) (l : LS) (Q : Ex → LS → Prop) : Prop :=
 Ok P N c (ofL l) fun e σ => ∃ l', (σ = ofL l' ∨ agree l' σ) ∧ Q e l'
theorem OkL.mono {c : Code} {l : LS} {Q Q' : Ex → LS → Prop} (h : OkL P N c l Q) (hq : ∀ e l, Q e l → Q' e l) : OkL P N c l Q' := fun k hB w0 A I a w L hI hR =>
 wp_mono (h k hB w0 A I a w L hI hR) fun e a w h => by
  cases e <;> first | exact h.elim | (obtain ⟨σ, L, h1, l', h2, h3⟩ := h; exact ⟨σ, L, h1, l', h2, hq _ _ h3⟩)
theorem OkL.weak {c : Code} {l l' : LS} {Q : Ex → LS → Prop} (h : OkL P N c l' Q) (hw : wk l l') : OkL P N c l Q := fun k hB w0 A I a w L hI hR =>
 h k hB w0 A I a w L hI (agree_rel hR hw)
def seqL (K : LS → Prop) (Q : Ex → LS → Prop) : Ex → LS → Prop := fun e l => match e with
 | .normal => K l
 | e => Q e l
def blockL (id : Nat) (Q : Ex → LS → Prop) : Ex → LS → Prop := fun e l => match e with
 | .exit i => if i = id then Q .normal l else Q (.exit i) l
 | e => Q e l
theorem k_seq {a b : Code} {l : LS} {Q : Ex → LS → Prop} (h : OkL P N a l (seqL (fun l' => OkL P N b l' Q) Q)) : OkL P N (.seq a b) l Q := fun k hB w0 A I x w L hI hR => by
 simp only [codeB, Bool.and_eq_true] at hB
 refine wp_seq (wp_mono (h k hB.1 w0 A I x w L hI hR) fun e x w h => ?_)
 cases e with
 | normal =>
  obtain ⟨σ, L, h1, l', h2, h3⟩ := h
  refine h3 k hB.2 w0 A I x w L hI ?_
  rcases h2 with rfl | h2
  ·exact h1
  ·exact agree_rel h1 h2
 | exit id => exact h
 | ret => exact h
 | _ => exact h.elim
theorem k_skip {l : LS} {Q : Ex → LS → Prop} (h : Q .normal l) : OkL P N .skip l Q := fun _ _ w0 A I a w L hI hR => wp_skip ⟨_, L, hR, l, .inl rfl, h⟩
theorem k_exit {id : Nat} {l : LS} {Q : Ex → LS → Prop} (h : Q (.exit id) l) : OkL P N (.exit id) l Q := fun _ _ w0 A I a w L hI hR => wp_exit ⟨_, L, hR, l, .inl rfl, h⟩
theorem k_ret {l : LS} {Q : Ex → LS → Prop} (h : Q .ret l) : OkL P N .ret l Q := fun _ _ w0 A I a w L hI hR => wp_ret ⟨_, L, hR, l, .inl rfl, h⟩
theorem k_cond {c : Operand} {b : Bool} {x y : Code} {l : LS} {Q : Ex → LS → Prop} (hc : evS (ofL l) c = .p (.bool b)) (h1 : b = true → OkL P N x l Q) (h2 : b = false → OkL P N y l Q) : OkL P N (.cond c x y) l Q := fun k hB w0 A I a w L hI hR => by
 simp only [codeB, Bool.and_eq_true] at hB
 refine wp_cond (evS_p hR hc) ?_
 cases b
 ·exact h2 rfl k hB.2 w0 A I a w L hI hR
 ·exact h1 rfl k hB.1 w0 A I a w L hI hR
theorem k_block {id : Nat} {c : Code} {l : LS} {Q : Ex → LS → Prop} (h : OkL P N c l (blockL id Q)) : OkL P N (.block id c) l Q := fun k hB w0 A I a w L hI hR => by
 refine wp_block (wp_mono (h k hB w0 A I a w L hI hR) fun e a w h => ?_)
 cases e with
 | normal => exact h
 | exit i =>
  obtain ⟨σ', L', h1, l', h2, h3⟩ := h
  simp only [Exit.inBlock]
  unfold blockL at h3
  split
  ·rename_i hi
   simp only [hi, if_true] at h3
   exact ⟨σ', L', h1, l', h2, h3⟩
  ·rename_i hi
   simp only [hi, if_false] at h3
   exact ⟨σ', L', h1, l', h2, h3⟩
 | ret => exact h
 | _ => exact h.elim
theorem k_join {X : Type} {a b : Code} {l : LS} {Q : Ex → LS → Prop} (J : X → LS) (K : X → Prop) (hb : ∀ x, K x → OkL P N b (J x) Q) (ha : OkL P N a l (seqL (fun l' => ∃ x, K x ∧ wk l' (J x)) Q)) : OkL P N (.seq a b) l Q :=
 k_seq (ha.mono fun e l' h => by
  cases e with
  | normal => obtain ⟨x, h1, h2⟩ := h; exact (hb x h1).weak h2
  | _ => exact h)
def ptBox : SV → SV
 | .box cs => .d false [.pt (eraR cs)]
 | x => x
theorem Rel.learn {M : Nat} {w0 : World} {A : Nat → Prop} {I : Bor} {σ : St} {a : Act} {w : World} {L : Lab} {r : Nat} {sv : SV} (hR : Rel P N M w0 A I σ a w L) (hr : r < N) (hu : σ r = .u) (hn : refOf sv = none) (hl : isLab sv = false)
  (hs : ∀ (tm : Nat → Value) (σ : St) (s : Nat), RelS P (Zof w0 A L w) L w tm σ s (a.tmps.getD r undef) sv) : Rel P N M w0 A I (fun s => if s = r then sv else σ s) a w L := by
 refine ⟨hR.dfr, hR.siz, hR.ev, hR.inj, hR.lab, fun s h => ?_, hR.hA, hR.pin, fun s => ?_⟩
 ·have : s ≠ r := by omega
  simp only [if_neg this]; exact hR.out s h
 ·by_cases h : s = r
  ·subst h; simp only [if_true]; exact hs _ _ _
  ·simp only [if_neg h]
   refine (hR.slot s).keep (fun b h => ⟨h, rfl⟩) (fun b q _ h => ⟨h, rfl⟩) fun x hx hrt => ?_
   have hxr : x ≠ r := by rintro rfl; rw [hu] at hrt; cases hrt
   exact ⟨fun _ _ h => ⟨h, rfl⟩, rfl, by simp only [if_neg hxr]; exact hrt, by simp only [if_neg hxr]⟩
theorem Rel.frzBox {w0 : World} {A : Nat → Prop} {I : Bor} {σ : St} {a : Act} {w : World} {L : Lab} {r : Nat} {cs : List C} (hR : Rel P N N w0 A I σ a w L) (hr : σ r = .box cs) :
  ∃ L', Rel P N N w0 A I (fun s => if s = r then .d false [.pt (eraR cs)] else killSV r (σ s)) a w L' := by
 have hrN : r < N := by
  rcases Nat.lt_or_ge r N with h | h
  ·exact h
  ·have := hR.out r h; rw [hr] at this; cases this
 have h1 := hR.take (r := r) (f := fun _ => none) (Nat.le_refl N) rfl fun q l h => by cases h
 refine ⟨mapL L r (fun _ => none), ?_⟩
 have h2 := h1.learn (r := r) (sv := .d false [.pt (eraR cs)]) hrN (by simp [gone]) rfl rfl (fun tm σ' s => by
  have hs := hR.slot r
  rw [hr] at hs
  obtain ⟨b, e1, e2, arr, e, e3, e4, e5⟩ := hs
  show FrzV _ _ false (a.tmps.getD r undef) [.pt (eraR cs)]
  have hz : ∀ b', Zof w0 A L w b' → Zof w0 A (mapL L r fun _ => none) w b' ∧ w.heap[b']? = w.heap[b']? := fun b' h => ⟨⟨by simp [mapL, h.1], h.2⟩, rfl⟩
  have hnew : ∀ b' q, L b' = some (r, q) → Zof w0 A (mapL L r fun _ => none) w b' ∧ w.heap[b']? = w.heap[b']? := fun b' q h => by
   have := hR.lab b' _ h
   refine ⟨⟨by simp [mapL, h], this.1, ?_⟩, rfl⟩
   rcases this.2.1 with h | h
   ·exact .inr h
   ·exact .inl (hR.hA.2 b' h)
  rw [show a.tmps.getD r undef = .pointer (some ⟨b, 0, none⟩) from e1]
  refine ⟨⟨rfl, rfl⟩, fun j c hj => ?_⟩
  cases j with
  | succ j => simp at hj
  | zero =>
   simp at hj
   subst hj
   refine .pt (fun j => arr.getD j undef) (hnew b _ e2).1 (fun j c hj => ?_) fun j c hj => ?_
   ·obtain ⟨c0, h3, rfl⟩ := eraR_get hj
    have hlt : j < arr.size := by rw [e4]; exact (List.getElem?_eq_some_iff.1 h3).1
    simp [World.cell?, e3, hlt]
   ·obtain ⟨c0, h3, rfl⟩ := eraR_get hj
    exact (e5 j c0 h3).1.freeze hz fun b' q hb => hnew b' _ hb)
 have e : (fun s => if s = r then SV.d false [.pt (eraR cs)] else gone σ r s) = fun s => if s = r then .d false [.pt (eraR cs)] else killSV r (σ s) := by
  funext s
  unfold gone
  split <;> rfl
 rw [e] at h2
 exact h2
theorem k_frz {c : Code} {l : LS} {Q : Ex → LS → Prop} (r : Nat) (cs cs' : List C) (l' : LS) (hr : ofL l r = .box cs) (he : eraR cs = cs') (h1 : refsOk l' = true) (h2 : readL (fun s => if s = r then .d false [.pt cs'] else killSV r (ofL l s)) l' = l') (h : OkL P N c l' Q) : OkL P N c l Q := fun k hB w0 A I a w L hI hR => by
 obtain ⟨L', h3⟩ := hR.frzBox hr
 rw [he] at h3
 exact h k hB w0 A I a w L' hI (agree_rel h3 (agree_read h1 h2))
theorem q_n {K : LS → Prop} {Q : Ex → LS → Prop} {l : LS} (h : K l) : seqL K Q .normal l := h
theorem q_x {K : LS → Prop} {Q : Ex → LS → Prop} {i : Nat} {l : LS} (h : Q (.exit i) l) : seqL K Q (.exit i) l := h
theorem q_r {K : LS → Prop} {Q : Ex → LS → Prop} {l : LS} (h : Q .ret l) : seqL K Q .ret l := h
theorem b_n {Q : Ex → LS → Prop} {i : Nat} {l : LS} (h : Q .normal l) : blockL i Q .normal l := h
theorem b_r {Q : Ex → LS → Prop} {i : Nat} {l : LS} (h : Q .ret l) : blockL i Q .ret l := h
theorem b_x {Q : Ex → LS → Prop} {i : Nat} {l : LS} (h : Q .normal l) : blockL i Q (.exit i) l := by simpa [blockL] using h
def RegOk (P : Program) (N : Nat) (c : Code) (l0 l1 : LS) : Prop := ∀ Q : Ex → LS → Prop, Q .normal l1 → OkL P N c l0 Q
def xGo (P : Program) (ops : List Oper) (hs : List (Nat × HH)) (l0 l1 : LS) : Option (LS × List Prop) := match xL P ops.toArray hs 0 ops (ofL l0) with
 | some (σ', obs) => if refsOk l1 = true then some (readL σ' l1, obs) else none
 | none => none
theorem r_go {id : Nat} {ops : List Oper} {l0 : LS} (l1 : LS) (hs : List (Nat × HH)) (obs : List Prop) (e : xGo P ops hs l0 l1 = some (l1, obs)) (ho : allP obs) : RegOk P N (.region id ops.toArray false) l0 l1 := by
 intro Q hq
 refine Ok_of_pvC _ _ _ ?_
 show pvL P ops.toArray ops.toArray.toList (ofL l0) _
 rw [List.toList_toArray]
 unfold xGo at e
 split at e
 ·rename_i σ' obs' h1
  split at e
  ·rename_i hr
   simp only [Option.some.injEq, Prod.mk.injEq] at e
   obtain ⟨h2, rfl⟩ := e
   exact xL_ok _ _ _ _ _ h1 ho ⟨l1, .inr (agree_read hr h2), hq⟩
  ·cases e
 ·cases e
def okLn (r : Nat) : SV → Bool
 | .ref r' _ _ => r' != r
 | .addr r' q => r' != r || (match q with | [(0, _)] => true | _ => false)
 | _ => true
theorem okLn_ok {r : Nat} {x : SV} (h : okLn r x = true) : killLn r x = x := by
 cases x with
 | ref r' q n => simp [okLn] at h; simp [killLn, h]
 | addr r' q =>
  by_cases hr : r' = r
  ·subst hr
   rcases q with _ | ⟨⟨i, o⟩, _ | ⟨z, q⟩⟩
   ·simp [okLn] at h
   ·cases i with
    | zero => simp [killLn]
    | succ i => simp [okLn] at h
   ·cases i <;> simp [okLn] at h
  ·simp [killLn, hr]
 | _ => rfl
def okSV (r : Nat) : SV → Bool
 | .ref r' _ _ => r' != r
 | .addr r' _ => r' != r
 | _ => true
theorem okSV_ok {r : Nat} {x : SV} (h : okSV r x = true) : killSV r x = x := by
 cases x with
 | ref r' q n => simp [okSV] at h; simp [killSV, h]
 | addr r' q => simp [okSV] at h; simp [killSV, h]
 | _ => rfl
def hidB (T : List (Nat × Nat)) (l : LS) : Bool := (T.map (·.2)).all fun r => if eatT T r = true then (!isRoot (ofL l r) || isOvS (ofL l r)) && l.all fun x => okSV r x.2 else (!isRoot (ofL l r) || isBox (ofL l r)) && l.all fun x => okLn r x.2
theorem ofL_mem : ∀ (l : LS) (s : Nat), ofL l s = .u ∨ ∃ x ∈ l, ofL l s = x.2
 | [], _ => .inl rfl
 | (k, x) :: l, s => by
  simp only [ofL, upd]
  by_cases h : s = k
  ·rw [if_pos h]; exact .inr ⟨(k, x), List.mem_cons_self, rfl⟩
  ·rw [if_neg h]
   rcases ofL_mem l s with h1 | ⟨y, h1, h2⟩
   ·exact .inl h1
   ·exact .inr ⟨y, List.mem_cons_of_mem _ h1, h2⟩
theorem hidB_ok {T : List (Nat × Nat)} {l : LS} (h : hidB T l = true) : hid T (ofL l) := by
 intro r hr
 have h0 := List.all_eq_true.1 h r hr
 split
 ·rename_i he
  simp only [he, if_true] at h0
  have h1 := Bool.and_eq_true_iff.1 h0
  refine ⟨fun hroot => ?_, fun s => ?_⟩
  ·have := h1.1
   rw [hroot] at this
   simpa using this
  ·rcases ofL_mem l s with h2 | ⟨x, h2, h3⟩
   ·rw [h2]; rfl
   ·rw [h3]; exact okSV_ok (List.all_eq_true.1 h1.2 x h2)
 ·rename_i he
  simp only [he, Bool.false_eq_true, if_false] at h0
  have h1 := Bool.and_eq_true_iff.1 h0
  refine ⟨fun hroot => ?_, fun s => ?_⟩
  ·have := h1.1
   rw [hroot] at this
   simpa using this
  ·rcases ofL_mem l s with h2 | ⟨x, h2, h3⟩
   ·rw [h2]; rfl
   ·rw [h3]; exact okLn_ok (List.all_eq_true.1 h1.2 x h2)
def xGoD (P : Program) (n : Nat) (T : List (Nat × Nat)) (ops : List Oper) (hs : List (Nat × HH)) (l0 l1 : LS) : Option (LS × List Prop) := if (drawB ops.toArray n T && hidB T l0) = true then (match xD P ops.toArray (rtOf T (ofL l0)) T hs 0 (ops.take n) (ofL l0) with
 | some (σ', o1) => (match xL P ops.toArray hs n (ops.drop n) σ' with
  | some (σ2, o2) => if refsOk l1 = true then some (readL σ2 l1, o1 ++ o2) else none
  | none => none)
 | none => none) else none
theorem r_draw {id : Nat} {ops : List Oper} {l0 : LS} (hm : P.follows .mixedOrders = true) (n : Nat) (T : List (Nat × Nat)) (l1 : LS) (hs : List (Nat × HH)) (obs : List Prop) (e : xGoD P n T ops hs l0 l1 = some (l1, obs)) (ho : allP obs) : RegOk P N (.region id ops.toArray true) l0 l1 := by
 intro Q hq
 refine Ok_of_pvC _ _ _ ?_
 unfold xGoD at e
 split at e
 ·rename_i hB
  simp only [Bool.and_eq_true] at hB
  refine ⟨hm, n, T, hB.1, hidB_ok hB.2, ?_⟩
  rw [List.toList_toArray]
  split at e
  ·rename_i σ' o1 h1
   split at e
   ·rename_i σ2 o2 h2
    split at e
    ·rename_i hr
     simp only [Option.some.injEq, Prod.mk.injEq] at e
     obtain ⟨h3, rfl⟩ := e
     rw [allP_append] at ho
     exact xD_ok _ _ _ _ _ h1 ho.1 (xL_ok _ _ _ _ _ h2 ho.2 ⟨l1, .inr (agree_read hr h3), hq⟩)
    ·cases e
   ·cases e
  ·cases e
 ·cases e
theorem k_reg {c : Code} {l0 l1 : LS} {Q : Ex → LS → Prop} (h : RegOk P N c l0 l1) (hq : Q .normal l1) : OkL P N c l0 Q := h Q hq
theorem k_sreg {c b : Code} {l0 l1 : LS} {Q : Ex → LS → Prop} (h : RegOk P N c l0 l1) (hq : OkL P N b l1 Q) : OkL P N (.seq c b) l0 Q := k_seq (h _ hq)
section
variable {X Y : Type}
def iterO (body : X → Option (X ⊕ Y)) : Nat → X → Option Y
 | 0, _ => none
 | n + 1, x => match body x with
  | some (.inl x') => iterO body n x'
  | some (.inr y) => some y
  | none => none
open Classical in
noncomputable def loopO (body : X → Option (X ⊕ Y)) (x : X) : Option Y := if h : ∃ n y, iterO body n x = some y then some (Classical.choose (Classical.choose_spec h)) else none
theorem iterO_uniq {body : X → Option (X ⊕ Y)} : ∀ (n m : Nat) (x : X) (y y' : Y), iterO body n x = some y → iterO body m x = some y' → y = y'
 | 0, _, _, _, _, h, _ => by cases h
 | _ + 1, 0, _, _, _, _, h => by cases h
 | n + 1, m + 1, x, y, y', h1, h2 => by
  simp only [iterO] at h1 h2
  split at h1
  ·rename_i x' hb
   rw [hb] at h2
   exact iterO_uniq n m x' y y' h1 h2
  ·rename_i z hb
   rw [hb] at h2
   exact Option.some.inj (h1.symm.trans h2)
  ·cases h1
theorem loopO_some {body : X → Option (X ⊕ Y)} {x : X} {y : Y} : loopO body x = some y ↔ ∃ n, iterO body n x = some y := by
 unfold loopO
 constructor
 ·intro h
  split at h
  ·rename_i hx
   have := Classical.choose_spec (Classical.choose_spec hx)
   simp only [Option.some.injEq] at h
   rw [h] at this
   exact ⟨_, this⟩
  ·cases h
 ·rintro ⟨n, hn⟩
  have hx : ∃ n y, iterO body n x = some y := ⟨n, y, hn⟩
  rw [dif_pos hx]
  exact congrArg some (iterO_uniq _ _ _ _ _ (Classical.choose_spec (Classical.choose_spec hx)) hn)
theorem loopO_eq (body : X → Option (X ⊕ Y)) (x : X) : loopO body x = match body x with
  | some (.inl x') => loopO body x'
  | some (.inr y) => some y
  | none => none := by
 apply Option.ext
 intro y
 rw [loopO_some]
 constructor
 ·rintro ⟨n, hn⟩
  cases n with
  | zero => cases hn
  | succ n =>
   simp only [iterO] at hn
   split at hn
   ·exact loopO_some.2 ⟨n, hn⟩
   ·exact hn
   ·cases hn
 ·intro h
  split at h
  ·rename_i x' hb
   obtain ⟨n, hn⟩ := loopO_some.1 h
   exact ⟨n + 1, by simp only [iterO, hb]; exact hn⟩
  ·rename_i z hb
   exact ⟨1, by simp only [iterO, hb]; exact h⟩
  ·cases h
def loopQ (o : X ⊕ Y) (J : X → LS) (Q : Ex → LS → Prop) : Ex → LS → Prop := fun e l' => match e with
 | .normal => ∃ x', o = .inl x' ∧ wk l' (J x')
 | e => Q e l'
theorem k_loop {c : Code} {l : LS} {Q : Ex → LS → Prop} {body : X → Option (X ⊕ Y)} {x0 : X} {y : Y} (J : X → LS) (h : loopO body x0 = some y) (h0 : wk l (J x0))
  (hr : ∀ x o, body x = some o → (∀ y', o = .inr y' → y' = y) → OkL P N c (J x) (loopQ o J Q)) : OkL P N (.loop c) l Q := by
 refine OkL.weak ?_ h0
 intro k hB w0 A I a w L hI hR
 obtain ⟨n, hn⟩ := loopO_some.1 h
 refine wp_loop_x (X := X × Nat) (fun z a w => iterO body z.2 z.1 = some y ∧ ∃ L, Rel P N N w0 A I (ofL (J z.1)) a w L) (fun z => z.2) (x0, n) ⟨hn, L, hR⟩ fun z a w ⟨hz, L, hR⟩ => ?_
 obtain ⟨x, m⟩ := z
 cases m with
 | zero => cases hz
 | succ m =>
  simp only [iterO] at hz
  have go : ∀ o, body x = some o → (∀ x', o = .inl x' → iterO body m x' = some y) → (∀ y', o = .inr y' → y' = y) → c.wp P (Exit.then (fun a' w' => ∃ z' : X × Nat, (iterO body z'.2 z'.1 = some y ∧ ∃ L, Rel P N N w0 A I (ofL (J z'.1)) a' w' L) ∧ z'.2 < m + 1) (lift P N w0 A I fun e σ => ∃ l', (σ = ofL l' ∨ agree l' σ) ∧ Q e l')) a w := fun o hb h1 h2 => by
   refine wp_mono (hr x o hb h2 k hB w0 A I a w L hI hR) fun e a w h => ?_
   cases e with
   | normal =>
    obtain ⟨σ, L, h3, l', h4, x', h5, h6⟩ := h
    refine ⟨(x', m), ⟨h1 x' h5, L, ?_⟩, Nat.lt_succ_self m⟩
    rcases h4 with rfl | h4
    ·exact agree_rel h3 h6
    ·exact agree_rel (agree_rel h3 h4) h6
   | exit id => exact h
   | ret => exact h
   | _ => exact h.elim
  split at hz
  ·rename_i x' hb
   exact go _ hb (fun x'' h => by cases h; exact hz) (fun y' h => by cases h)
  ·rename_i y' hb
   exact go _ hb (fun x'' h => by cases h) (fun y'' h => by cases h; exact Option.some.inj hz)
  ·cases hz
end
theorem lq_n {X Y : Type} {o : X ⊕ Y} {J : X → LS} {Q : Ex → LS → Prop} {l : LS} (x' : X) (h1 : o = .inl x') (h2 : wk l (J x')) : loopQ o J Q .normal l := ⟨x', h1, h2⟩
theorem lq_x {X Y : Type} {o : X ⊕ Y} {J : X → LS} {Q : Ex → LS → Prop} {l : LS} {i : Nat} (h : Q (.exit i) l) : loopQ o J Q (.exit i) l := h
theorem lq_r {X Y : Type} {o : X ⊕ Y} {J : X → LS} {Q : Ex → LS → Prop} {l : LS} (h : Q .ret l) : loopQ o J Q .ret l := h
def endL (P : Program) (fn : Func) (args : List Arg) (res : Res) : Ex → LS → Prop
 | .exit _, _ => False
 | _, l => ∃ ls, retVs P (ofL l) fn.results.toList = some ls ∧ ovOk ls = true ∧ ls.map (·.1) = res.vals ∧ outsOf (ofL l) ((List.range args.length).zip args) = some res.outs
end Go.PV

/-
 A walk over pure values: a contract from rules.
 Conditions: none.
-/
namespace Go.PV
variable {P : Program} {N : Nat} {w0 : World} {A : Nat → Prop} {I : Bor}
theorem Meets_ofL {f : FuncId} {fn : Func} {c : Code} {args : List Arg} {res : Res} (hc : callable P f = true) (hf : P.funcs[f]? = some fn) (hb : fn.body = some c)
  (hN : (decide (args.length ≤ fn.ntmps) && codeB 0 fn.ntmps c && args.all notPtrA) = true) {l0 : LS} (hl0 : (List.range args.length).zip (args.map argSV) = l0) (h : OkL P fn.ntmps c l0 (endL P fn args res)) : Meets P f args res := by
 simp only [Bool.and_eq_true, decide_eq_true_eq] at hN
 refine ⟨hc, fun w A vals h1 h4 => ?_⟩
 refine calls_of_wp hf hb ?_
 have hR := start_rel (P := P) (N := fn.ntmps) h1 hN.1.1 h4
 refine wp_mono (h 0 hN.1.2 w A nob _ w _ rfl (by subst hl0; exact hR)) fun e a' w' hl => ?_
 cases e with
 | normal =>
  obtain ⟨σ, L, h5, l', h6, h7⟩ := hl
  obtain ⟨ls, g1, g2, g3, g4⟩ := h7
  exact end_ok (σ := ofL l') (L := L) (by
   rcases h6 with rfl | h6
   ·exact h5
   ·exact agree_rel h5 h6) ⟨ls, g1, g2, g3⟩
 | ret =>
  obtain ⟨σ, L, h5, l', h6, h7⟩ := hl
  obtain ⟨ls, g1, g2, g3, g4⟩ := h7
  exact end_ok (σ := ofL l') (L := L) (by
   rcases h6 with rfl | h6
   ·exact h5
   ·exact agree_rel h5 h6) ⟨ls, g1, g2, g3⟩
 | exit id =>
  obtain ⟨σ, L, h5, l', h6, h7⟩ := hl
  exact h7.elim
 | _ => exact hl.elim
def endLB (P : Program) (fn : Func) (vals : List RV) (x' : SV) : Ex → LS → Prop
 | .exit _, _ => False
 | _, l => ∃ ls, retVs P (ofL l) fn.results.toList = some ls ∧ ovOk ls = true ∧ (ls.all fun y => !isOvR y.1 || y.2 != 0) = true ∧ ls.map (·.1) = vals ∧ ofL l 0 = x'
theorem MeetsB_ofL {f : FuncId} {fn : Func} {c : Code} {x x' : SV} {args : List Arg} {vals : List RV} (hc : callable P f = true) (hf : P.funcs[f]? = some fn) (hb : fn.body = some c)
  (hN : (decide (args.length + 1 ≤ fn.ntmps) && codeB 1 fn.ntmps c && args.all notPtrA) = true) (hx' : (isOwnR x' || match x' with | .u => true | _ => false) = true) {l0 : LS} (hl0 : (List.range (args.length + 1)).zip (x :: args.map argSV) = l0) (h : OkL P fn.ntmps c l0 (endLB P fn vals x')) : MeetsB P f x args vals x' := by
 simp only [Bool.and_eq_true, decide_eq_true_eq] at hN
 refine ⟨hc, fun w A L0 v0 vs h1 h2 h3 h4 h5 => ?_⟩
 refine calls_of_wp hf hb ?_
 have hR := start_relB (P := P) (N := fn.ntmps) h1 h2 h3 hN.1.1 h4 h5
 refine wp_mono (h 1 hN.1.2 w _ _ _ w _ rfl (by subst hl0; exact hR)) fun e a' w' hl => ?_
 cases e with
 | normal =>
  obtain ⟨σ, L, h5, l', h6, h7⟩ := hl
  obtain ⟨ls, g1, g2, g0, g3, g4⟩ := h7
  exact endB_ok (σ := ofL l') (L := L) (by
   rcases h6 with rfl | h6
   ·exact h5
   ·exact agree_rel h5 h6) ⟨⟨ls, g1, g2, g0, g3⟩, g4, hx'⟩
 | ret =>
  obtain ⟨σ, L, h5, l', h6, h7⟩ := hl
  obtain ⟨ls, g1, g2, g0, g3, g4⟩ := h7
  exact endB_ok (σ := ofL l') (L := L) (by
   rcases h6 with rfl | h6
   ·exact h5
   ·exact agree_rel h5 h6) ⟨⟨ls, g1, g2, g0, g3⟩, g4, hx'⟩
 | exit id =>
  obtain ⟨σ, L, h5, l', h6, h7⟩ := hl
  exact h7.elim
 | _ => exact hl.elim
theorem eb_ret {fn : Func} {vals : List RV} {x' : SV} {l : LS} {ls : List (RV × Nat)} (h1 : retVs P (ofL l) fn.results.toList = some ls) (h2 : ovOk ls = true) (h0 : (ls.all fun y => !isOvR y.1 || y.2 != 0) = true) (h3 : ls.map (·.1) = vals) (h4 : ofL l 0 = x') : endLB P fn vals x' .ret l := ⟨ls, h1, h2, h0, h3, h4⟩
theorem e_ret {fn : Func} {args : List Arg} {vals : List RV} {l : LS} {ls : List (RV × Nat)} (h1 : retVs P (ofL l) fn.results.toList = some ls) (h2 : ovOk ls = true) (h3 : ls.map (·.1) = vals) (h4 : outsOf (ofL l) ((List.range args.length).zip args) = some []) : endL P fn args { vals := vals } .ret l := ⟨ls, h1, h2, h3, h4⟩
theorem e_end {fn : Func} {args : List Arg} {vals : List RV} {l : LS} {ls : List (RV × Nat)} (h1 : retVs P (ofL l) fn.results.toList = some ls) (h2 : ovOk ls = true) (h3 : ls.map (·.1) = vals) (h4 : outsOf (ofL l) ((List.range args.length).zip args) = some []) : endL P fn args { vals := vals } .normal l := ⟨ls, h1, h2, h3, h4⟩
theorem ite_t {α : Type} {b : Bool} {x y : Option α} {r : α} (hb : b = true) (h : (if b = true then x else y) = some r) : x = some r := by rwa [if_pos hb] at h
theorem ite_f {α : Type} {b : Bool} {x y : Option α} {r : α} (hb : b = false) (h : (if b = true then x else y) = some r) : y = some r := by rwa [if_neg (by simp [hb])] at h
def idxO {α : Type} (xs : List α) (i : Int) : Option α := if 0 ≤ i then xs[i.toNat]? else none
theorem idxO_some {α : Type} {xs : List α} {i : Int} {x : α} (h : idxO xs i = some x) : 0 ≤ i ∧ xs[i.toNat]? = some x := by
 unfold idxO at h
 split at h
 ·exact ⟨by assumption, h⟩
 ·cases h
theorem map_get {α β : Type} {xs : List α} {n : Nat} {x : α} (f : α → β) (h : xs[n]? = some x) : (xs.map f)[n]? = some (f x) := by simp [h]
def eI (n : Int) : List C := [.raw (.int .i64 n)]
def eU (k : IntKind) (n : Int) : List C := [.raw (.int k n)]
def eB (b : Bool) : List C := [.raw (.bool b)]
def eT (s : ByteArray) : List C := [.raw (.string s)]
def eP {α β : Type} (f : α → List C) (g : β → List C) (x : α × β) : List C := f x.1 ++ g x.2
def eF {α : Type} (f : α → List C) (l : List α) : List C := [.sl none (l.map f)]
def eO {α : Type} (t : TypeId) (f : α → List C) (l : List α) : List C := [.sl (some t) (l.map f)]
end Go.PV

/-
 A walk over pure values: small laws that the written walks lean on.
 Conditions: none.
-/
namespace Go.PV
variable {P : Program} {N : Nat}
def w64 (n : Int) : Int := IntKind.i64.wrap n
def iand (k : IntKind) (x y : Int) : Int := k.wrap ((BitVec.ofInt k.bits x) &&& (BitVec.ofInt k.bits y)).toNat
def ishr (k : IntKind) (x y : Int) : Int := x.fdiv (2 ^ (min y.toNat k.bits))
def ishl (k : IntKind) (x y : Int) : Int := k.wrap (x * 2 ^ (min y.toNat k.bits))
open Classical in
noncomputable def fuelO {α : Type} (f : Nat → Option α) : Option α := if h : ∃ k, (f k).isSome = true then f (Classical.choose h) else none
theorem fuelO_some {α : Type} {f : Nat → Option α} {r : α} (h : fuelO f = some r) : ∃ k, f k = some r := by
 unfold fuelO at h
 split at h
 ·exact ⟨_, h⟩
 ·cases h
theorem fuelO_eq {α : Type} {f : Nat → Option α} {v : α} (k : Nat) (h : f k = some v) (hu : ∀ k r, f k = some r → r = v) : fuelO f = some v := by
 have hx : ∃ k, (f k).isSome = true := ⟨k, by rw [h]; rfl⟩
 unfold fuelO
 rw [dif_pos hx]
 have hc := Classical.choose_spec hx
 obtain ⟨r, hr⟩ := Option.isSome_iff_exists.1 hc
 rw [hr, hu _ _ hr]
def guardO (p : Prop) [Decidable p] : Option Unit := if p then some () else none
theorem guardO_some {p : Prop} [Decidable p] {u : Unit} (h : guardO p = some u) : p := by
 unfold guardO at h
 split at h
 ·assumption
 ·cases h
theorem RegOk.of_eq {c : Code} {l0 l1 l2 : LS} (h : RegOk P N c l0 l1) (e : l1 = l2) : RegOk P N c l0 l2 := e ▸ h
section
variable {α β : Type} {xs ys : List α} {f : α → List C} {g : β → List C}
theorem gre {rows : List (List C)} {n o : Nat} {row : List C} (h : rows[n]? = some row) : getRow rows [(n, o)] = some (row.drop o) := by simp [getRow, h]
theorem grs {rows rows' : List (List C)} {n o m o' : Nat} {q : Path} {row : List C} {e : TypeId} (h : rows[n]? = some row) (h2 : row[o]? = some (.sl (some e) rows')) : getRow rows ((n, o) :: (m, o') :: q) = getRow rows' ((m, o') :: q) := by
 cases q <;> simp [getRow, h, h2]
theorem gr0 {cells : List C} {rows' : List (List C)} {o m o' : Nat} {q : Path} {e : TypeId} (h2 : cells[o]? = some (.sl (some e) rows')) : getRow [cells] ((0, o) :: (m, o') :: q) = getRow rows' ((m, o') :: q) := grs (n := 0) rfl h2
theorem setL_step {rows : List (List C)} {n o : Nat} {q : Path} {cs : List C} : setL rows ((n, o) :: q) cs = rows.modify n (fun r => match q with | [] => r.take o ++ cs ++ r.drop (o + cs.length) | _ :: _ => setR r o q cs) := by
 induction rows generalizing n with
 | nil => cases n <;> simp [setL]
 | cons r rows ih =>
  cases n with
  | zero => cases q <;> simp [setL]
  | succ n => cases q <;> simp [setL, ih]
theorem setR_at {row : List C} {o : Nat} {q : Path} {cs : List C} {c : C} (h : row[o]? = some c) : setR row o q cs = row.take o ++ [setC c q cs] ++ row.drop (o + 1) := by
 induction row generalizing o with
 | nil => simp at h
 | cons r row ih =>
  cases o with
  | zero => simp at h; subst h; simp [setR]
  | succ o => simp at h; simp [setR, ih h]
theorem map_modify {n : Nat} {x y : α} {F : List C → List C} (h : xs[n]? = some x) (h2 : F (f x) = f y) : (xs.map f).modify n F = (xs.set n y).map f := by
 apply List.ext_getElem?
 intro j
 rw [List.getElem?_modify, List.getElem?_map, List.getElem?_map, List.getElem?_set]
 by_cases hj : n = j
 ·subst hj
  obtain ⟨hlt, hx⟩ := List.getElem?_eq_some_iff.1 h
  subst hx
  simp [h2, hlt]
 ·simp [hj]
theorem set1 {n o : Nat} {x y : α} {cs : List C} (h : xs[n]? = some x) (h2 : (f x).take o ++ cs ++ (f x).drop (o + cs.length) = f y) : setL (xs.map f) [(n, o)] cs = (xs.set n y).map f := by
 rw [setL_step]; exact map_modify h h2
theorem set2 {n o m o' : Nat} {q : Path} {x y : α} {cs : List C} {e : TypeId} {rows rows' : List (List C)} (h : xs[n]? = some x) (h1 : (f x)[o]? = some (.sl (some e) rows)) (h3 : setL rows ((m, o') :: q) cs = rows') (h2 : (f x).take o ++ [.sl (some e) rows'] ++ (f x).drop (o + 1) = f y) :
  setL (xs.map f) ((n, o) :: (m, o') :: q) cs = (xs.set n y).map f := by
 rw [setL_step]
 refine map_modify h ?_
 show setR (f x) o ((m, o') :: q) cs = f y
 rw [setR_at h1, ← h2, ← h3]
 rfl
theorem rep_fix (f : α → List C) (z : α) {n : Nat} : List.replicate n (f z) = (List.replicate n z).map f := by simp
theorem rows_len {sz : Nat} (h : ∀ x, (f x).length = sz) : ∀ row ∈ xs.map f, row.length = sz := by
 intro row hr
 obtain ⟨x, _, rfl⟩ := List.mem_map.1 hr
 exact h x
theorem eraL_enc {h : α → List C} (hf : ∀ x, eraR (f x) = h x) : eraL (xs.map f) = xs.map h := by
 rw [eraL_map, List.map_map]; exact List.map_congr_left fun x _ => hf x
theorem era_O {t : TypeId} {h : α → List C} (hf : ∀ x, eraR (f x) = h x) (l : List α) : eraR (eO t f l) = eF h l := by
 show [era (.sl (some t) (l.map f))] = _
 simp only [era, eraL_enc hf]; rfl
theorem eraR_append (a b : List C) : eraR (a ++ b) = eraR a ++ eraR b := by simp [eraR_map]
theorem era_P {h : α → List C} {k : β → List C} (hf : ∀ x, eraR (f x) = h x) (hg : ∀ x, eraR (g x) = k x) (x : α × β) : eraR (eP f g x) = eP h k x := by
 unfold eP; rw [eraR_append, hf, hg]
theorem er_I (n : Int) : eraR (eI n) = eI n := rfl
theorem erc_raw {v : Value} {r r' : List C} (h2 : eraR r = r') : eraR (.raw v :: r) = .raw v :: r' := by
 show era (.raw v) :: eraR r = _
 simp only [era, h2]
theorem wnR_append (a b : List C) : wnR (a ++ b) = (wnR a && wnR b) := by
 induction a with
 | nil => simp [wnR]
 | cons c a ih => simp [wnR, ih, Bool.and_assoc]
theorem wnL_enc (h : ∀ x, wnR (f x) = true) : wnL (xs.map f) = true := by
 induction xs with
 | nil => rfl
 | cons x xs ih => simp [wnL, h, ih]
theorem wn_I (n : Int) : wnR (eI n) = true := rfl
theorem wn_P (h1 : ∀ x, wnR (f x) = true) (h2 : ∀ x, wnR (g x) = true) (x : α × β) : wnR (eP f g x) = true := by unfold eP; rw [wnR_append, h1, h2]; rfl
theorem wn_O {t : TypeId} (h1 : ∀ x, wnR (f x) = true) (l : List α) : wnR (eO t f l) = true := by simp [eO, wnR, wnC, wnL_enc h1]
theorem wnR1 {t : TypeId} {l : List (List C)} {r : List C} (h : wnL l = true) (h2 : wnR r = true) : wnR (.sl (some t) l :: r) = true := by simp [wnR, wnC, h, h2]
end
theorem sa_p {v : Value} {l : List RV} (h : l.all simpleR = true) : (RV.p v :: l).all simpleR = true := by simp [simpleR, h]
theorem sa_o {g : Bool} {cs : List C} {l : List RV} (h0 : wnR cs = true) (h : l.all simpleR = true) : (RV.ov g cs :: l).all simpleR = true := by simp only [List.all_cons, simpleR, h0, h, Bool.and_self]
end Go.PV

/-
 A walk over pure values: what the statement hands in, as data; what it wants to have back.
 Conditions: none.
-/
namespace Go.PV
open Go.Deep Go.ChangeShapes Go.WideShapes Go.RowKit
variable {P : Program}
inductive Ty where
 | int (k : IntKind)
 | bool
 | str
 | sl (a : Ty)
 | one (a : Ty)
 | pair (a b : Ty)
def Ty.α : Ty → Type
 | .int _ => Int
 | .bool => Bool
 | .str => ByteArray
 | .sl a => List a.α
 | .one a => a.α
 | .pair a b => a.α × b.α
def Ty.dflt : (T : Ty) → T.α
 | .int _ => (0 : Int)
 | .bool => false
 | .str => ByteArray.empty
 | .sl _ => []
 | .one a => a.dflt
 | .pair a b => (a.dflt, b.dflt)
def Ty.enc : (T : Ty) → T.α → List C
 | .int k => eU k
 | .bool => eB
 | .str => eT
 | .sl a => eF a.enc
 | .one a => a.enc
 | .pair a b => eP a.enc b.enc
def Ty.ok : (T : Ty) → T.α → Prop
 | .int k => fun n => (Lit.int k n).wf = true
 | .bool => fun _ => True
 | .str => fun s => s.size ≤ maxLen
 | .sl a => fun (l : List a.α) => l.length ≤ maxLen ∧ ∀ x ∈ l, a.ok x
 | .one a => a.ok
 | .pair a b => fun x => a.ok x.1 ∧ b.ok x.2
def tyX (P : Program) : Nat → Ty → (TypeId ⊕ (List Field × Nat × Nat)) → Bool
 | 0, _, _ => false
 | n + 1, T, .inl t => (match T, P.underlying t with
  | .int k, some (.int k') => decide (k = k')
  | .bool, some .bool => true
  | .str, some .string => true
  | .sl a, some (.slice e) => tyX P n a (.inl e)
  | .one a, some (.struct fs) => (match fs.toList with
   | [f] => tyX P n a (.inr ([f], 0, P.cellsOf t))
   | _ => false)
  | .pair a b, some (.struct fs) => tyX P n (.pair a b) (.inr (fs.toList, 0, P.cellsOf t))
  | _, _ => false)
 | n + 1, T, .inr ([f], o, tot) => decide (f.offset = o) && decide (o + P.cellsOf f.type = tot) && tyX P n T (.inl f.type)
 | n + 1, .pair a b, .inr (f :: g :: l, o, tot) => decide (f.offset = o) && decide (o + P.cellsOf f.type ≤ tot) && tyX P n a (.inl f.type) && tyX P n b (.inr (g :: l, o + P.cellsOf f.type, tot))
 | _, _, _ => false
theorem tyX_int {n : Nat} {k : IntKind} {t : TypeId} (h : tyX P (n + 1) (.int k) (.inl t) = true) : P.underlying t = some (.int k) := by
 cases hu : P.underlying t with
 | none => simp [tyX, hu] at h
 | some d => cases d <;> simp [tyX, hu] at h <;> simp [h]
theorem tyX_bool {n : Nat} {t : TypeId} (h : tyX P (n + 1) .bool (.inl t) = true) : P.underlying t = some .bool := by
 cases hu : P.underlying t with
 | none => simp [tyX, hu] at h
 | some d => cases d <;> simp [tyX, hu] at h <;> simp
theorem tyX_str {n : Nat} {t : TypeId} (h : tyX P (n + 1) .str (.inl t) = true) : P.underlying t = some .string := by
 cases hu : P.underlying t with
 | none => simp [tyX, hu] at h
 | some d => cases d <;> simp [tyX, hu] at h <;> simp
theorem tyX_sl {n : Nat} {a : Ty} {t : TypeId} (h : tyX P (n + 1) (.sl a) (.inl t) = true) : ∃ e, P.underlying t = some (.slice e) ∧ tyX P n a (.inl e) = true := by
 cases hu : P.underlying t with
 | none => simp [tyX, hu] at h
 | some d => cases d <;> simp [tyX, hu] at h <;> exact ⟨_, rfl, h⟩
theorem tyX_one {n : Nat} {a : Ty} {t : TypeId} (h : tyX P (n + 1) (.one a) (.inl t) = true) : ∃ fs f, P.underlying t = some (.struct fs) ∧ fs.toList = [f] ∧ tyX P n a (.inr ([f], 0, P.cellsOf t)) = true := by
 cases hu : P.underlying t with
 | none => simp [tyX, hu] at h
 | some d =>
  cases d <;> simp only [tyX, hu, Bool.false_eq_true] at h
  rename_i fs
  split at h
  ·rename_i f hf
   exact ⟨fs, f, rfl, hf, h⟩
  ·cases h
theorem tyX_pair {n : Nat} {a b : Ty} {t : TypeId} (h : tyX P (n + 1) (.pair a b) (.inl t) = true) : ∃ fs, P.underlying t = some (.struct fs) ∧ tyX P n (.pair a b) (.inr (fs.toList, 0, P.cellsOf t)) = true := by
 cases hu : P.underlying t with
 | none => simp [tyX, hu] at h
 | some d => cases d <;> simp [tyX, hu] at h <;> exact ⟨_, rfl, h⟩
section
variable {H : Type} {enc : TypeId × Value → H} {w : World} {spare : Nat → Bool} {held : Bool}
def Stands (w : World) (T : Ty) (cs : List Value) : Prop := ∃ a : T.α, T.ok a ∧ (T.enc a).length = cs.length ∧ ∀ (j : Nat) (c : C), (T.enc a)[j]? = some c → Frz (fun b => b < w.heap.size) w (cs.getD j undef) c
theorem cell_lt {a : Addr} {v : Value} (h : w.cell? a = some v) : a.block < w.heap.size := by
 unfold World.cell? at h
 split at h
 ·rename_i hx; exact (Array.getElem?_eq_some_iff.1 hx).1
 ·cases h
theorem stands_of (n : Nat) : (∀ (T : Ty) (t : TypeId), tyX P n T (.inl t) = true → ∀ (fuel : Nat) (cs : List Value) (x : DataW H × List MemPlace), DataW.trod enc P w 0 spare held fuel t cs = some x → Stands w T cs) ∧
  (∀ (T : Ty) (fs : List Field) (o tot : Nat), tyX P n T (.inr (fs, o, tot)) = true → ∀ (fuel : Nat) (cs : List Value) (xs : List (DataW H × List MemPlace)), cs.length = tot → o ≤ tot →
   fs.mapM (fun f => DataW.trod enc P w 0 spare held fuel f.type ((cs.drop f.offset).take (P.cellsOf f.type))) = some xs → Stands w T (cs.drop o)) := by
 induction n with
 | zero => exact ⟨fun T t h => by simp [tyX] at h, fun T fs o tot h => by cases T <;> simp [tyX] at h⟩
 | succ n ih =>
  obtain ⟨ih1, ih2⟩ := ih
  constructor
  ·intro T t h fuel cs x hx
   cases fuel with
   | zero => simp [DataW.trod] at hx
   | succ fuel =>
    cases T with
    | int k =>
     have hu := tyX_int h
     obtain ⟨m, hcs, _, hw⟩ := DataW.trod_int hu hx
     subst hcs
     refine ⟨m, hw, rfl, fun j c hj => ?_⟩
     cases j with
     | zero => simp [Ty.enc, eU] at hj; subst hj; exact .raw rfl
     | succ j => simp [Ty.enc, eU] at hj
    | bool =>
     have hu := tyX_bool h
     obtain ⟨b, hcs, _⟩ := DataW.trod_bool hu hx
     subst hcs
     refine ⟨b, trivial, rfl, fun j c hj => ?_⟩
     cases j with
     | zero => simp [Ty.enc, eB] at hj; subst hj; exact .raw rfl
     | succ j => simp [Ty.enc, eB] at hj
    | str =>
     have hu := tyX_str h
     obtain ⟨s, hcs, _, hw⟩ := DataW.trod_string hu hx
     subst hcs
     refine ⟨s, hw, rfl, fun j c hj => ?_⟩
     cases j with
     | zero => simp [Ty.enc, eT] at hj; subst hj; exact .raw rfl
     | succ j => simp [Ty.enc, eT] at hj
    | sl a =>
     obtain ⟨e, hu, h⟩ := tyX_sl h
     rcases open_slice hu hx with ⟨rfl, _⟩ | ⟨ad, len, cap, m, n', D, Pl, rfl, _, hl, hm, hmm, _, hel⟩
     ·refine ⟨([] : List a.α), ⟨by simp, by simp⟩, rfl, fun j c hj => ?_⟩
      cases j with
      | zero => simp [Ty.enc, eF] at hj; subst hj; exact .nil
      | succ j => simp [Ty.enc, eF] at hj
     ·have hml : len ≤ m := by rw [hmm]; split <;> omega
      have : Inhabited a.α := ⟨a.dflt⟩
      have step : ∀ i, i < len → ∃ y : a.α × List Value, w.cells? 0 (ad.add (i * P.cellsOf e)) (P.cellsOf e) = some y.2 ∧ a.ok y.1 ∧ (a.enc y.1).length = y.2.length ∧ ∀ (j : Nat) (c : C), (a.enc y.1)[j]? = some c → Frz (fun b => b < w.heap.size) w (y.2.getD j undef) c := fun i hi => by
       obtain ⟨cs', h1, h2⟩ := hel i (by omega)
       obtain ⟨y, h3, h4, h5⟩ := ih1 a e h n' cs' _ h2
       exact ⟨(y, cs'), h1, h3, h4, h5⟩
      obtain ⟨f, hf⟩ := choose_lt step
      refine ⟨(List.range len).map fun i => (f i).1, ⟨by simp; omega, ?_⟩, rfl, fun j c hj => ?_⟩
      ·intro y hy
       obtain ⟨i, hi, rfl⟩ := List.mem_map.1 hy
       exact (hf i (List.mem_range.1 hi)).2.1
      ·cases j with
       | succ j => simp [Ty.enc, eF] at hj
       | zero =>
        simp only [Ty.enc, eF, List.getElem?_cons_zero, Option.some.injEq] at hj
        subst hj
        show Frz _ w (.slice (some ad) len cap) _
        cases len with
        | zero => exact .nil
        | succ len =>
         have hlen : ∀ i, i < len + 1 → (a.enc (f i).1).length = P.cellsOf e := fun i hi => by
          rw [(hf i hi).2.2.1]; exact (World.cells?_some (hf i hi).1).2.1
         have hget : ∀ (i : Nat) (row : List C), (List.map a.enc ((List.range (len + 1)).map fun i => (f i).1))[i]? = some row → i < len + 1 ∧ row = a.enc (f i).1 := fun i row hr => by
          simp only [List.map_map, List.getElem?_map] at hr
          by_cases hi : i < len + 1
          ·simp [hi] at hr; exact ⟨hi, hr.symm⟩
          ·simp [hi] at hr
         have key : ∀ (i o : Nat) (row : List C) (c : C), (List.map a.enc ((List.range (len + 1)).map fun i => (f i).1))[i]? = some row → row[o]? = some c →
           w.cell? (ad.add (i * P.cellsOf e + o)) = some ((f i).2.getD o undef) ∧ Frz (fun b => b < w.heap.size) w ((f i).2.getD o undef) c := fun i o row c hr ho => by
          obtain ⟨hi, rfl⟩ := hget i row hr
          have ho' : o < P.cellsOf e := by rw [← hlen i hi]; exact (List.getElem?_eq_some_iff.1 ho).1
          obtain ⟨_, hl2, hc2⟩ := World.cells?_some (hf i hi).1
          refine ⟨?_, (hf i hi).2.2.2 o c ho⟩
          have := hc2 o ho'
          rw [add_add] at this
          rw [this]
          rw [List.getElem?_eq_getElem (by omega)]
          simp [List.getD, List.getElem?_eq_getElem (show o < (f i).2.length by omega)]
         by_cases hz : P.cellsOf e = 0
         ·-- rows without cells
          obtain ⟨b, off, spot⟩ := ad
          exact absurd hz (by
           intro hz
           have h1 := hlen 0 (by omega)
           rw [hz] at h1
           have : ∀ (T : Ty) (x : T.α), (T.enc x).length ≠ 0 := by
            intro T
            induction T with
            | int k => intro x; simp [Ty.enc, eU]
            | bool => intro x; simp [Ty.enc, eB]
            | str => intro x; simp [Ty.enc, eT]
            | sl a _ => intro x; simp [Ty.enc, eF]
            | one a ih => intro x; exact ih x
            | pair a b iha ihb => intro x; simp only [Ty.enc, eP, List.length_append]; have := iha x.1; omega
           exact this a _ h1)
         ·have hlt0 : 0 < (a.enc (f 0).1).length := by rw [hlen 0 (by omega)]; omega
          have h00 := key 0 0 _ _ (by simp) (List.getElem?_eq_getElem hlt0)
          obtain ⟨b, off, spot⟩ := ad
          have hspot : spot = none := by
           have := World.cell?_spot h00.1
           simpa [Addr.add] using this
          subst hspot
          have hb := cell_lt h00.1
          simp [Addr.add] at hb
          have hadd : ∀ k, (Addr.mk b off none).add k = ⟨b, off + k, none⟩ := fun k => by
           unfold Addr.add; split <;> simp_all
          have h9 := Frz.sl (Z := fun b => b < w.heap.size) (w := w) (b := b) (off := off) (cap := cap) (sz := P.cellsOf e) (rows := List.map a.enc ((List.range (len + 1)).map fun i => (f i).1)) (fun i o => (f i).2.getD o undef)
           (by simpa using hl) (by first | exact hb | (split at hb <;> exact hb)) (by
            intro row hr
            obtain ⟨i, hi⟩ := List.mem_iff_getElem?.1 hr
            obtain ⟨h1, rfl⟩ := hget i row hi
            exact hlen i h1)
           (fun i row o c hr ho => by have := (key i o row c hr ho).1; rw [hadd] at this; rw [Nat.add_assoc]; exact this)
           (fun i row o c hr ho => (key i o row c hr ho).2)
          simpa using h9
    | one a =>
     obtain ⟨fs, f, hu, hfs, h⟩ := tyX_one h
     rw [DataW.trod_step] at hx
     unfold DataW.trodStep at hx
     simp only [hu] at hx
     ·split at hx
      ·rename_i hlen
       cases hm : fs.toList.mapM (fun f => DataW.trod enc P w 0 spare held fuel f.type ((cs.drop f.offset).take (P.cellsOf f.type))) with
       | none => simp [hm] at hx
       | some xs =>
        have := ih2 a fs.toList 0 (P.cellsOf t) (by rw [hfs]; exact h) fuel cs xs hlen (Nat.zero_le _) hm
        simpa [Stands, Ty.ok, Ty.enc, Ty.α] using this
      ·cases hx
    | pair a b =>
     obtain ⟨fs, hu, h⟩ := tyX_pair h
     rw [DataW.trod_step] at hx
     unfold DataW.trodStep at hx
     simp only [hu] at hx
     split at hx
     ·rename_i hlen
      cases hm : fs.toList.mapM (fun f => DataW.trod enc P w 0 spare held fuel f.type ((cs.drop f.offset).take (P.cellsOf f.type))) with
      | none => simp [hm] at hx
      | some xs =>
       have := ih2 (.pair a b) fs.toList 0 (P.cellsOf t) h fuel cs xs hlen (Nat.zero_le _) hm
       simpa using this
     ·cases hx
  ·intro T fs o tot h fuel cs xs hlen ho hm
   match fs with
   | [] => cases T <;> simp [tyX] at h
   | [f] =>
    have h' : f.offset = o ∧ o + P.cellsOf f.type = tot ∧ tyX P n T (.inl f.type) = true := by
     cases T <;> simpa [tyX, and_assoc] using h
    obtain ⟨h1, h2, h3⟩ := h'
    rw [List.mapM_cons] at hm
    cases hx : DataW.trod enc P w 0 spare held fuel f.type ((cs.drop f.offset).take (P.cellsOf f.type)) with
    | none => simp [hx] at hm
    | some x =>
     have := ih1 T f.type h3 fuel _ x hx
     rw [h1, List.take_of_length_le (by simp; omega)] at this
     exact this
   | f :: g :: l =>
    cases T with
    | pair a b =>
     simp only [tyX, Bool.and_eq_true, decide_eq_true_eq] at h
     obtain ⟨⟨⟨h1, h2⟩, h3⟩, h4⟩ := h
     rw [List.mapM_cons] at hm
     cases hx : DataW.trod enc P w 0 spare held fuel f.type ((cs.drop f.offset).take (P.cellsOf f.type)) with
     | none => simp [hx] at hm
     | some x =>
      cases hm2 : (g :: l).mapM (fun f => DataW.trod enc P w 0 spare held fuel f.type ((cs.drop f.offset).take (P.cellsOf f.type))) with
      | none => simp [hx, hm2] at hm
      | some xs' =>
       obtain ⟨y, g1, g2, g3⟩ := ih1 a f.type h3 fuel _ x hx
       obtain ⟨z, k1, k2, k3⟩ := ih2 b (g :: l) (o + P.cellsOf f.type) tot h4 fuel cs xs' hlen h2 hm2
       rw [h1] at g2 g3
       have hl1 : ((cs.drop o).take (P.cellsOf f.type)).length = P.cellsOf f.type := by simp; omega
       rw [hl1] at g2
       refine ⟨(y, z), ⟨g1, k1⟩, ?_, fun j c hj => ?_⟩
       ·simp only [Ty.enc, eP, List.length_append, g2, k2, List.length_drop]; omega
       ·simp only [Ty.enc, eP] at hj
        by_cases hjl : j < P.cellsOf f.type
        ·rw [List.getElem?_append_left (by omega)] at hj
         have := g3 j c hj
         have e : ((cs.drop o).take (P.cellsOf f.type)).getD j undef = (cs.drop o).getD j undef := by
          simp [List.getD, List.getElem?_take, hjl]
         rwa [e] at this
        ·rw [List.getElem?_append_right (by omega), g2] at hj
         have := k3 _ c hj
         have e : (cs.drop (o + P.cellsOf f.type)).getD (j - P.cellsOf f.type) undef = (cs.drop o).getD j undef := by
          simp only [List.getD, List.getElem?_drop]
          congr 2
          omega
         rwa [e] at this
    | _ => simp [tyX] at h
end
end Go.PV

/-
 A walk over pure values: from a contract to what the statement asks.
 Conditions: none.
-/
namespace Go.PV
open Go.Deep Go.ChangeShapes Go.WideShapes Go.RowKit Go.ChangeMaps
variable {P : Program}
def Ty.agg : Ty → Bool
 | .one _ => true
 | .pair _ _ => true
 | _ => false
theorem arg_of {H : Type} {enc : TypeId × Value → H} {W : World} {base n : Nat} {T : Ty} {t : TypeId} {v : Value} {d : DataW H} {p : List MemPlace} (hT : tyX P n T (.inl t) = true)
  (hv : Value.okWide P W .any base t v) (h : DataW.Trod enc P W 0 (fun _ => true) true t v d p) :
  ∃ a : T.α, T.ok a ∧ ArgV (fun b => b < W.heap.size) W v (mkA T.agg (T.enc a)) := by
 have h0 := h
 obtain ⟨fuel, hf⟩ := h
 obtain ⟨a, h1, h2, h3⟩ := (stands_of (P := P) (enc := enc) n).1 T t hT fuel _ _ hf
 refine ⟨a, h1, mkA_ok ?_⟩
 have hcells : ∀ j, v.cells.toList.getD j undef = v.cells.getD j undef := fun j => by
  simp [List.getD, Array.getD_eq_getD_getElem?]
 refine ⟨?_, fun j c hj => by rw [← hcells]; exact h3 j c hj⟩
 cases n with
 | zero => simp [tyX] at hT
 | succ n =>
  have plain : T.agg = false → (∀ arr, v ≠ .agg arr) → VShape T.agg v (T.enc a).length := fun hg hna => by
   have hc : v.cells = #[v] := by
    cases v <;> first | rfl | exact absurd rfl (hna _)
   rw [hg]
   unfold VShape
   simp only [Bool.false_eq_true, if_false]
   exact ⟨hc, by rw [h2, hc]; rfl⟩
  cases T with
  | int k =>
   obtain ⟨x, rfl, _⟩ := open_int (tyX_int hT) hv h0
   exact plain rfl (by intro arr h; cases h)
  | bool =>
   obtain ⟨x, rfl, _⟩ := open_bool (tyX_bool hT) hv h0
   exact plain rfl (by intro arr h; cases h)
  | str =>
   obtain ⟨x, rfl, _⟩ := open_string (tyX_str hT) hv h0
   exact plain rfl (by intro arr h; cases h)
  | sl b =>
   obtain ⟨e, hu, _⟩ := tyX_sl hT
   obtain ⟨ad, len, cap, rfl⟩ := okWide_slice hu hv
   exact plain rfl (by intro arr h; cases h)
  | one b =>
   obtain ⟨fs, f, hu, _⟩ := tyX_one hT
   unfold Value.okWide at hv
   simp only [hu] at hv
   obtain ⟨cs, rfl, _⟩ := hv
   exact ⟨cs, rfl, by rw [h2]; rfl⟩
  | pair b c =>
   obtain ⟨fs, hu, _⟩ := tyX_pair hT
   unfold Value.okWide at hv
   simp only [hu] at hv
   obtain ⟨cs, rfl, _⟩ := hv
   exact ⟨cs, rfl, by rw [h2]; rfl⟩
theorem law_calls {f : FuncId} {args : List Arg} {vals : Array Value} {W : World} {b : Bool} (hT : Tabs P (fun b => b < W.heap.size) W) (hm : Meets P f args { vals := [.p (.bool b)] }) (hb : b = true) (ha : ArgsV (fun b => b < W.heap.size) W vals.toList args) :
  Calls P f vals W fun e W' => e = .returned (.bool true) ∧ Below W.heap.size W W' := by
 subst hb
 refine (hm.2 W (fun b => b < W.heap.size) vals ⟨fun b hb => hb, hT⟩ ha.rep).mono fun e W' h => ?_
 obtain ⟨v, L, rfl, hp⟩ := h
 have hv := hp.val
 simp only [ResAt, RVat] at hv
 subst hv
 exact ⟨rfl, hp.ev.os, hp.ev.tape, hp.ev.output, hp.ev.size, fun k hk => hp.ev.block k hk (not_nob k)⟩
theorem vars_none {A : Nat → Prop} {W : World} (h : (varNames.all fun n => (P.globalNamed n).isNone) = true) : ∀ n ∈ varNames, ∀ g, P.globalNamed n = some g → A g ∧ ∃ v, W.cell? ⟨g, 0, none⟩ = some v ∧ varOk n v := fun n hn g hg => by
 have := List.all_eq_true.1 h n hn
 rw [hg] at this
 cases this
theorem tabs_none {A : Nat → Prop} {W : World} (h : P.globalNamed "internal/strconv.uint64pow10" = none) (h2 : ∀ n ∈ varNames, ∀ g, P.globalNamed n = some g → A g ∧ ∃ v, W.cell? ⟨g, 0, none⟩ = some v ∧ varOk n v) : Tabs P A W := ⟨fun g hg => (by rw [h] at hg; cases hg), h2⟩
end Go.PV

/-
 A walk over pure values: structs of two whole numbers compared.
 Conditions: none.
-/
namespace Go.PV
variable {P : Program}
theorem run_eq2 {t : TypeId} {f g : Field} {k : IntKind} {x1 x2 y1 y2 : Int} (w : World) (hu : P.underlying t = some (.struct #[f, g])) (hs : P.stoodInHeld t = false)
  (hf : P.underlying f.type = some (.int k)) (hg : P.underlying g.type = some (.int k)) (n1 : (f.name != "_") = true) (n2 : (g.name != "_") = true) (o1 : f.offset = 0) (o2 : g.offset = 1) :
  (Op.equalIn 10000 t (.agg #[.int k x1, .int k x2]) (.agg #[.int k y1, .int k y2])).run P w = .ok ((x1 == y1) && (x2 == y2)) w := by
 have hfs : P.fieldsOf t = #[f, g] := by simp [Program.fieldsOf, hu]
 rw [run_equalIn_struct w 9999 t _ _ (by rw [hfs]; exact hu) hs, hfs]
 have e1 : f.name ≠ "_" := by simpa using n1
 have e2 : g.name ≠ "_" := by simpa using n2
 have p : ∀ (h : Field) (cs : Array Value) (v : Value), P.underlying h.type = some (.int k) → cs[h.offset]? = some v → (part h.type cs h.offset).run P w = .ok v w := fun h cs v h1 h2 => by
  simp [part, isAgg, run_underlying h1, h2]
 simp only [Op.eqFields, e1, e2, ne_eq, not_false_eq_true, if_true, Sem.run_bind]
 rw [p f _ (.int k x1) hf (by simp [o1])]
 simp only [Result.andThen_ok]
 rw [p f _ (.int k y1) hf (by simp [o1])]
 simp only [Result.andThen_ok]
 rw [run_equalIn_int w 9998 f.type k k x1 y1 hf]
 simp only [Result.andThen_ok]
 cases h : (x1 == y1)
 ·simp
 ·simp only [Bool.not_true, Bool.false_eq_true, if_false, Sem.run_bind]
  rw [p g _ (.int k x2) hg (by simp [o2])]
  simp only [Result.andThen_ok]
  rw [p g _ (.int k y2) hg (by simp [o2])]
  simp only [Result.andThen_ok]
  rw [run_equalIn_int w 9998 g.type k k x2 y2 hg]
  simp only [Result.andThen_ok]
  cases h' : (x2 == y2) <;> simp
def two (P : Program) (t : TypeId) (k : IntKind) : Bool :=
 match P.underlying t with
 | some (.struct fs) => !P.stoodInHeld t && !P.eqGuardType P.depth t && (match fs.toList with
  | [f, g] => (f.name != "_") && (g.name != "_") && f.offset == 0 && g.offset == 1 && (match P.underlying f.type, P.underlying g.type with
   | some (.int k1), some (.int k2) => k1 == k && k2 == k
   | _, _ => false)
  | _ => false)
 | _ => false
theorem two_ok {t : TypeId} {k : IntKind} {x1 x2 y1 y2 : Int} (h : two P t k = true) (w : World) :
  (Op.equalIn 10000 t (.agg #[.int k x1, .int k x2]) (.agg #[.int k y1, .int k y2])).run P w = .ok ((x1 == y1) && (x2 == y2)) w ∧ P.eqGuardType P.depth t = false := by
 unfold two at h
 cases hu : P.underlying t with
 | none => rw [hu] at h; cases h
 | some d =>
  rw [hu] at h
  cases d with
  | struct fs =>
   obtain ⟨l⟩ := fs
   match l with
   | [f, g] =>
    dsimp only at h
    cases h1 : P.underlying f.type with
    | none => rw [h1] at h; simp at h
    | some d1 =>
     cases h2 : P.underlying g.type with
     | none => rw [h1, h2] at h; cases d1 <;> simp at h
     | some d2 =>
      rw [h1, h2] at h
      cases d1 <;> first | (simp at h; done) | skip
      cases d2 <;> first | (simp at h; done) | skip
      simp only [Bool.and_eq_true, Bool.not_eq_true', beq_iff_eq] at h
      obtain ⟨⟨a1, a8⟩, ⟨⟨⟨a2, a3⟩, a4⟩, a5⟩, a6, a7⟩ := h
      subst a6
      subst a7
      exact ⟨run_eq2 w hu a1 h1 h2 a2 a3 a4 a5, a8⟩
   | [] => simp at h
   | [_] => simp at h
   | _ :: _ :: _ :: _ => simp at h
  | _ => cases h
theorem pure_eql2 {t t2 : TypeId} {a b : Operand} {k : IntKind} {x1 x2 y1 y2 : Int} (h : two P t k = true) : PureAt P (.binOp .eql t a b t2) [.agg #[.int k x1, .int k x2], .agg #[.int k y1, .int k y2]] (.bool ((x1 == y1) && (x2 == y2))) := by
 intro ρ o ho hv w
 have hv : ρ a = .agg #[.int k x1, .int k x2] ∧ ρ b = .agg #[.int k y1, .int k y2] := by simpa [Op.operands] using hv
 obtain ⟨h1, h2⟩ := two_ok (x1 := x1) (x2 := x2) (y1 := y1) (y2 := y2) h w
 simp only [execOp, ho, hv.1, hv.2, Sem.run_bind]
 rw [run_eqGuard_agg w _ t a b _ _ h2]
 simp only [Result.andThen_ok]
 rw [run_eql_struct w, h1]
 rfl
end Go.PV

/-
 A walk over pure values: a slice held against nil.
 Conditions: none.
-/
namespace Go.PV
variable {P : Program} {N : Nat}
end Go.PV

/-
 A walk over pure values: the block of an owned slice written in one go; slices cleared, copied, turned round.
 Conditions: none.
-/
namespace Go.PV
variable {P : Program} {N : Nat} {w0 : World} {A : Nat → Prop} {I : Bor}
def rawRow : List C → Bool
 | [] => true
 | .raw v :: l => scal v && rawRow l
 | _ :: _ => false
theorem rawRow_get {l : List C} (h : rawRow l = true) {o : Nat} {c : C} (ho : l[o]? = some c) : ∃ v, c = .raw v ∧ scal v = true := by
 induction l generalizing o with
 | nil => simp at ho
 | cons x l ih =>
  cases x with
  | raw v =>
   simp only [rawRow, Bool.and_eq_true] at h
   cases o with
   | zero => simp at ho; exact ⟨v, ho.symm, h.1⟩
   | succ o => exact ih h.2 (by simpa using ho)
  | _ => simp [rawRow] at h
def wrS (σ : St) (r : Nat) (x : SV) : St := fun s => if s = r then x else killSV r (σ s)
theorem Rel.putV {σ : St} {a : Act} {w : World} {L : Lab} (hR : Rel P N N w0 A I σ a w L) {d : Nat} (hd : I.pins.length ≤ d ∧ d < N) (v : Value) : ∃ L', Rel P N N w0 A I (Go.PV.put σ d (.p v)) (a.put (some d) v) w L' :=
 ⟨_, hR.up.put hd (sv := .p v) (tv := v) rfl⟩
theorem wpOps_val {ops : Array Oper} {Q : Exit → Act → World → Prop} {i : Nat} {rest : List Nat} {o : Oper} {a : Act} {w w' : World} {v : Value} (ho : ops[i]? = some o) (hg : o.guard = none)
  (h : (execOp a.eval o).run P w = .ok (.value v) w') (hn : wpOps P ops Q rest (a.put o.dst v) w') : wpOps P ops Q (i :: rest) a w := by
 rw [wpOps_cons]
 unfold wpOp
 rw [ho]
 have hw : Region.wanted o (yielded ops a.tmps) = true := by unfold Region.wanted; rw [hg]
 simp only [hw, if_true]
 exact .inl (wp_val h hn)
theorem eval_put {a : Act} {d : Nat} {v : Value} (hd : d < a.tmps.size) (t : Nat) : (a.put (some d) v).eval (.tmp t) = if t = d then v else a.eval (.tmp t) := tm_put a v hd t
theorem put_size (a : Act) (d : Option Nat) (v : Value) : (a.put d v).tmps.size = a.tmps.size := by cases d <;> simp [Act.put]
theorem exec_assign {a : Act} {o : Oper} {x : Operand} {w : World} (h : o.op = .assign x) : (execOp a.eval o).run P w = .ok (.value (a.eval x)) w := by simp [execOp, h]
structure Wrote (w w' : World) (g : Nat) (arr' : Array Value) (e : TypeId) : Prop where
 at' : w'.heap[g]? = some (.cells arr' e (0, 0))
 oth : ∀ b, b ≠ g → w'.heap[b]? = w.heap[b]?
 size : w'.heap.size = w.heap.size
 os : w'.os = w.os
 tape : w'.tape = w.tape
 output : w'.output = w.output
end Go.PV

/-
 A walk over pure values: what a slice owns cut off behind; slices copied.
 Conditions: none.
-/
namespace Go.PV
variable {P : Program} {N : Nat} {w0 : World} {A : Nat → Prop} {I : Bor}
def seqOk (ops : Array Oper) : List (Nat × Bool) → Array Bool → Bool
 | [], listed => (Region.ready .any ops listed).isEmpty
 | (i, fr) :: l, listed => (match ops[i]? with | some o => o.guard.isNone | none => false) &&
   (if fr then Region.free .any ops listed i && (Region.ready .any ops listed).contains i else Region.ready .any ops listed == [i]) && seqOk ops l (listed.setIfInBounds i true)
def wpSeq (P : Program) (ops : Array Oper) (Q : Exit → Act → World → Prop) : List (Nat × Bool) → Act → World → Prop
 | [], a, w => Q .normal a w
 | (i, fr) :: l, a, w => match ops[i]? with
  | some o => if fr then ∃ v, (∀ w, (execOp a.eval o).run P w = .ok (.value v) w) ∧ wpSeq P ops Q l (a.put o.dst v) w else o.wp P a w (wpSeq P ops Q l) Q
  | none => False
end Go.PV

/-
 A walk over pure values: slices copied, at elements of one cell.
 Conditions: none.
-/
namespace Go.PV
variable {P : Program} {N : Nat} {w0 : World} {A : Nat → Prop} {I : Bor}
def copyAt {α : Type} (xs : List α) (n : Nat) (ys : List α) : List α := xs.take n ++ ys.take (xs.length - n) ++ xs.drop (n + min ys.length (xs.length - n))
theorem row1 {row : List C} (h1 : row.length = 1) (h2 : rawRow row = true) : ∃ v, row = [.raw v] ∧ scal v = true := by
 match row, h1 with
 | [c], _ =>
  obtain ⟨v, rfl, hv⟩ := rawRow_get h2 (o := 0) rfl
  exact ⟨v, rfl, hv⟩
def putsA (a : Act) : List (Nat × Value) → Act
 | [] => a
 | (d, v) :: l => putsA (a.put (some d) v) l
def order9 : List (Nat × Bool) := [(0, true), (1, true), (2, true), (3, true), (4, true), (5, true), (6, true), (7, false), (8, false), (9, false)]
end Go.PV

/-
 A walk over pure values: two elements of a slice exchanged, in whatever order.
 Conditions: none.
-/
namespace Go.PV
variable {P : Program} {N : Nat} {w0 : World} {A : Nat → Prop} {I : Bor}
inductive Stp where
 | free (i : Nat)
 | one (i : Nat)
 | two (i j : Nat)
def stpLen : List Stp → Nat
 | [] => 0
 | .two _ _ :: l => stpLen l + 2
 | _ :: l => stpLen l + 1
def opOk (ops : Array Oper) (i : Nat) : Bool := match ops[i]? with
 | some o => o.guard.isNone
 | none => false
def apart2 (ops : Array Oper) (i j : Nat) : Bool := match ops[i]?, ops[j]? with
 | some o, some p => o.apart ops p
 | _, _ => false
def stpOk (ops : Array Oper) : List Stp → Array Bool → Bool
 | [], listed => (Region.ready .any ops listed).isEmpty
 | .free i :: l, listed => opOk ops i && (Region.free .any ops listed i && (Region.ready .any ops listed).contains i) && stpOk ops l (listed.setIfInBounds i true)
 | .one i :: l, listed => opOk ops i && (Region.ready .any ops listed == [i]) && stpOk ops l (listed.setIfInBounds i true)
 | .two i j :: l, listed => (opOk ops i && opOk ops j && apart2 ops i j && i != j) && (Region.ready .any ops listed == [i, j] && Region.ready .any ops (listed.setIfInBounds i true) == [j] && Region.ready .any ops (listed.setIfInBounds j true) == [i]) &&
   stpOk ops l ((listed.setIfInBounds i true).setIfInBounds j true)
def wpStp (P : Program) (ops : Array Oper) (Q : Exit → Act → World → Prop) : List Stp → Act → World → Prop
 | [], a, w => Q .normal a w
 | .free i :: l, a, w => ∃ o v, ops[i]? = some o ∧ (∀ w, (execOp a.eval o).run P w = .ok (.value v) w) ∧ wpStp P ops Q l (a.put o.dst v) w
 | .one i :: l, a, w => ∃ o, ops[i]? = some o ∧ o.wp P a w (wpStp P ops Q l) Q
 | .two i j :: l, a, w => ∃ o p v u, ops[i]? = some o ∧ ops[j]? = some p ∧ (execOp a.eval o).run P w = .ok (.value v) w ∧ (execOp a.eval p).run P w = .ok (.value u) w ∧ wpStp P ops Q l ((a.put o.dst v).put p.dst u) w
def orderSwap : List Stp := [.free 2, .free 3, .free 0, .free 1, .free 4, .free 5, .free 8, .free 9, .free 6, .free 10, .two 7 11, .one 12, .one 13, .one 14, .one 15]
end Go.PV
namespace Go.PV
variable {P : Program}
end Go.PV

/-
 A walk over pure values: a struct of one slice handed in, the slice lent on.
 Conditions: none.
-/
namespace Go.PV
variable {P : Program}
end Go.PV

/-
 A walk over pure values: a region's operations listed in another order.
 Conditions: none.
-/
namespace Go.PV
variable {P : Program} {N : Nat}
def permOp (π : List Nat) (o : Oper) : Oper := { o with after := o.after.map fun e => { e with on := π.idxOf e.on }, guard := o.guard.map fun g => (π.idxOf g.1, g.2) }
def permOps (π : List Nat) (ops : List Oper) : List Oper := π.map fun i => permOp π (ops.getD i default)
def permB (π : List Nat) (ops : List Oper) : Bool :=
 (π.length == ops.length && ((List.range ops.length).all (fun i => decide (π.idxOf i < ops.length) && π.getD (π.idxOf i) ops.length == i) && (List.range ops.length).all (fun j => decide (π.getD j ops.length < ops.length) && π.idxOf (π.getD j ops.length) == j))) &&
 ops.all fun o => o.after.all (fun e => decide (e.on < ops.length)) && (match o.guard with | some g => decide (g.1 < ops.length) | none => true)
section
variable {π : List Nat} {ops : List Oper} (h : permB π ops = true)
include h
end
end Go.PV

/-
 A walk over pure values: a region in whatever order, every order walked.
 Conditions: none.
-/
namespace Go.PV
variable {P : Program} {N : Nat}
def freeAt (ops : Array Oper) (listed : Array Bool) : Option Nat := (Region.ready .any ops listed).find? fun k => match ops[k]? with
 | some o => plainO o && (Region.noSelect ops && Region.free .any ops listed k)
 | none => false
def pvT (P : Program) (ops : Array Oper) (K : St → Prop) : Nat → Array Bool → St → Prop
 | 0, listed, σ => Region.ready .any ops listed = [] ∧ K σ
 | f + 1, listed, σ => match freeAt ops listed with
  | some k => ∃ o, ops[k]? = some o ∧ o.guard = none ∧ pvOpF P o σ fun σ' => pvT P ops K f (listed.setIfInBounds k true) σ'
  | none => (Region.ready .any ops listed = [] → K σ) ∧ ∀ i ∈ Region.ready .any ops listed, ∃ o, ops[i]? = some o ∧ o.guard = none ∧ pvOpF P o σ fun σ' => pvT P ops K f (listed.setIfInBounds i true) σ'
def xTl (step : Nat → Option (List LS × List Prop)) : List Nat → Option (List LS × List Prop)
 | [] => some ([], [])
 | i :: l => match step i, xTl step l with
  | some (a, b), some (c, d) => some (a ++ c, b ++ d)
  | _, _ => none
def xT (P : Program) (ops : Array Oper) (hs : List (Nat × HH)) (l1 : LS) : Nat → Array Bool → St → Option (List LS × List Prop)
 | 0, listed, σ => (match Region.ready .any ops listed with
  | [] => some ([readL σ l1], [])
  | _ => none)
 | f + 1, listed, σ =>
  let go := fun k => match ops[k]? with
   | some o => if o.guard.isNone = true then (match xOpF P o σ (hintAt hs k) with
    | some (σ1, o2) => (match xT P ops hs l1 f (listed.setIfInBounds k true) (xFix σ1 (hintAt hs k)).1 with
     | some (ls, o3) => some (ls, o2 ++ ((xFix σ1 (hintAt hs k)).2 ++ o3))
     | none => none)
    | none => none) else none
   | none => none
  match freeAt ops listed with
  | some k => go k
  | none => (match Region.ready .any ops listed with
   | [] => some ([readL σ l1], [])
   | i :: l => xTl go (i :: l))
end Go.PV

/-
 A walk over pure values: structs of two structs of two whole numbers compared.
 Conditions: none.
-/
namespace Go.PV
variable {P : Program}
def twoS (P : Program) (t : TypeId) (k : IntKind) : Bool :=
 match P.underlying t, P.info? t with
 | some (.struct fs), some i => i.size == 2 && !P.stoodInHeld t && (match fs.toList with
  | [f, g] => (f.name != "_") && (g.name != "_") && f.offset == 0 && g.offset == 1 && (match P.underlying f.type, P.underlying g.type with
   | some (.int k1), some (.int k2) => k1 == k && k2 == k
   | _, _ => false)
  | _ => false)
 | _, _ => false
def four (P : Program) (t : TypeId) (k : IntKind) : Bool :=
 match P.underlying t with
 | some (.struct fs) => !P.stoodInHeld t && !P.eqGuardType P.depth t && (match fs.toList with
  | [f, g] => (f.name != "_") && (g.name != "_") && f.offset == 0 && g.offset == 2 && twoS P f.type k && twoS P g.type k
  | _ => false)
 | _ => false
end Go.PV

/-
 A walk over pure values: the rules once more, with what the kernel reckons left out.
 Conditions: none.
-/
namespace Go.PV
variable {P : Program} {N : Nat}
theorem A1 {a : Prop} (x : a) : a ∧ True := ⟨x, trivial⟩
theorem A2 {a b : Prop} (x : a) (y : b) : a ∧ b ∧ True := ⟨x, y, trivial⟩
theorem A3 {a b c : Prop} (x : a) (y : b) (z : c) : a ∧ b ∧ c ∧ True := ⟨x, y, z, trivial⟩
theorem A4 {a b c d : Prop} (x : a) (y : b) (z : c) (u : d) : a ∧ b ∧ c ∧ d ∧ True := ⟨x, y, z, u, trivial⟩
theorem A5 {a b c d e : Prop} (x : a) (y : b) (z : c) (u : d) (v : e) : a ∧ b ∧ c ∧ d ∧ e ∧ True := ⟨x, y, z, u, v, trivial⟩
theorem A6 {a b c d e f : Prop} (x : a) (y : b) (z : c) (u : d) (v : e) (w : f) : a ∧ b ∧ c ∧ d ∧ e ∧ f ∧ True := ⟨x, y, z, u, v, w, trivial⟩
theorem B6 {a b c d e f g : Prop} (x : a) (y : b) (z : c) (u : d) (v : e) (w : f) (t : g) : a ∧ b ∧ c ∧ d ∧ e ∧ f ∧ g := ⟨x, y, z, u, v, w, t⟩
theorem r_gq {id : Nat} {ops : List Oper} {l0 : LS} {Q : Prop} (l1 : LS) (hs : List (Nat × HH)) (ho : Q) (e : (xGo P ops hs l0 l1).map (fun p => (p.1, allP p.2)) = some (l1, Q) := by kernel_rfl) : RegOk P N (.region id ops.toArray false) l0 l1 := by
 cases hx : xGo P ops hs l0 l1 with
 | none => rw [hx] at e; cases e
 | some p =>
  rw [hx] at e
  simp only [Option.map_some, Option.some.injEq, Prod.mk.injEq] at e
  obtain ⟨e1, e2⟩ := e
  exact r_go l1 hs p.2 (by rw [hx, ← e1]) (by rw [e2]; exact ho)
theorem r_dq {id : Nat} {ops : List Oper} {l0 : LS} {Q : Prop} (hm : P.follows .mixedOrders = true) (n : Nat) (T : List (Nat × Nat)) (l1 : LS) (hs : List (Nat × HH)) (ho : Q) (e : (xGoD P n T ops hs l0 l1).map (fun p => (p.1, allP p.2)) = some (l1, Q) := by kernel_rfl) : RegOk P N (.region id ops.toArray true) l0 l1 := by
 cases hx : xGoD P n T ops hs l0 l1 with
 | none => rw [hx] at e; cases e
 | some p =>
  rw [hx] at e
  simp only [Option.map_some, Option.some.injEq, Prod.mk.injEq] at e
  obtain ⟨e1, e2⟩ := e
  exact r_draw hm n T l1 hs p.2 (by rw [hx, ← e1]) (by rw [e2]; exact ho)
theorem kc {c : Operand} (b : Bool) {x y : Code} {l : LS} {Q : Ex → LS → Prop} (h1 : b = true → OkL P N x l Q) (h2 : b = false → OkL P N y l Q) (hc : evS (ofL l) c = .p (.bool b) := by kernel_rfl) : OkL P N (.cond c x y) l Q := k_cond hc h1 h2
theorem er {fn : Func} {args : List Arg} {vals : List RV} {l : LS} (ls : List (RV × Nat)) (h1 : retVs P (ofL l) fn.results.toList = some ls := by kernel_rfl) (h2 : ovOk ls = true := by rfl) (h3 : ls.map (·.1) = vals := by kernel_rfl) (h4 : outsOf (ofL l) ((List.range args.length).zip args) = some [] := by rfl) : endL P fn args { vals := vals } .ret l := e_ret h1 h2 h3 h4
theorem ee {fn : Func} {args : List Arg} {vals : List RV} {l : LS} (ls : List (RV × Nat)) (h1 : retVs P (ofL l) fn.results.toList = some ls := by kernel_rfl) (h2 : ovOk ls = true := by rfl) (h3 : ls.map (·.1) = vals := by kernel_rfl) (h4 : outsOf (ofL l) ((List.range args.length).zip args) = some [] := by rfl) : endL P fn args { vals := vals } .normal l := e_end h1 h2 h3 h4
theorem ebr {fn : Func} {vals : List RV} {x' : SV} {l : LS} (ls : List (RV × Nat)) (h1 : retVs P (ofL l) fn.results.toList = some ls := by kernel_rfl) (h2 : ovOk ls = true := by rfl) (h0 : (ls.all fun y => !isOvR y.1 || y.2 != 0) = true := by rfl) (h3 : ls.map (·.1) = vals := by kernel_rfl) (h4 : ofL l 0 = x' := by kernel_rfl) : endLB P fn vals x' .ret l := eb_ret h1 h2 h0 h3 h4
theorem lqn {X Y : Type} {o : X ⊕ Y} {J : X → LS} {Q : Ex → LS → Prop} {l : LS} (x' : X) (h : some (Sum.inl x') = some o) (h1 : refsOk (J x') = true := by kernel_rfl) (h2 : readL (ofL l) (J x') = J x' := by kernel_rfl) : loopQ o J Q .normal l := lq_n x' (Option.some.inj h).symm (wk_of h1 h2)
theorem jx {X : Type} {K : X → Prop} {J : X → LS} {l : LS} (x : X) (h : K x) (h1 : refsOk (J x) = true := by kernel_rfl) (h2 : readL (ofL l) (J x) = J x := by kernel_rfl) : ∃ x, K x ∧ wk l (J x) := ⟨x, h, wk_of h1 h2⟩
theorem mo {f : FuncId} {fn : Func} {c : Code} {args : List Arg} {res : Res} (hf : P.funcs[f]? = some fn) (l0 : LS) (h : OkL P fn.ntmps c l0 (endL P fn args res)) (hb : fn.body = some c := by rfl) (hc : callable P f = true := by kernel_rfl)
  (hN : (decide (args.length ≤ fn.ntmps) && codeB 0 fn.ntmps c && args.all notPtrA) = true := by kernel_rfl) (hl0 : (List.range args.length).zip (args.map argSV) = l0 := by kernel_rfl) : Meets P f args res := Meets_ofL hc hf hb hN hl0 h
theorem mob {f : FuncId} {fn : Func} {c : Code} {x x' : SV} {args : List Arg} {vals : List RV} (hf : P.funcs[f]? = some fn) (l0 : LS) (h : OkL P fn.ntmps c l0 (endLB P fn vals x')) (hb : fn.body = some c := by rfl) (hc : callable P f = true := by kernel_rfl)
  (hN : (decide (args.length + 1 ≤ fn.ntmps) && codeB 1 fn.ntmps c && args.all notPtrA) = true := by kernel_rfl) (hx' : (isOwnR x' || match (generalizing := false) x' with | .u => true | _ => false) = true := by kernel_rfl) (hl0 : (List.range (args.length + 1)).zip (x :: args.map argSV) = l0 := by kernel_rfl) : MeetsB P f x args vals x' := MeetsB_ofL hc hf hb hN hx' hl0 h
theorem bs {α β : Type} {o : Option α} {f : α → Option β} {r : β} (h : o.bind f = some r) : ∃ x, o = some x ∧ f x = some r := Option.bind_eq_some_iff.1 h
theorem oi {α : Type} {a b : α} (h : some a = some b) : a = b := Option.some.inj h
theorem ft (b : Bool) : b = true ∨ b = false := Bool.eq_false_or_eq_true b
abbrev rI (n : Int) : C := .raw (.int .i64 n)
abbrev iV (n : Int) : Value := .int .i64 n
abbrev wI (n : Int) : Arg := .v (.int .i64 n)
abbrev Cu := List Int × Int × Int
abbrev eCu : Cu → List C := eP (eF (eU .u8)) (eP eI (eU .u64))
abbrev Qr := Int × Int
abbrev Qp := Qr × Qr
abbrev eRt : Qr → List C := eP eI eI
abbrev ePt : Qp → List C := eP eRt eRt
abbrev vRt (x : Qr) : Value := .agg #[.int .i64 x.1, .int .i64 x.2]
abbrev vPt (x : Qp) : Value := .agg #[.int .i64 x.1.1, .int .i64 x.1.2, .int .i64 x.2.1, .int .i64 x.2.2]
abbrev gT : HH := { g := some true }
abbrev gF : HH := { g := some false }
abbrev bT : HH := { b := some true }
abbrev bF : HH := { b := some false }
end Go.PV

/-
 A walk over pure values: decimal numerals.
 Conditions: none.
-/
set_option linter.all false
namespace Go.PV
def itoaB (n : Int) : ByteArray := ⟨(Lib.itoa n).toArray⟩
def byteB (z : Int) : ByteArray := ⟨[UInt8.ofNat (Int.toNat z)].toArray⟩
end Go.PV

/-
 A walk over pure values: letters and parts of strings.
 Conditions: none.
-/
set_option linter.all false
namespace Go.PV
variable {P : Program}
def strAt (s : ByteArray) (i : Int) : Int := if h : 0 ≤ i ∧ i < s.size then ((s[i.toNat]'(by omega)).toNat : Int) else 0
def strCut (s : ByteArray) (i j : Int) : ByteArray := s.extract i.toNat j.toNat
def bytesL (b : ByteArray) : List Int := b.data.toList.map fun c => (c.toNat : Int)
end Go.PV

/-
 A walk over pure values: strings.Builder: the check that it has not been copied.
 Conditions: none.
-/
set_option linter.all false
namespace Go.PV
variable {P : Program}
def eBp (t : TypeId) : Unit → List C := fun _ => [.bp t]
def bytesB (xs : List Int) : ByteArray := ⟨(xs.map fun z => UInt8.ofNat (Int.toNat z)).toArray⟩
def bytesOk (xs : List Int) : Bool := xs.all fun x => decide (0 ≤ x) && decide (x ≤ 255)
def asciiB (b : ByteArray) : Bool := b.data.toList.all fun x => decide (x.toNat < 128)
def trimB (a b : ByteArray) : ByteArray := ⟨(((a.data.toList.reverse.dropWhile (b.data.toList.contains ·)).reverse).dropWhile (b.data.toList.contains ·)).toArray⟩
def cutB (s t : ByteArray) : ByteArray × ByteArray × Bool := (⟨(Lib.cut s.data.toList t.data.toList).1.toArray⟩, ⟨(Lib.cut s.data.toList t.data.toList).2.1.toArray⟩, (Lib.cut s.data.toList t.data.toList).2.2)
def atoiV (s : ByteArray) : Int × Bool := match Lib.atoiAll s.data.toList with
 | .ok v => (v, true)
 | .range => (Lib.atoiSat s.data.toList, false)
 | _ => (0, false)
def eEr : Bool → List C := fun b => [.er b]
def oppP (q : (Int × Int) × (Int × Int)) : (Int × Int) × (Int × Int) := ((w64 (q.1.2 - q.1.1), q.1.2), (w64 (q.2.2 - q.2.1), q.2.2))
end Go.PV

/-
 A walk in a round of a range over a function: what holds of operations elsewhere holds there.
 Conditions: none.
-/
set_option linter.all false
namespace Go.PV
variable {P : Program} {N : Nat}
def Fx (ro : Option Nat) : Fence := { Fence.wide with round := ro }
def dz (ds : List Deferred) (a : Act) : Act := { a with defers := a.defers ++ ds }
def noDefer (o : Oper) : Bool := match o.op with | .defer _ => false | _ => true
section
variable {ro : Option Nat} {n : Nat} {ds : List Deferred} {Q Q' : Exit → Act → World → Prop} {ops : Array Oper}
end
def liftX (ds : List Deferred) (P : Program) (N : Nat) (w0 : World) (A : Nat → Prop) (I : Bor) (Q : Ex → LS → Prop) : Exit → Act → World → Prop
 | .normal, a, w => ∃ a0 σ L l', a = dz ds a0 ∧ Rel P N N w0 A I σ a0 w L ∧ (σ = ofL l' ∨ agree l' σ) ∧ Q .normal l'
 | .exit id, a, w => ∃ a0 σ L l', a = dz ds a0 ∧ Rel P N N w0 A I σ a0 w L ∧ (σ = ofL l' ∨ agree l' σ) ∧ Q (.exit id) l'
 | .ret, a, w => ∃ a0 σ L l', a = dz ds a0 ∧ Rel P N N w0 A I σ a0 w L ∧ (σ = ofL l' ∨ agree l' σ) ∧ Q .ret l'
 | _, _, _ => False
def codeX (k N : Nat) : Code → Bool
 | .region _ ops _ => opsB k N ops.toList && ops.toList.all noDefer
 | .seq a b => codeX k N a && codeX k N b
 | .cond _ a b => codeX k N a && codeX k N b
 | .block _ c => codeX k N c
 | .skip => true
 | .ret => true
 | .exit _ => true
 | _ => false
def OkX (ro : Option Nat) (ds : List Deferred) (P : Program) (N : Nat) (c : Code) (l : LS) (Q : Ex → LS → Prop) : Prop :=
 ∀ n k, codeX k N c = true → ∀ w0 A I a w L, I.pins.length = k → Rel P N N w0 A I (ofL l) a w L → c.wpIn (Fx ro) n P (liftX ds P N w0 A I Q) (dz ds a) w
section
variable {ro : Option Nat} {ds : List Deferred}
theorem rel_read {w0 : World} {A : Nat → Prop} {I : Bor} {σ : St} {a : Act} {w : World} {L : Lab} {l' : LS} (hR : Rel P N N w0 A I σ a w L) (h : σ = ofL l' ∨ agree l' σ) : Rel P N N w0 A I (ofL l') a w L := by
 rcases h with rfl | h
 ·exact hR
 ·exact agree_rel hR h
def RegX (ro : Option Nat) (ds : List Deferred) (P : Program) (N : Nat) (c : Code) (l0 l1 : LS) : Prop := ∀ Q : Ex → LS → Prop, Q .normal l1 → OkX ro ds P N c l0 Q
end
end Go.PV

/-
 A walk in a round of a range over a function: the relation carried to another world, another frame, another beginning.
 Conditions: none.
-/
set_option linter.all false
namespace Go.PV
variable {P : Program} {N : Nat}
def CellsKept (w w' : World) : Prop := ∀ (b : Nat) (arr : Array Value) (e : TypeId) (f : Nat × Nat), w.heap[b]? = some (.cells arr e f) → w'.heap[b]? = some (.cells arr e f)
theorem CellsKept.refl (w : World) : CellsKept w w := fun _ _ _ _ h => h
theorem CellsKept.cell {w w' : World} (hk : CellsKept w w') {b o : Nat} {v : Value} (h : w.cell? ⟨b, o, none⟩ = some v) : w'.cell? ⟨b, o, none⟩ = some v := by
 unfold World.cell? at h ⊢
 cases hh : w.heap[b]? with
 | none => simp [hh] at h
 | some ob =>
  cases ob with
  | cells c e f =>
   simp only [hh] at h
   simp only [hk b c e f hh]
   exact h
  | _ => simp [hh] at h
theorem Frz.kept {Z Z' : Nat → Prop} {w w' : World} {v : Value} {c : C} (h : Frz Z w v c) (hk : CellsKept w w') (hz : ∀ b, Z b → Z' b) : Frz Z' w' v c := by
 induction h with
 | raw h => exact .raw h
 | nil => exact .nil
 | sl vs hn hz0 hsz hc hr ih => exact .sl vs hn (hz _ hz0) hsz (fun i row o c h1 h2 => hk.cell (hc i row o c h1 h2)) ih
 | fn hn hs hr ih => exact .fn hn hs ih
 | pt vs hz0 hc hr ih => exact .pt vs (hz _ hz0) (fun j c h => hk.cell (hc j c h)) ih
 | dead h => exact .dead h
 | bp h => exact .bp h
 | er h => exact .er h
structure LabKept (w : World) (L L' : Lab) : Prop where
 sub : ∀ b x, L' b = some x → L b = some x
 cel : ∀ (b : Nat) (x : Nat × Path) (arr : Array Value) (e : TypeId) (f : Nat × Nat), L b = some x → w.heap[b]? = some (.cells arr e f) → L' b = some x
theorem LabKept.refl (w : World) (L : Lab) : LabKept w L L := ⟨fun _ _ h => h, fun _ _ _ _ _ h _ => h⟩
theorem LabKept.none {w : World} {L L' : Lab} (h : LabKept w L L') {b : Nat} (hb : L b = none) : L' b = none := by
 cases hx : L' b with
 | none => rfl
 | some x => rw [h.sub b x hx] at hb; cases hb
theorem Rep.kept {Z Z' : Nat → Prop} {L L' : Lab} {w w' : World} {s : Nat} {p : Path} {v : Value} {c : C} (h : Rep P Z L w s p v c) (hk : CellsKept w w') (hz : ∀ b, Z b → Z' b) (hL : LabKept w L L') : Rep P Z' L' w' s p v c := by
 induction h with
 | frz h => exact .frz (h.kept hk hz)
 | onil => exact .onil
 | own hl hg hn hm ha hsz hr ih => exact .own (hL.cel _ _ _ _ _ hl hg) (hk _ _ _ _ hg) hn hm ha hsz ih
theorem BoxAt.kept {Z Z' : Nat → Prop} {L L' : Lab} {w w' : World} {s b : Nat} {cs : List C} (h : BoxAt P Z L w s b cs) (hk : CellsKept w w') (hz : ∀ b, Z b → Z' b) (hL : LabKept w L L') : BoxAt P Z' L' w' s b cs := by
 obtain ⟨h1, arr, e, h2, h3, h4⟩ := h
 exact ⟨hL.cel _ _ _ _ _ h1 h2, arr, e, hk _ _ _ _ h2, h3, fun j c hj => ⟨(h4 j c hj).1.kept hk hz hL, (h4 j c hj).2⟩⟩
def simpleS : SV → Bool
 | .u | .p _ | .d .. | .ov .. | .box _ => true
 | _ => false
theorem RelS.kept {Z Z' : Nat → Prop} {L L' : Lab} {w w' : World} {tm tm' : Nat → Value} {σ σ' : St} {s : Nat} {tv : Value} {sv : SV} (h : RelS P Z L w tm σ s tv sv) (hs : simpleS sv = true) (hk : CellsKept w w') (hz : ∀ b, Z b → Z' b) (hL : LabKept w L L') : RelS P Z' L' w' tm' σ' s tv sv := by
 cases sv with
 | u => trivial
 | p v => exact h
 | d g cs => exact ⟨h.1, fun j c hj => (h.2 j c hj).kept hk hz⟩
 | ov g cs => exact ⟨h.1, fun j c hj => (h.2 j c hj).kept hk hz hL⟩
 | box cs => obtain ⟨b, h1, h2⟩ := h; exact ⟨b, h1, h2.kept hk hz hL⟩
 | _ => cases hs
def SlotFrom (σ : St) (a a' : Act) (σ' : St) (s : Nat) : Prop :=
 σ' s = .u ∨ (∃ v, σ' s = .p v ∧ a'.tmps.getD s undef = v ∧ s < N) ∨ (simpleS (σ' s) = true ∧ σ s = σ' s ∧ a'.tmps.getD s undef = a.tmps.getD s undef)
theorem Rel.turn {w0 w0' : World} {A A' : Nat → Prop} {I I' : Bor} {σ σ' : St} {a a' : Act} {w w' : World} {L L' : Lab} (hR : Rel P N N w0 A I σ a w L)
  (hd : a'.defers = []) (hsz : a'.tmps.size = N) (ev : Ev I' w0' w') (hL : LabKept w L L') (lab : ∀ b x, L' b = some x → b < w'.heap.size ∧ (w0'.heap.size ≤ b ∨ b ∈ I'))
  (hA : ((∀ b, A' b → b < w0'.heap.size) ∧ Tabs P (fun b => A' b ∧ b ∉ I') w0') ∧ ∀ b, b ∈ I' → A' b) (pin : ∀ s v, I'.pins[s]? = some v → a'.tmps.getD s undef = v)
  (hz : ∀ b, Zof w0 A L w b → Zof w0' A' L' w' b) (hk : CellsKept w w') (hσ : ∀ s, SlotFrom (N := N) σ a a' σ' s) : Rel P N N w0' A' I' σ' a' w' L' := by
 refine ⟨hd, hsz, ev, fun b b' l h1 h2 => hR.inj b b' l (hL.sub _ _ h1) (hL.sub _ _ h2), fun b l h => ⟨(lab b l h).1, (lab b l h).2, (hR.lab b l (hL.sub _ _ h)).2.2⟩, fun s hs => ?_, hA, pin, fun s => ?_⟩
 ·rcases hσ s with h | ⟨v, _, _, h⟩ | ⟨_, h, _⟩
  ·exact h
  ·omega
  ·rw [← h]; exact hR.out s hs
 ·rcases hσ s with h | ⟨v, h, h2, _⟩ | ⟨h1, h2, h3⟩
  ·rw [h]; trivial
  ·rw [h]; exact h2
  ·have := hR.slot s
   rw [h2] at this
   rw [h3]
   exact this.kept h1 hk hz hL
def cleanL (w : World) (L : Lab) : Lab := fun b => match w.heap[b]? with | some (.cells ..) => L b | _ => none
def baseA (w0 : World) (A : Nat → Prop) (w : World) (L : Lab) : Nat → Prop := fun b => Zof w0 A L w b ∨ cleanL w L b ≠ none
def baseI (w : World) (L : Lab) (pins : List Value) : Bor := ⟨fun b => cleanL w L b ≠ none, pins⟩
section
variable {w0 : World} {A : Nat → Prop} {I : Bor} {σ σ' : St} {a a' : Act} {w w' : World} {L L' : Lab}
theorem Rel.grown {pins : List Value} {w1 : World} {A1 : Nat → Prop} {I1 : Bor} (hR : Rel P N N w1 A1 I1 σ a w L) {row : Option Nat} (hg : w.grownBy w' row) (hr : ∀ r, row = some r → w1.heap.size ≤ r ∧ ∃ o : Obj, w.heap[r]? = some o ∧ o.isCells = false) (hs : ∀ s, simpleS (σ s) = true) : Rel P N N w1 A1 I1 σ a w' L := by
 have e := hR.ev
 have hc : CellsKept w w' := fun b arr el f h => by
  have hlt : b < w.heap.size := (Array.getElem?_eq_some_iff.1 h).1
  refine (hg.block b hlt fun e => ?_).trans h
  obtain ⟨_, o, ho, hoc⟩ := hr b e.symm
  rw [h] at ho
  obtain rfl := Option.some.inj ho
  cases hoc
 refine hR.turn hR.dfr hR.siz ⟨hg.os.trans e.os, hg.tape.trans e.tape, hg.output.trans e.output, Nat.le_trans e.size hg.size, fun b hb hI => ?_⟩ (LabKept.refl _ _) (fun b x h => ⟨Nat.lt_of_lt_of_le (hR.lab b x h).1 hg.size, (hR.lab b x h).2.1⟩) hR.hA hR.pin (fun b hb => ⟨hb.1, Nat.lt_of_lt_of_le hb.2.1 hg.size, hb.2.2⟩) hc (fun s => .inr (.inr ⟨hs s, rfl, rfl⟩))
 refine (hg.block b (Nat.lt_of_lt_of_le hb e.size) fun e => ?_).trans (e.block b hb hI)
 have := (hr b e.symm).1
 omega
end
theorem ofL_some : ∀ (l : LS) (s : Nat), ofL l s = .u ∨ ∃ x ∈ l, x.1 = s ∧ ofL l s = x.2
 | [], _ => .inl rfl
 | (k, x) :: l, s => by
  simp only [ofL, upd]
  by_cases h : s = k
  ·rw [if_pos h]; exact .inr ⟨(k, x), List.mem_cons_self, h.symm, rfl⟩
  ·rw [if_neg h]
   rcases ofL_some l s with h1 | ⟨y, h1, h2, h3⟩
   ·exact .inl h1
   ·exact .inr ⟨y, List.mem_cons_of_mem _ h1, h2, h3⟩
theorem simple_ofL {l : LS} (h : l.all (fun x => simpleS x.2) = true) (s : Nat) : simpleS (ofL l s) = true := by
 rcases ofL_some l s with h1 | ⟨x, hx, _, h1⟩
 ·rw [h1]; rfl
 ·rw [h1]; exact List.all_eq_true.1 h x hx
def rawR (rows : List (List C)) : Bool := rows.all fun r => r.all fun c => match c with | .raw _ => true | _ => false
end Go.PV

/-
 A walk of a range over a function: the loop.
 Conditions: none.
-/
set_option linter.all false
namespace Go.PV
open Go.RowKit
variable {P : Program} {N : Nat}
def markOf (D : Nat) : Deferred := { target := .collected D, args := #[] }
def liftF (P : Program) (N : Nat) (w0 : World) (A : Nat → Prop) (I : Bor) (Q : LS → Prop) : Exit → Act → World → Prop
 | .normal, a, w | .ret, a, w => ∃ a0 L l' ds, a = dz ds a0 ∧ Rel P N N w0 A I (ofL l') a0 w L ∧ Q l' ∧
   (ds = [] ∨ ∃ D, ds = [markOf D] ∧ w0.heap.size ≤ D ∧ w.heap[D]? = some (.deferred (some [])) ∧ l'.all (fun x => simpleS x.2) = true)
 | _, _, _ => False
def OkF (P : Program) (N : Nat) (c : Code) (l : LS) (Q : LS → Prop) : Prop :=
 ∀ n, 2 ≤ n → ∀ w0 A I a w L, I.pins = [] → Rel P N N w0 A I (ofL l) a w L → c.wpIn (Fx none) n P (liftF P N w0 A I Q) a w
def OkT (P : Program) (N : Nat) (c rest : Code) (l : LS) (Q : LS → Prop) : Prop :=
 ∀ n, 2 ≤ n → ∀ w0 A I a w L, I.pins = [] → Rel P N N w0 A I (ofL l) a w L → c.wpIn (Fx none) n P (Exit.then (rest.wpIn (Fx none) n P (liftF P N w0 A I Q)) (liftF P N w0 A I Q)) a w
def Turns {α : Type} (P : Program) (f : FuncId) (caps : List (Bool × List C)) (encs : α → Array Value) (S Sp : List α → Prop) (n : Nat) : Prop :=
 ∀ (Z : Nat → Prop) (w : World) (v : Value) (m : Nat), FrzV Z w false v [.fn f caps] → (∀ b, Z b → b < w.heap.size) → 1 ≤ m →
  ∃ lb, v = .func (.func f) #[] lb ∧ SeqStopsK (Fx none) m P f lb encs (fun W W' => ∀ b, Z b → W'.heap[b]? = W.heap[b]?) S Sp n w
section
variable {w0 : World} {A : Nat → Prop} {I : Bor} {a : Act} {w : World} {L : Lab}
end
def pinsOf (K : Nat) (a : Act) : List Value := (List.range K).map fun s => a.tmps.getD s undef
theorem pinsOf_some {K : Nat} {a : Act} {s : Nat} {v : Value} (h : (pinsOf K a)[s]? = some v) : s < K ∧ a.tmps.getD s undef = v := by
 unfold pinsOf at h
 rw [List.getElem?_map] at h
 by_cases hs : s < K
 ·rw [List.getElem?_range hs] at h
  exact ⟨hs, by simpa using h⟩
 ·rw [List.getElem?_eq_none (by simpa using hs)] at h
  cases h
theorem pinsOf_lt {K : Nat} {a : Act} {s : Nat} (h : s < K) : (pinsOf K a)[s]? = some (a.tmps.getD s undef) := by
 unfold pinsOf
 rw [List.getElem?_map, List.getElem?_range h]
 rfl
end Go.PV

/-
 A walk over pure values: a function value that has caught two boxes, and its calls.
 Conditions: none.
-/
set_option linter.all false
namespace Go.PV
variable {P : Program} {N : Nat}
def ptTo (b : Nat) : Value := .pointer (some ⟨b, 0, none⟩)
def Takes (P : Program) (f : FuncId) (y : Value) (xs ys xs' ys' : List Value) : Prop :=
 callable P f = true ∧ ∀ (w : World) (A : Nat → Prop) (b1 b2 : Nat) (e1 e2 : TypeId),
  ((∀ b, A b → b < w.heap.size ∧ b ≠ b1 ∧ b ≠ b2) ∧ Tabs P A w) → b1 ≠ b2 →
  w.heap[b1]? = some (.cells xs.toArray e1 (0, 0)) → w.heap[b2]? = some (.cells ys.toArray e2 (0, 0)) →
  Calls P f #[y, ptTo b1, ptTo b2] w (fun e w' => ∃ v, e = .returned v ∧ Ev ⟨fun b => b = b1 ∨ b = b2, []⟩ w w' ∧
   (∃ e, w'.heap[b1]? = some (.cells xs'.toArray e (0, 0))) ∧ ∃ e, w'.heap[b2]? = some (.cells ys'.toArray e (0, 0)))
theorem raw_box {Z : Nat → Prop} {L : Lab} {w : World} {s b : Nat} {xs : List Value} {e : TypeId} (hL : L b = some (s, [])) (hw : w.heap[b]? = some (.cells xs.toArray e (0, 0))) (hs : xs.all scal = true) : BoxAt P Z L w s b (xs.map .raw) := by
 refine ⟨hL, xs.toArray, e, hw, by simp, fun j c hj => ?_⟩
 rw [List.getElem?_map] at hj
 cases hx : xs[j]? with
 | none => rw [hx] at hj; cases hj
 | some v =>
  rw [hx] at hj
  simp only [Option.map_some, Option.some.injEq] at hj
  subst hj
  have hv : xs.toArray.getD j undef = v := by simp [Array.getD_eq_getD_getElem?, hx]
  rw [hv]
  exact ⟨.frz (.raw (List.all_eq_true.1 hs v (List.mem_of_getElem? hx))), fun t h => by cases h⟩
theorem box_raw {Z : Nat → Prop} {L : Lab} {w : World} {s b : Nat} {xs : List Value} (h : BoxAt P Z L w s b (xs.map .raw)) : ∃ e, w.heap[b]? = some (.cells xs.toArray e (0, 0)) := by
 obtain ⟨_, arr, e, h2, h3, h4⟩ := h
 refine ⟨e, ?_⟩
 rw [h2]
 have : arr = xs.toArray := by
  apply Array.ext
  ·simpa using h3
  ·intro i h5 h6
   have h7 : i < xs.length := by simpa using h6
   have := (h4 i (.raw xs[i]) (by simp [h7])).1.raw_eq
   rw [Array.getD_eq_getD_getElem?, Array.getElem?_eq_getElem h5] at this
   simpa using this
 rw [this]
theorem takes_of {f : FuncId} {fn : Func} {c : Code} {y : Value} {xs ys xs' ys' : List Value} (hf : P.funcs[f]? = some fn)
  (h : OkL P fn.ntmps c [(0, .p y), (1, .box (xs.map .raw)), (2, .box (ys.map .raw))] fun e l => (match e with | .exit _ => False | _ => True) ∧ ofL l 1 = .box (xs'.map .raw) ∧ ofL l 2 = .box (ys'.map .raw))
  (hb : fn.body = some c := by rfl) (hc : callable P f = true := by kernel_rfl) (hr : fn.results = #[] := by rfl)
  (hN : (decide (3 ≤ fn.ntmps) && codeB 3 fn.ntmps c) = true := by kernel_rfl) (hs : (xs.all scal && ys.all scal) = true := by rfl) : Takes P f y xs ys xs' ys' := by
 simp only [Bool.and_eq_true, decide_eq_true_eq] at hN hs
 refine ⟨hc, fun w A b1 b2 e1 e2 hA hne h1 h2 => ?_⟩
 refine calls_of_wp hf hb ?_
 have hb1 : b1 < w.heap.size := (Array.getElem?_eq_some_iff.1 h1).1
 have hb2 : b2 < w.heap.size := (Array.getElem?_eq_some_iff.1 h2).1
 let L0 : Lab := fun b => if b = b1 then some (1, []) else if b = b2 then some (2, []) else none
 have l1 : L0 b1 = some (1, []) := by simp [L0]
 have l2 : L0 b2 = some (2, []) := by simp [L0, hne.symm]
 have lx : ∀ b l, L0 b = some l → (b = b1 ∧ l = (1, [])) ∨ (b = b2 ∧ l = (2, [])) := fun b l h => by
  simp only [L0] at h
  split at h
  ·rename_i e; left; exact ⟨e, (Option.some.inj h).symm⟩
  ·split at h
   ·rename_i e; right; exact ⟨e, (Option.some.inj h).symm⟩
   ·cases h
 let I0 : Bor := ⟨fun b => b = b1 ∨ b = b2, [y, ptTo b1, ptTo b2]⟩
 let A0 : Nat → Prop := fun b => A b ∨ b = b1 ∨ b = b2
 let a0 : Act := { tmps := #[y, ptTo b1, ptTo b2] ++ Array.replicate (fn.ntmps - (#[y, ptTo b1, ptTo b2] : Array Value).size) undef, defers := [] }
 have t0 : a0.tmps.getD 0 undef = y := by simp [a0, Array.getD_eq_getD_getElem?, Array.getElem?_append]
 have t1 : a0.tmps.getD 1 undef = ptTo b1 := by simp [a0, Array.getD_eq_getD_getElem?, Array.getElem?_append]
 have t2 : a0.tmps.getD 2 undef = ptTo b2 := by simp [a0, Array.getD_eq_getD_getElem?, Array.getElem?_append]
 have hR : Rel P fn.ntmps fn.ntmps w A0 I0 (ofL [(0, .p y), (1, .box (xs.map .raw)), (2, .box (ys.map .raw))]) a0 w L0 := by
  refine ⟨rfl, by simp [a0]; omega, ⟨rfl, rfl, rfl, Nat.le_refl _, fun _ _ _ => rfl⟩, fun b b' l h h' => ?_, fun b l hl => ?_, fun s hs => ?_, ⟨⟨fun b hb => ?_, hA.2.mono fun b hb => ⟨⟨.inl hb, fun h => ?_⟩, rfl⟩⟩, fun b hb => .inr hb⟩, fun s v hv => ?_, fun s => ?_⟩
  ·rcases lx b l h with ⟨rfl, rfl⟩ | ⟨rfl, rfl⟩ <;> rcases lx b' _ h' with ⟨rfl, e⟩ | ⟨rfl, e⟩ <;> first | rfl | cases e
  ·rcases lx b l hl with ⟨rfl, rfl⟩ | ⟨rfl, rfl⟩
   ·exact ⟨hb1, .inr (.inl rfl), by show 1 < fn.ntmps; omega⟩
   ·exact ⟨hb2, .inr (.inr rfl), by show 2 < fn.ntmps; omega⟩
  ·have g0 : s ≠ 0 := by omega
   have g1 : s ≠ 1 := by omega
   have g2 : s ≠ 2 := by omega
   simp [ofL, upd, g0, g1, g2]
  ·rcases hb with hb | rfl | rfl
   ·exact (hA.1 b hb).1
   ·exact hb1
   ·exact hb2
  ·rcases h with h | h
   ·exact (hA.1 b hb).2.1 h
   ·exact (hA.1 b hb).2.2 h
  ·match s, hv with
   | 0, hv => rw [t0]; exact Option.some.inj hv
   | 1, hv => rw [t1]; exact Option.some.inj hv
   | 2, hv => rw [t2]; exact Option.some.inj hv
   | s + 3, hv => simp [I0] at hv
  ·match s with
   | 0 => exact t0
   | 1 => exact ⟨b1, t1, raw_box l1 h1 hs.1⟩
   | 2 => exact ⟨b2, t2, raw_box l2 h2 hs.2⟩
   | s + 3 => exact trivial
 refine wp_mono (h 3 hN.2 w A0 I0 a0 w L0 rfl hR) fun e a' w' hl => ?_
 have fin : ∀ σ L l', Rel P fn.ntmps fn.ntmps w A0 I0 σ a' w' L → (σ = ofL l' ∨ agree l' σ) → ofL l' 1 = .box (xs'.map .raw) → ofL l' 2 = .box (ys'.map .raw) → a'.defers = [] ∧ ∃ v, (results fn a'.tmps).run P w' = .ok v w' ∧ ∃ v', Ending.returned v = .returned v' ∧ Ev ⟨fun b => b = b1 ∨ b = b2, []⟩ w w' ∧
   (∃ e, w'.heap[b1]? = some (.cells xs'.toArray e (0, 0))) ∧ ∃ e, w'.heap[b2]? = some (.cells ys'.toArray e (0, 0)) := fun σ L l' g1 g2 g3 g4 => by
  have g5 := rel_read g1 g2
  refine ⟨g5.dfr, _, results_eq fn a'.tmps (by rw [hr]; rfl), _, rfl, ⟨g5.ev.os, g5.ev.tape, g5.ev.output, g5.ev.size, g5.ev.block⟩, ?_, ?_⟩
  ·have s1 := g5.slot 1
   rw [g3] at s1
   obtain ⟨b, s2, s3⟩ := s1
   have s4 := g5.pin 1 (ptTo b1) rfl
   rw [s2] at s4
   have : b = b1 := by unfold ptTo at s4; simpa using s4
   subst this
   exact box_raw s3
  ·have s1 := g5.slot 2
   rw [g4] at s1
   obtain ⟨b, s2, s3⟩ := s1
   have s4 := g5.pin 2 (ptTo b2) rfl
   rw [s2] at s4
   have : b = b2 := by unfold ptTo at s4; simpa using s4
   subst this
   exact box_raw s3
 cases e with
 | normal => obtain ⟨σ, L, h5, l', h6, _, h7, h8⟩ := hl; exact fin σ L l' h5 h6 h7 h8
 | ret => obtain ⟨σ, L, h5, l', h6, _, h7, h8⟩ := hl; exact fin σ L l' h5 h6 h7 h8
 | exit id => obtain ⟨σ, L, h5, l', h6, h7, _⟩ := hl; exact h7.elim
 | _ => exact hl.elim
end Go.PV

/-
 A walk over pure values: code within which two boxes are caught by a function value, and that value is called.
 Conditions: none.
-/
set_option linter.all false
namespace Go.PV
variable {P : Program} {N : Nat} {r1 b1 r2 b2 : Nat}
def OkV (P : Program) (N r1 b1 r2 b2 : Nat) (c : Code) (l : LS) (Q : Ex → LS → Prop) : Prop :=
 ∀ w0 A I a w L, codeB I.pins.length N c = true → I.pins[r1]? = some (ptTo b1) → I.pins[r2]? = some (ptTo b2) → Rel P N N w0 A I (ofL l) a w L → c.wp P (lift P N w0 A I fun e σ => ∃ l', (σ = ofL l' ∨ agree l' σ) ∧ Q e l') a w
theorem v_ok {c : Code} {l : LS} {Q : Ex → LS → Prop} (h : OkL P N c l Q) : OkV P N r1 b1 r2 b2 c l Q := fun w0 A I a w L hB _ _ hR => h _ hB w0 A I a w L rfl hR
theorem v_reg {c : Code} {l l1 : LS} {Q : Ex → LS → Prop} (h : RegOk P N c l l1) (hq : Q .normal l1) : OkV P N r1 b1 r2 b2 c l Q := v_ok (h Q hq)
theorem OkV.weak {c : Code} {l l' : LS} {Q : Ex → LS → Prop} (h : OkV P N r1 b1 r2 b2 c l' Q) (hw : wk l l') : OkV P N r1 b1 r2 b2 c l Q := fun w0 A I a w L hB h1 h2 hR =>
 h w0 A I a w L hB h1 h2 (agree_rel hR hw)
theorem v_seq {a b : Code} {l : LS} {Q : Ex → LS → Prop} (h : OkV P N r1 b1 r2 b2 a l (seqL (fun l' => OkV P N r1 b1 r2 b2 b l' Q) Q)) : OkV P N r1 b1 r2 b2 (.seq a b) l Q := fun w0 A I x w L hB h1 h2 hR => by
 simp only [codeB, Bool.and_eq_true] at hB
 refine wp_seq (wp_mono (h w0 A I x w L hB.1 h1 h2 hR) fun e x w h => ?_)
 cases e with
 | normal =>
  obtain ⟨σ, L, g1, l', g2, g3⟩ := h
  exact g3 w0 A I x w L hB.2 h1 h2 (rel_read g1 g2)
 | exit id => exact h
 | ret => exact h
 | _ => exact h.elim
theorem v_sreg {c b : Code} {l l1 : LS} {Q : Ex → LS → Prop} (h : RegOk P N c l l1) (hq : OkV P N r1 b1 r2 b2 b l1 Q) : OkV P N r1 b1 r2 b2 (.seq c b) l Q := v_seq (v_reg h hq)
theorem v_cond {c : Operand} (b : Bool) {x y : Code} {l : LS} {Q : Ex → LS → Prop} (h1 : b = true → OkV P N r1 b1 r2 b2 x l Q) (h2 : b = false → OkV P N r1 b1 r2 b2 y l Q) (hc : evS (ofL l) c = .p (.bool b) := by kernel_rfl) : OkV P N r1 b1 r2 b2 (.cond c x y) l Q := fun w0 A I a w L hB g1 g2 hR => by
 simp only [codeB, Bool.and_eq_true] at hB
 refine wp_cond (evS_p hR hc) ?_
 cases b
 ·exact h2 rfl w0 A I a w L hB.2 g1 g2 hR
 ·exact h1 rfl w0 A I a w L hB.1 g1 g2 hR
theorem v_block {id : Nat} {c : Code} {l : LS} {Q : Ex → LS → Prop} (h : OkV P N r1 b1 r2 b2 c l (blockL id Q)) : OkV P N r1 b1 r2 b2 (.block id c) l Q := fun w0 A I a w L hB g1 g2 hR => by
 refine wp_block (wp_mono (h w0 A I a w L hB g1 g2 hR) fun e a w h => ?_)
 cases e with
 | normal => exact h
 | exit i =>
  obtain ⟨σ', L', h1, l', h2, h3⟩ := h
  simp only [Exit.inBlock]
  unfold blockL at h3
  split
  ·rename_i hi
   simp only [hi, if_true] at h3
   exact ⟨σ', L', h1, l', h2, h3⟩
  ·rename_i hi
   simp only [hi, if_false] at h3
   exact ⟨σ', L', h1, l', h2, h3⟩
 | ret => exact h
 | _ => exact h.elim
theorem v_loop {X Y : Type} {c : Code} {l : LS} {Q : Ex → LS → Prop} {body : X → Option (X ⊕ Y)} {x0 : X} {y : Y} (J : X → LS) (h : loopO body x0 = some y) (h0 : wk l (J x0))
  (hr : ∀ x o, body x = some o → (∀ y', o = .inr y' → y' = y) → OkV P N r1 b1 r2 b2 c (J x) (loopQ o J Q)) : OkV P N r1 b1 r2 b2 (.loop c) l Q := by
 refine OkV.weak ?_ h0
 intro w0 A I a w L hB g1 g2 hR
 obtain ⟨n, hn⟩ := loopO_some.1 h
 refine wp_loop_x (X := X × Nat) (fun z a w => iterO body z.2 z.1 = some y ∧ ∃ L, Rel P N N w0 A I (ofL (J z.1)) a w L) (fun z => z.2) (x0, n) ⟨hn, L, hR⟩ fun z a w ⟨hz, L, hR⟩ => ?_
 obtain ⟨x, m⟩ := z
 cases m with
 | zero => cases hz
 | succ m =>
  simp only [iterO] at hz
  have go : ∀ o, body x = some o → (∀ x', o = .inl x' → iterO body m x' = some y) → (∀ y', o = .inr y' → y' = y) → c.wp P (Exit.then (fun a' w' => ∃ z' : X × Nat, (iterO body z'.2 z'.1 = some y ∧ ∃ L, Rel P N N w0 A I (ofL (J z'.1)) a' w' L) ∧ z'.2 < m + 1) (lift P N w0 A I fun e σ => ∃ l', (σ = ofL l' ∨ agree l' σ) ∧ Q e l')) a w := fun o hb h1 h2 => by
   refine wp_mono (hr x o hb h2 w0 A I a w L hB g1 g2 hR) fun e a w h => ?_
   cases e with
   | normal =>
    obtain ⟨σ, L, h3, l', h4, x', h5, h6⟩ := h
    refine ⟨(x', m), ⟨h1 x' h5, L, agree_rel (rel_read h3 h4) h6⟩, Nat.lt_succ_self m⟩
   | exit id => exact h
   | ret => exact h
   | _ => exact h.elim
  split at hz
  ·rename_i x' hb
   exact go _ hb (fun x'' h => by cases h; exact hz) (fun y' h => by cases h)
  ·rename_i y' hb
   exact go _ hb (fun x'' h => by cases h) (fun y'' h => by cases h; exact Option.some.inj hz)
  ·cases hz
theorem v_skip {l : LS} {Q : Ex → LS → Prop} (h : Q .normal l) : OkV P N r1 b1 r2 b2 .skip l Q := v_ok (k_skip h)
theorem v_exit {id : Nat} {l : LS} {Q : Ex → LS → Prop} (h : Q (.exit id) l) : OkV P N r1 b1 r2 b2 (.exit id) l Q := v_ok (k_exit h)
theorem v_ret {l : LS} {Q : Ex → LS → Prop} (h : Q .ret l) : OkV P N r1 b1 r2 b2 .ret l Q := v_ok (k_ret h)
theorem OkV.mono {c : Code} {l : LS} {Q Q' : Ex → LS → Prop} (h : OkV P N r1 b1 r2 b2 c l Q) (hq : ∀ e l, Q e l → Q' e l) : OkV P N r1 b1 r2 b2 c l Q' := fun w0 A I a w L hB g1 g2 hR =>
 wp_mono (h w0 A I a w L hB g1 g2 hR) fun e a w h => by
  cases e <;> first | exact h.elim | (obtain ⟨σ, L, h1, l', h2, h3⟩ := h; exact ⟨σ, L, h1, l', h2, hq _ _ h3⟩)
theorem v_join {X : Type} {a b : Code} {l : LS} {Q : Ex → LS → Prop} (J : X → LS) (K : X → Prop) (hb : ∀ x, K x → OkV P N r1 b1 r2 b2 b (J x) Q) (ha : OkV P N r1 b1 r2 b2 a l (seqL (fun l' => ∃ x, K x ∧ wk l' (J x)) Q)) : OkV P N r1 b1 r2 b2 (.seq a b) l Q :=
 v_seq (ha.mono fun e l' h => by
  cases e with
  | normal => obtain ⟨x, h1, h2⟩ := h; exact (hb x h1).weak h2
  | _ => exact h)
theorem pinsOf_len (K : Nat) (a : Act) : (pinsOf K a).length = K := by simp [pinsOf]
theorem rel_pins {w0 w : World} {A : Nat → Prop} {I I' : Bor} {σ : St} {a : Act} {L : Lab} (hR : Rel P N N w0 A I σ a w L) (hb : I'.blk = I.blk) (hp : ∀ s v, I'.pins[s]? = some v → a.tmps.getD s undef = v) : Rel P N N w0 A I' σ a w L := by
 obtain ⟨blk, pins⟩ := I
 obtain ⟨blk', pins'⟩ := I'
 simp only at hb
 subst hb
 exact ⟨hR.dfr, hR.siz, ⟨hR.ev.os, hR.ev.tape, hR.ev.output, hR.ev.size, hR.ev.block⟩, hR.inj, hR.lab, hR.out, hR.hA, hp, hR.slot⟩
theorem v_enter {c : Code} {l : LS} {Q : Ex → LS → Prop} (K : Nat) (h : ∀ b1 b2, OkV P N r1 b1 r2 b2 c l Q) (h1 : isBox (ofL l r1) = true := by kernel_rfl) (h2 : isBox (ofL l r2) = true := by kernel_rfl) (hK : (codeB K N c && decide (r1 < K) && decide (r2 < K)) = true := by kernel_rfl) : OkL P N c l Q := fun k hB0 w0 A I a w L hI hR => by
 simp only [Bool.and_eq_true, decide_eq_true_eq] at hK
 obtain ⟨⟨hB, hk1⟩, hk2⟩ := hK
 have bx : ∀ r, isBox (ofL l r) = true → ∃ b, a.tmps.getD r undef = .pointer (some ⟨b, 0, none⟩) := fun r hb => by
  have s1 := hR.slot r
  cases hx : ofL l r with
  | box cs => rw [hx] at s1; obtain ⟨b, e, _⟩ := s1; exact ⟨b, e⟩
  | _ => rw [hx] at hb; cases hb
 obtain ⟨b1, e1⟩ := bx r1 h1
 obtain ⟨b2, e2⟩ := bx r2 h2
 have hmax : codeB (max k K) N c = true := by
  rcases Nat.le_total k K with hk | hk
  ·rw [Nat.max_eq_right hk]; exact hB
  ·rw [Nat.max_eq_left hk]; exact hB0
 have hkm : k ≤ max k K := Nat.le_max_left ..
 have hKm : K ≤ max k K := Nat.le_max_right ..
 refine wp_mono (h b1 b2 w0 A ⟨I.blk, pinsOf (max k K) a⟩ a w L (by rw [pinsOf_len]; exact hmax) (by rw [← show a.tmps.getD r1 undef = ptTo b1 from e1]; exact pinsOf_lt (by omega)) (by rw [← show a.tmps.getD r2 undef = ptTo b2 from e2]; exact pinsOf_lt (by omega)) (rel_pins hR rfl fun s v hv => (pinsOf_some hv).2)) fun e a' w' hl => ?_
 have back : ∀ σ L', Rel P N N w0 A ⟨I.blk, pinsOf (max k K) a⟩ σ a' w' L' → Rel P N N w0 A I σ a' w' L' := fun σ L' g => by
  refine rel_pins g rfl fun s v hv => ?_
  have hs : s < I.pins.length := (List.getElem?_eq_some_iff.1 hv).1
  have := g.pin s _ (pinsOf_lt (K := max k K) (a := a) (s := s) (by omega))
  rw [this]
  exact hR.pin s v hv
 cases e with
 | normal => obtain ⟨σ, L', g1, g2⟩ := hl; exact ⟨σ, L', back _ _ g1, g2⟩
 | exit id => obtain ⟨σ, L', g1, g2⟩ := hl; exact ⟨σ, L', back _ _ g1, g2⟩
 | ret => obtain ⟨σ, L', g1, g2⟩ := hl; exact ⟨σ, L', back _ _ g1, g2⟩
 | _ => exact hl.elim
def clo (f : FuncId) (b1 b2 : Nat) : Value := .func (.func f) #[] #[ptTo b1, ptTo b2]
theorem v_fn {id f d1 d2 : Nat} {o1 o2 : Oper} {l : LS} {Q : Ex → LS → Prop} (l1 : LS) (hq : Q .normal l1)
  (h1 : o1.op = .makeFunc (.func f) #[] #[.tmp r1, .tmp r2] ∧ o1.guard = none ∧ o1.dst = some d1 := by exact ⟨rfl, rfl, rfl⟩) (h2 : o2.op = .assign (.tmp d1) ∧ o2.guard = none ∧ o2.dst = some d2 := by exact ⟨rfl, rfl, rfl⟩)
  (g1 : refsOk l1 = true := by kernel_rfl) (g2 : readL (put (put (ofL l) d1 (.p (clo f b1 b2))) d2 (.p (clo f b1 b2))) l1 = l1 := by kernel_rfl) : OkV P N r1 b1 r2 b2 (.region id [o1, o2].toArray false) l Q := fun w0 A I a w L hB p1 p2 hR => by
 simp only [codeB, opsB, List.toList_toArray, List.all_cons, List.all_nil, Bool.and_true, h1.2.2, h2.2.2, Bool.and_eq_true, decide_eq_true_eq] at hB
 obtain ⟨⟨k1, n1⟩, k2, n2⟩ := hB
 have e1 : a.eval (.tmp r1) = ptTo b1 := hR.pin r1 _ p1
 have e2 : a.eval (.tmp r2) = ptTo b2 := hR.pin r2 _ p2
 obtain ⟨L1, R1⟩ := hR.putV ⟨k1, n1⟩ (clo f b1 b2)
 obtain ⟨L2, R2⟩ := R1.putV ⟨k2, n2⟩ (clo f b1 b2)
 refine wp_region ?_
 show wpOps P _ _ [0, 1] a w
 refine wpOps_val (o := o1) (v := clo f b1 b2) (w' := w) rfl h1.2.1 ?_ ?_
 ·simp only [execOp, h1.1, List.map_toArray, List.map_cons, List.map_nil, e1, e2]
  rfl
 ·rw [h1.2.2]
  refine wpOps_val (o := o2) (v := clo f b1 b2) (w' := w) rfl h2.2.1 ?_ ?_
  ·rw [exec_assign h2.1]
   have : (a.put (some d1) (clo f b1 b2)).eval (.tmp d1) = clo f b1 b2 := by
    rw [eval_put (by rw [hR.siz]; exact n1), if_pos rfl]
   rw [this]
  ·rw [h2.2.2]
   exact ⟨_, L2, R2, l1, .inr (agree_read g1 g2), hq⟩
theorem pvL_pre {w0 : World} {A : Nat → Prop} {I : Bor} {ops : Array Oper} {Q : Exit → Act → World → Prop} {K : St → Prop} {rest : List Nat} (hB : opsB I.pins.length N ops.toList = true) (hK : ∀ a w σ L, K σ → Rel P N N w0 A I σ a w L → wpOps P ops Q rest a w) : ∀ (l : List Oper) (k : Nat) (σ : St) (a : Act) (w : World) (L : Lab),
  (∀ j, j < l.length → l[j]? = ops[k + j]?) → Rel P N N w0 A I σ a w L → pvL P ops l σ K → wpOps P ops Q (List.range' k l.length ++ rest) a w
 | [], k, σ, a, w, L, _, hR, h => hK a w σ L h hR
 | o :: l, k, σ, a, w, L, hl, hR, h => by
  have ho : ops[k]? = some o := by simpa using (hl 0 (by simp)).symm
  have hl' : ∀ j, j < l.length → l[j]? = ops[k + 1 + j]? := fun j hj => by have := hl (j + 1) (by simpa using hj); simpa [Nat.add_assoc, Nat.add_comm 1 j] using this
  have hd : ∀ d, o.dst = some d → I.pins.length ≤ d ∧ d < N := fun d hd => by
   have := List.all_eq_true.1 hB o (by have := Array.mem_of_getElem? ho; simpa using this)
   rw [hd] at this
   simpa using this
  simp only [List.length_cons, List.range'_succ, List.cons_append, wpOps, ho]
  rcases gOp_ok hR h with ⟨h1, h2⟩ | ⟨h1, h2⟩
  ·rw [if_pos h1]
   exact .inl (pvOpF_sound hR hd h2 fun a' w' σ' L' h3 h4 => pvL_pre hB hK l (k + 1) σ' a' w' L' hl' h4 h3)
  ·rw [if_neg (by rw [h1]; simp)]
   obtain ⟨L', h3⟩ := putO_ok (tv := undef) (sv := .p (.tuple #[])) hR.up rfl o.dst hd
   exact pvL_pre hB hK l (k + 1) _ _ w L' hl' h3 h2
def afterT (r1 r2 d : Nat) (X Y : SV) (l : LS) : LS := l.map fun x => if x.1 = r1 then (x.1, X) else if x.1 = r2 then (x.1, Y) else if x.1 = d then (x.1, .u) else x
theorem afterT_at {r1 r2 d : Nat} {X Y : SV} (s : Nat) : ∀ l : LS, ofL (afterT r1 r2 d X Y l) s = (if s = r1 then X else if s = r2 then Y else if s = d then .u else ofL l s) ∨ ofL (afterT r1 r2 d X Y l) s = .u
 | [] => .inr rfl
 | (k, x) :: l => by
  by_cases hs : s = k
  ·subst hs
   left
   simp only [afterT, List.map_cons]
   split
   ·simp [ofL, upd]
   ·split
    ·simp [ofL, upd]
    ·split <;> simp [ofL, upd]
  ·have h1 : ofL ((k, x) :: l) s = ofL l s := by simp [ofL, upd, hs]
   have h2 : ofL (afterT r1 r2 d X Y ((k, x) :: l)) s = ofL (afterT r1 r2 d X Y l) s := by
    simp only [afterT, List.map_cons]
    split
    ·simp [ofL, upd, hs]
    ·split
     ·simp [ofL, upd, hs]
     ·split <;> simp [ofL, upd, hs]
   rw [h1, h2]
   exact afterT_at s l
def xPre (P : Program) (n : Nat) (ops : List Oper) (hs : List (Nat × HH)) (l0 l1 : LS) : Option (LS × List Prop) := match xL P ops.toArray hs 0 (ops.take n) (ofL l0) with
 | some (σ', obs) => if refsOk l1 = true then some (readL σ' l1, obs) else none
 | none => none
theorem take_rel {w0 w w' : World} {A : Nat → Prop} {I : Bor} {l1 : LS} {a : Act} {L : Lab} {d : Nat} {v : Value} {xs ys xs' ys' : List Value} (hR : Rel P N N w0 A I (ofL l1) a w L) (hs : l1.all (fun x => simpleS x.2) = true)
  (h1 : ofL l1 r1 = .box (xs.map .raw)) (h2 : ofL l1 r2 = .box (ys.map .raw)) (hne : r1 ≠ r2) (hd : I.pins.length ≤ d ∧ d < N) (hd1 : d ≠ r1) (hd2 : d ≠ r2) (L1 : L b1 = some (r1, [])) (L2 : L b2 = some (r2, []))
  (t1 : a.tmps.getD r1 undef = ptTo b1) (t2 : a.tmps.getD r2 undef = ptTo b2) (ev : Ev ⟨fun b => b = b1 ∨ b = b2, []⟩ w w') {e1 e2 : TypeId} (n1 : w'.heap[b1]? = some (.cells xs'.toArray e1 (0, 0))) (n2 : w'.heap[b2]? = some (.cells ys'.toArray e2 (0, 0)))
  (hsx : xs'.all scal = true) (hsy : ys'.all scal = true) : Rel P N N w0 A I (ofL (afterT r1 r2 d (.box (xs'.map .raw)) (.box (ys'.map .raw)) l1)) (a.put (some d) v) w' L := by
 have tm : ∀ s, (a.put (some d) v).tmps.getD s undef = if s = d then v else a.tmps.getD s undef := fun s => tm_put a v (by rw [hR.siz]; exact hd.2) s
 have hblk : ∀ b, b < w.heap.size → b ≠ b1 → b ≠ b2 → w'.heap[b]? = w.heap[b]? := fun b hb g1 g2 => ev.block b hb fun h => by
  rcases h with h | h
  ·exact g1 h
  ·exact g2 h
 have fresh : ∀ b, b < w0.heap.size → b ∉ I → b ≠ b1 ∧ b ≠ b2 := fun b hb hI => ⟨fun h => by
  subst h
  rcases (hR.lab _ _ L1).2.1 with h | h
  ·omega
  ·exact hI h, fun h => by
  subst h
  rcases (hR.lab _ _ L2).2.1 with h | h
  ·omega
  ·exact hI h⟩
 have hr1 : r1 < N := by
  rcases Nat.lt_or_ge r1 N with h | h
  ·exact h
  ·have := hR.out r1 h; rw [h1] at this; cases this
 have hr2 : r2 < N := by
  rcases Nat.lt_or_ge r2 N with h | h
  ·exact h
  ·have := hR.out r2 h; rw [h2] at this; cases this
 refine ⟨hR.dfr, by rw [put_size]; exact hR.siz, ⟨ev.os.trans hR.ev.os, ev.tape.trans hR.ev.tape, ev.output.trans hR.ev.output, Nat.le_trans hR.ev.size ev.size, fun b hb hI => ?_⟩, hR.inj, fun b l hl => ?_, fun s hs => ?_, hR.hA, fun s u hu => ?_, fun s => ?_⟩
 ·exact (hblk b (Nat.lt_of_lt_of_le hb hR.ev.size) (fresh b hb hI).1 (fresh b hb hI).2).trans (hR.ev.block b hb hI)
 ·have := hR.lab b l hl
  exact ⟨Nat.lt_of_lt_of_le this.1 ev.size, this.2⟩
 ·rcases afterT_at (r1 := r1) (r2 := r2) (d := d) (X := .box (xs'.map .raw)) (Y := .box (ys'.map .raw)) s l1 with h | h
  ·rw [h, if_neg (by omega), if_neg (by omega), if_neg (by omega)]; exact hR.out s hs
  ·exact h
 ·have hs : s < I.pins.length := (List.getElem?_eq_some_iff.1 hu).1
  rw [tm, if_neg (by omega)]
  exact hR.pin s u hu
 ·rcases afterT_at (r1 := r1) (r2 := r2) (d := d) (X := .box (xs'.map .raw)) (Y := .box (ys'.map .raw)) s l1 with h | h
  ·rw [h]
   by_cases g1 : s = r1
   ·subst g1
    rw [if_pos rfl]
    exact ⟨b1, by rw [tm, if_neg (Ne.symm hd1)]; exact t1, raw_box L1 n1 hsx⟩
   ·rw [if_neg g1]
    by_cases g2 : s = r2
    ·subst g2
     rw [if_pos rfl]
     exact ⟨b2, by rw [tm, if_neg (Ne.symm hd2)]; exact t2, raw_box L2 n2 hsy⟩
    ·rw [if_neg g2]
     by_cases g3 : s = d
     ·rw [if_pos g3]; trivial
     ·rw [if_neg g3, tm, if_neg g3]
      have hsm := simple_ofL hs s
      refine (hR.slot s).keep (fun b hb => ?_) (fun b q _ hb => ?_) fun r hr => ?_
      ·have := hb
       refine ⟨⟨hb.1, Nat.lt_of_lt_of_le hb.2.1 ev.size, hb.2.2⟩, hblk b hb.2.1 (fun e => ?_) fun e => ?_⟩
       ·subst e; rw [hb.1] at L1; cases L1
       ·subst e; rw [hb.1] at L2; cases L2
      ·refine ⟨hb, hblk b (hR.lab b _ hb).1 (fun e => ?_) fun e => ?_⟩
       ·subst e
        rw [hb] at L1
        simp only [Option.some.injEq, Prod.mk.injEq] at L1
        exact g1 L1.1
       ·subst e
        rw [hb] at L2
        simp only [Option.some.injEq, Prod.mk.injEq] at L2
        exact g2 L2.1
      ·cases hx : ofL l1 s with
       | ref r q n => rw [hx] at hsm; cases hsm
       | addr r q => rw [hx] at hsm; cases hsm
       | _ => rw [hx] at hr; cases hr
  ·rw [h]; trivial
theorem v_take {id n d fs ar : Nat} {f : FuncId} {ops : List Oper} {o : Oper} {ts : Array TypeId} {l : LS} {Q : Ex → LS → Prop} {S : Prop} {yv : Value} {xs ys xs' ys' : List Value} (l1 l2 : LS) (hs : List (Nat × HH)) (ho : S) (hT : Takes P f yv xs ys xs' ys')
  (hq : Q .normal l2) (h0 : ops[n]? = some o) (hl : ops.length = n + 1) (h1 : o.op = .call { callee := .value (.tmp fs), args := #[.tmp ar], argTypes := ts } ∧ o.guard = none ∧ o.dst = some d)
  (e : (xPre P n ops hs l l1).map (fun p => (p.1, allP p.2)) = some (l1, S) := by kernel_rfl) (h2 : afterT r1 r2 d (.box (xs'.map .raw)) (.box (ys'.map .raw)) l1 = l2 := by kernel_rfl)
  (hF : ofL l1 fs = .p (clo f b1 b2) := by kernel_rfl) (hY : ofL l1 ar = .p yv := by kernel_rfl) (hx : ofL l1 r1 = .box (xs.map .raw) := by kernel_rfl) (hy : ofL l1 r2 = .box (ys.map .raw) := by kernel_rfl)
  (hsm : (l1.all (fun x => simpleS x.2) && (r1 != r2) && (d != r1) && (d != r2)) = true := by kernel_rfl) (hsc : (xs'.all scal && ys'.all scal) = true := by rfl) : OkV P N r1 b1 r2 b2 (.region id ops.toArray false) l Q := fun w0 A I a w L hB p1 p2 hR => by
 subst h2
 simp only [Bool.and_eq_true, bne_iff_ne] at hsm hsc
 obtain ⟨⟨⟨hsm, hne⟩, hd1⟩, hd2⟩ := hsm
 have hB' : opsB I.pins.length N ops.toArray.toList = true := hB
 refine wp_region ?_
 have hr : List.range ops.toArray.size = List.range' 0 (ops.take n).length ++ [n] := by
  have : ops.toArray.size = n + 1 := by simp [hl]
  rw [this, List.range_succ, List.range_eq_range']
  congr 2
  simp [hl]
 rw [hr]
 unfold xPre at e
 split at e
 ·rename_i σ' obs' g1
  split at e
  ·rename_i g2
   simp only [Option.map_some, Option.some.injEq, Prod.mk.injEq] at e
   obtain ⟨g3, rfl⟩ := e
   refine pvL_pre (K := fun σ => σ = σ') hB' (fun a w σ L hK hR => ?_) (ops.take n) 0 _ a w L (fun j hj => ?_) hR (xL_ok _ _ _ _ _ g1 ho rfl)
   ·subst hK
    have hR1 := agree_rel hR (agree_read g2 g3)
    have ho' : ops.toArray[n]? = some o := by simpa using h0
    have hdN : I.pins.length ≤ d ∧ d < N := by
     have := List.all_eq_true.1 hB' o (by have := Array.mem_of_getElem? ho'; simpa using this)
     rw [h1.2.2] at this
     simpa using this
    have blk : ∀ (r b : Nat) (zs : List Value), I.pins[r]? = some (ptTo b) → ofL l1 r = .box (zs.map .raw) → a.tmps.getD r undef = ptTo b ∧ L b = some (r, []) ∧ ∃ e, w.heap[b]? = some (.cells zs.toArray e (0, 0)) := fun r b zs hp hz => by
     have s1 := hR1.slot r
     rw [hz] at s1
     obtain ⟨b', s2, s3⟩ := s1
     have s4 := hR1.pin r _ hp
     rw [s2] at s4
     have : b' = b := by unfold ptTo at s4; simpa using s4
     subst this
     exact ⟨s2, s3.1, box_raw s3⟩
    obtain ⟨t1, L1, e1, c1⟩ := blk r1 b1 xs p1 hx
    obtain ⟨t2, L2, e2, c2⟩ := blk r2 b2 ys p2 hy
    have hbne : b1 ≠ b2 := fun h => by
     subst h
     rw [L1] at L2
     simp only [Option.some.injEq, Prod.mk.injEq] at L2
     exact hne L2.1
    rw [wpOps_cons]
    unfold wpOp
    rw [ho']
    have hw : Region.wanted o (yielded ops.toArray a.tmps) = true := by unfold Region.wanted; rw [h1.2.1]
    simp only [hw, if_true]
    have hFe : evS (ofL l1) (.tmp fs) = .p (clo f b1 b2) := by simp [evS, hF]
    have hYe : evS (ofL l1) (.tmp ar) = .p yv := by simp [evS, hY]
    refine .inl (wp_call h1.1 (evS_p hR1 hFe) hT.1 ?_)
    have ea : (#[Operand.tmp ar].map a.eval ++ #[ptTo b1, ptTo b2]) = #[yv, ptTo b1, ptTo b2] := by
     simp [evS_p hR1 hYe]
    rw [ea]
    refine (hT.2 w (Zof w0 A L w) b1 b2 e1 e2 ⟨fun b hb => ⟨hb.2.1, fun h => ?_, fun h => ?_⟩, rel_tabs hR1⟩ hbne c1 c2).mono fun e w' h => ?_
    ·subst h; rw [hb.1] at L1; cases L1
    ·subst h; rw [hb.1] at L2; cases L2
    ·obtain ⟨v, rfl, ev, ⟨f1, n1⟩, f2, n2⟩ := h
     refine ⟨v, rfl, ?_⟩
     rw [h1.2.2]
     exact ⟨_, L, take_rel hR1 hsm hx hy hne hdN hd1 hd2 L1 L2 t1 t2 ev n1 n2 hsc.1 hsc.2, _, .inl rfl, hq⟩
   ·rw [List.length_take] at hj
    rw [List.getElem?_take, if_pos (by omega), Nat.zero_add]
    simp
  ·cases e
 ·cases e
end Go.PV

/-
 Plain laws of loops, elements and wraps.
 Conditions: none.
-/
namespace Go.PV
theorem w64_id {n : Int} (h1 : -9223372036854775808 ≤ n) (h2 : n ≤ 9223372036854775807) : w64 n = n := IntWalk.i64_in n ⟨h1, h2⟩
theorem w64_nat {n : Nat} (h2 : n < 9223372036854775807) : w64 ((n : Int) + 1) = ((n + 1 : Nat) : Int) := by
 rw [w64_id (by omega) (by omega)]; omega
section
variable {α β X Y : Type}
theorem idxO_nat (xs : List α) (i : Nat) : idxO xs (i : Int) = xs[i]? := by simp [idxO]
theorem idxO_lt {xs : List α} {i : Nat} (h : i < xs.length) : idxO xs (i : Int) = some xs[i] := by simp [idxO, h]
theorem guardO_bind_pos {p : Prop} [Decidable p] {f : Unit → Option α} (h : p) : (guardO p).bind f = f () := by simp [guardO, h]
theorem loop_idx {body : X → Option (X ⊕ Y)} (n : Nat) (S : Nat → X) (y : Y) (h1 : ∀ i, i < n → body (S i) = some (.inl (S (i + 1)))) (h2 : body (S n) = some (.inr y)) : loopO body (S 0) = some y := by
 have : ∀ k, k ≤ n → loopO body (S (n - k)) = some y := by
  intro k
  induction k with
  | zero => intro _; rw [loopO_eq, Nat.sub_zero, h2]
  | succ k ih =>
   intro hk
   rw [loopO_eq, h1 _ (by omega)]
   have := ih (by omega)
   rwa [show n - (k + 1) + 1 = n - k by omega]
 simpa using this n (Nat.le_refl n)
theorem loop_run {body : X → Option (X ⊕ Y)} (Inv : X → Prop) (μ : X → Nat) (R : Y → Prop) (h : ∀ x, Inv x → (∃ x', body x = some (.inl x') ∧ Inv x' ∧ μ x' < μ x) ∨ (∃ y, body x = some (.inr y) ∧ R y)) (x0 : X) (h0 : Inv x0) : ∃ y, loopO body x0 = some y ∧ R y := by
 have : ∀ n x, μ x = n → Inv x → ∃ y, loopO body x = some y ∧ R y := by
  intro n
  induction n using Nat.strongRecOn with
  | ind n ih =>
   intro x hx hi
   rcases h x hi with ⟨x', h1, h2, h3⟩ | ⟨y, h1, h2⟩
   ·obtain ⟨y, h4, h5⟩ := ih _ (by omega) x' rfl h2
    exact ⟨y, by rw [loopO_eq, h1]; exact h4, h5⟩
   ·exact ⟨y, by rw [loopO_eq, h1], h2⟩
 exact this _ x0 rfl h0
theorem loop_first {xs : List α} {body : X → Option (X ⊕ Y)} (p : α → Bool) (S : Nat → X) (yes : Nat → Y) (no : Y) (h1 : ∀ i x, xs[i]? = some x → body (S i) = some (if p x then .inr (yes i) else .inl (S (i + 1)))) (h2 : body (S xs.length) = some (.inr no)) :
  loopO body (S 0) = some (match xs.findIdx? p with | some i => yes i | none => no) := by
 cases h : xs.findIdx? p with
 | none =>
  have hn := List.findIdx?_eq_none_iff.1 h
  refine loop_idx xs.length S no (fun i hi => ?_) h2
  rw [h1 i xs[i] (List.getElem?_eq_getElem hi), hn _ (List.getElem_mem hi)]; rfl
 | some m =>
  obtain ⟨hm, hp, hlt⟩ := List.findIdx?_eq_some_iff_getElem.1 h
  refine loop_idx m S (yes m) (fun i hi => ?_) ?_
  ·rw [h1 i xs[i] (List.getElem?_eq_getElem (by omega))]
   have := hlt i hi
   simp [this]
  ·rw [h1 m xs[m] (List.getElem?_eq_getElem hm), hp]; rfl
theorem loop_any {xs : List α} {body : X → Option (X ⊕ Y)} (p : α → Bool) (S : Nat → X) (yes no : Y) (h1 : ∀ i x, xs[i]? = some x → body (S i) = some (if p x then .inr yes else .inl (S (i + 1)))) (h2 : body (S xs.length) = some (.inr no)) :
  loopO body (S 0) = some (if xs.any p then yes else no) := by
 rw [loop_first p S (fun _ => yes) no h1 h2]
 cases h : xs.findIdx? p with
 | none =>
  have hn := List.findIdx?_eq_none_iff.1 h
  have : xs.any p = false := by simpa using hn
  simp [this]
 | some m =>
  obtain ⟨hm, hp, _⟩ := List.findIdx?_eq_some_iff_getElem.1 h
  have : xs.any p = true := by simp; exact ⟨xs[m], List.getElem_mem hm, hp⟩
  simp [this]
theorem getElem?_lt {xs : List α} {i : Nat} {x : α} (h : xs[i]? = some x) : i < xs.length := (List.getElem?_eq_some_iff.1 h).1
end
end Go.PV

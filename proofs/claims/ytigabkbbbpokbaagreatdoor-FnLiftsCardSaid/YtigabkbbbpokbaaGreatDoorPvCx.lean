/-
  A walk over pure values: what stands for what, and that each operation keeps it.
  Conditions: none.
-/
import Derived.Deep.Slices
import Derived.WalkKit
import Derived.ProofKit
import Derived.Below
import Derived.Carry
import Derived.OpenShut
import Derived.HandedShaped
import Derived.Shelf.Vars
import Derived.Stop.LaidErr
import Derived.Laws.StructEq
import Derived.Lib.SliceRun
import Derived.Laws.IdiomCopy
import Derived.KernelRfl
import Derived.Lib.ItoaNum
import Derived.Lib.LaidTab
import Derived.Sort.Grow
import Derived.Deep.Draws
import Derived.Laws.Strings
import Derived.Laws.Strings2
import Derived.Laws.Slices
import Derived.Lib.Bytealg
import Derived.Lib.IndexMore
import Derived.Lib.AtoiAll
import Derived.Shelf.Strings.BuilderK
import Derived.Shelf.Strconv.AtoiAll
import Derived.RangeFuncNested
import Derived.RangeFuncLeaves
import Derived.OrdersIn
import Derived.IntWalk
import Derived.Test.YtigabkbbbpokbaaGreatDoorPvBx
set_option linter.all false
/-
 A walk over pure values: whole operations reckoned.
 Conditions: none.
-/
namespace Go.PV
variable {P : Program} {N : Nat}
def xIntOf : SV → Option Int
 | .p (.int .i64 n) => some n
 | _ => none
def xAny : SV → Option Int
 | .p (.int _ n) => some n
 | _ => none
def xBnd (ev : Operand → SV) (x : Option Operand) (dflt : Nat) : Option (Nat × List Prop) := match x with
 | none => some (dflt, [])
 | some y => match xAny (ev y) with
  | some n => some (n.toNat, [0 ≤ n])
  | none => none
theorem yhk1 {ev : Operand → SV} {x : Option Operand} {dflt l : Nat} {obs : List Prop} (e : xBnd ev x dflt = some (l, obs)) (ho : allP obs) : sOp.bnd ev x dflt = some (l : Int) := by
 unfold xBnd at e
 split at e
 ·simp only [Option.some.injEq, Prod.mk.injEq] at e
  obtain ⟨rfl, rfl⟩ := e; rfl
 split at e
 ·rename_i y n hn
  simp only [Option.some.injEq, Prod.mk.injEq] at e; obtain ⟨rfl, rfl⟩ := e; unfold xAny at hn; split at hn
  ·rename_i hy
   simp only [Option.some.injEq] at hn; subst hn; simp only [sOp.bnd, hy]; rw [Int.toNat_of_nonneg ho.1]
  cases hn
 cases e
def xMk (P : Program) (e : TypeId) : Bool := decide (((P.info? e).map (·.bytes)).getD 0 ≤ 128)
def pick2 (t : Bool) (x y : SV) : SV := if t then x else y
def xS (P : Program) (ev : Operand → SV) (rt : Nat → SV) (o : Oper) (h : HH) : Option (SV × List Prop) :=
 match o.op with
 | .move x => if noTup (ev x) then some (ev x, []) else none
 | .pick c a b => (match ev c, h.b with
  | .p (.bool t), some t0 => if noTup (pick2 t0 (ev a) (ev b)) = true then some (pick2 t0 (ev a) (ev b), [t = t0]) else none
  | _, _ => none)
 | .binOp op t x y _ => xBin P op t (ev x) (evN ev y) (xPure P ev o h)
 | .unOp .neg _ x => (match ev x with
  | .p (.int k n) => some (.p (.int k (k.wrap (0 - n))), [])
  | _ => none)
 | .unOp .not _ x => (match ev x with
  | .p (.bool b) => some (.p (.bool (!b)), [])
  | _ => none)
 | .convert s d x => (match h.bts with
  | some l => xBytes P rt s d (ev x) h l
  | none => xPure P ev o h)
 | .load t a => xLoad P rt t (ev a) h
 | .fieldAddr t a k => (match fldO P t k, ev a with
  | some off, .fadr cs => some (.fadr (cs.drop off), [])
  | some off, .addr r q => some (.addr r (bumpP q off), [])
  | _, _ => none)
 | .nilCheck x => (match ev x with
  | .fadr cs => some (.fadr cs, [])
  | .addr r q => some (.addr r q, [])
  | _ => none)
 | .indexAddr t x i => xIdx P rt t (ev x) (ev i) h
 | .extract x k => (match ev x with
  | .tup l => (match l[k]? with
   | some y => if isDR y then some (y, []) else none
   | none => none)
  | _ => none)
 | .alloc t => (match zeroC P t with
  | some cs => some (.box (bpz t cs), [])
  | none => none)
 | .makeSlice t l c => (match xIntOf (ev l), xIntOf (ev c), slE P t with
  | some n, some n', some (e, _) => (match zeroC P e with
   | some z => if xMk P e then some (.ov false [.sl (some e) (List.replicate n.toNat z)], [n' = n, 0 ≤ n, n ≤ 1099511627776]) else none
   | none => none)
  | _, _, _ => none)
 | .buildSlice t n parts => (match slE P t with
  | some (e, sz) => (match sOp.partsOf ev sz parts.toList 0 with
   | some rows => if parts.size = n ∧ n ≤ 65536 ∧ sz ≤ 16 ∧ (P.info? e).any (·.zero.isSome) = true then some (.ov false [.sl (some e) rows], []) else none
   | none => none)
  | none => none)
 | .slice t x lo hi none => (match ev x with
  | .d false [.sl none rows] => (match slE P t, xBnd ev lo 0, xBnd ev hi rows.length with
   | some (_, sz), some (l, o1), some (hh, o2) => some (.d false [.sl none ((rows.take hh).drop l)], (l ≤ hh) :: (hh ≤ rows.length) :: (∀ row ∈ rows, row.length = sz) :: (o1 ++ o2))
   | _, _, _ => none)
  | _ => xPure P ev o h)
 | .call c => (match c.callee with
  | .builtin .len => (match c.args.toList, c.argTypes.toList with
   | [x], [t] => xLen P rt t (ev x) h
   | _, _ => none)
  | .builtin .min => (match c.args.toList with
   | [x, y] => (match ev x, ev y with
    | .p (.int k a), .p (.int k' b) => if k = k' then some (.p (.int k (if b < a then b else a)), []) else none
    | _, _ => none)
   | _ => none)
  | .builtin .max => (match c.args.toList with
   | [x, y] => (match ev x, ev y with
    | .p (.int k a), .p (.int k' b) => if k = k' then some (.p (.int k (if a < b then b else a)), []) else none
    | _, _ => none)
   | _ => none)
  | .value fn => (match sOp.fnOf (ev fn), toArgs rt (c.args.toList.map ev), h.call with
   | some (f, caps), some as0, some (axs, vals, true) => if sOp.noPtr as0 then some (resSV vals, asP as0 axs ++ (Meets P f (asO as0 axs ++ caps) { vals := vals } :: smP true vals)) else none
   | _, _, _ => none)
  | _ => none)
 | .build t parts => (match sOp.buildC P ev t parts.toList with
  | some cs => some (mkD true cs, [])
  | none => none)
 | .makeFunc (.func f) first caps => if first.size = 0 then (match sOp.capsOf (caps.toList.map ev) with
  | some axs => some (.d false [.fn f axs], [])
  | none => none) else none
 | .field t x k => (match ev x with
  | .ref r [(0, 0)] (some 1) => if (isRoot (rt r) && !isBox (rt r) && fieldOne P t k) = true then some (.ref r [(0, 0)] none, []) else none
  | _ => xPure P ev o h)
 | .index .. => xPure P ev o h
 | _ => none
theorem yrz {α : Type} {a : Array α} {x : α} (h : a.toList = [x]) : a = #[x] := by
 cases a; simp_all
theorem yqs1 {ev : Operand → SV} {rt : Nat → SV} {o : Oper} {h : HH} {y : SV} {obs : List Prop} {K : SV → Prop} (e : xS P ev rt o h = some (y, obs)) (ho : allP obs) (hk : K y) : sOp P ev rt o K := by
 unfold xS at e
 split at e
 ·rename_i x hop
  split at e
  ·rename_i hn
   simp only [Option.some.injEq, Prod.mk.injEq] at e; obtain ⟨rfl, rfl⟩ := e; simp only [sOp, hop]; exact ⟨hn, hk⟩
  cases e
 ·rename_i c a b hop
  split at e
  ·rename_i t t0 h1 h2
   split at e
   ·rename_i hn
    simp only [Option.some.injEq, Prod.mk.injEq] at e; obtain ⟨rfl, rfl⟩ := e; obtain rfl := ho.1
    simp only [sOp, hop]; exact ⟨t, h1, hn, hk⟩
   cases e
  cases e
 ·rename_i op t x z t2 hop
  simp only [sOp, hop]; exact yqo1 (fun z obs h1 h2 h3 => yjv h1 h2 h3) e ho hk
 ·rename_i t x hop
  split at e
  ·rename_i k n hx
   simp only [Option.some.injEq, Prod.mk.injEq] at e; obtain ⟨rfl, rfl⟩ := e; simp only [sOp, hop]; exact ⟨k, n, hx, hk⟩
  cases e
 ·rename_i t x hop
  split at e
  ·rename_i b hx
   simp only [Option.some.injEq, Prod.mk.injEq] at e; obtain ⟨rfl, rfl⟩ := e; simp only [sOp, hop]; exact ⟨b, hx, hk⟩
  cases e
 ·rename_i s d x hop
  simp only [sOp, hop]; split at e
  ·exact .inr (yui1 e ho hk)
  exact .inl (yjv e ho hk)
 ·rename_i t a hop
  simp only [sOp, hop]; exact ywl1 e ho hk
 ·rename_i t a k hop
  simp only [sOp, hop]; split at e
  ·rename_i off cs h1 h2
   simp only [Option.some.injEq, Prod.mk.injEq] at e; obtain ⟨rfl, rfl⟩ := e; exact ⟨off, h1, by rw [h2]; exact hk⟩
  ·rename_i off r q h1 h2
   simp only [Option.some.injEq, Prod.mk.injEq] at e; obtain ⟨rfl, rfl⟩ := e; exact ⟨off, h1, by rw [h2]; exact hk⟩
  cases e
 ·rename_i x hop
  simp only [sOp, hop]; split at e
  ·rename_i cs hx
   simp only [Option.some.injEq, Prod.mk.injEq] at e; obtain ⟨rfl, rfl⟩ := e; rw [hx]; exact hk
  ·rename_i r q hx
   simp only [Option.some.injEq, Prod.mk.injEq] at e; obtain ⟨rfl, rfl⟩ := e; rw [hx]; exact hk
  cases e
 ·rename_i t x i hop
  simp only [sOp, hop]; exact yro1 e ho hk
 ·rename_i x k hop
  simp only [sOp, hop]; split at e
  ·rename_i l hl
   split at e
   ·rename_i z hz
    split at e
    ·rename_i hd
     simp only [Option.some.injEq, Prod.mk.injEq] at e; obtain ⟨rfl, rfl⟩ := e; exact ⟨l, z, hl, hz, hd, hk⟩
    cases e
   cases e
  cases e
 ·rename_i t hop
  simp only [sOp, hop]; split at e
  ·rename_i cs hcs
   simp only [Option.some.injEq, Prod.mk.injEq] at e; obtain ⟨rfl, rfl⟩ := e; exact ⟨cs, hcs, hk⟩
  cases e
 ·rename_i t l c hop
  simp only [sOp, hop]; split at e
  ·rename_i n n' e' sz h1 h2 hE
   split at e
   ·rename_i z hz
    split at e
    ·rename_i hm
     simp only [Option.some.injEq, Prod.mk.injEq] at e; obtain ⟨rfl, rfl⟩ := e; obtain ⟨h3, h4, h5, _⟩ := ho; subst h3; have hn : ∀ {x : SV}, xIntOf x = some n' → x = .p (.int .i64 ((n'.toNat : Nat) : Int)) := fun {x} hx => by
      unfold xIntOf at hx; split at hx
      ·simp only [Option.some.injEq] at hx
       subst hx; rw [Int.toNat_of_nonneg h4]
      cases hx
     exact ⟨n'.toNat, hn h1, hn h2, by omega, e', sz, hE, z, hz, by simpa [xMk] using hm, hk⟩
    cases e
   cases e
  cases e
 ·rename_i t n parts hop
  simp only [sOp, hop]; split at e
  ·rename_i e' sz hE
   split at e
   ·rename_i rows hr
    split at e
    ·rename_i hc
     simp only [Option.some.injEq, Prod.mk.injEq] at e; obtain ⟨rfl, rfl⟩ := e; exact ⟨e', sz, hE, rows, hc.1, hc.2.1, hc.2.2.1, hc.2.2.2, hr, hk⟩
    cases e
   cases e
  cases e
 ·rename_i t x lo hi hop
  simp only [sOp, hop]; split at e
  ·rename_i rows hx
   rw [hx]; split at e
   ·rename_i e' sz l o1 hh o2 hE h1 h2
    simp only [Option.some.injEq, Prod.mk.injEq] at e; obtain ⟨rfl, rfl⟩ := e; obtain ⟨h3, h4, h5, h6⟩ := ho; rw [allP_append] at h6; exact ⟨e', sz, hE, l, hh, yhk1 h1 h6.1, yhk1 h2 h6.2, h3, h4, h5, hk⟩
   cases e
  rename_i hx; split
  ·exact absurd (by assumption) (hx _)
  exact yjv e ho hk
 ·rename_i c hop
  simp only [sOp, hop]; split at e
  ·rename_i hc
   simp only [hc]; split at e
   ·rename_i x t ha ht
    exact ⟨x, t, yrz ha, yrz ht, yso1 e ho hk⟩
   cases e
  ·rename_i hc
   simp only [hc]; split at e
   ·rename_i x z ha
    split at e
    ·rename_i k a k' b h1 h2
     split at e
     ·rename_i hkk
      subst hkk; simp only [Option.some.injEq, Prod.mk.injEq] at e; obtain ⟨rfl, rfl⟩ := e; exact ⟨x, z, k, a, b, ha, h1, h2, hk⟩
     cases e
    cases e
   cases e
  ·rename_i hc
   simp only [hc]; split at e
   ·rename_i x z ha
    split at e
    ·rename_i k a k' b h1 h2
     split at e
     ·rename_i hkk
      subst hkk; simp only [Option.some.injEq, Prod.mk.injEq] at e; obtain ⟨rfl, rfl⟩ := e; exact ⟨x, z, k, a, b, ha, h1, h2, hk⟩
     cases e
    cases e
   cases e
  ·rename_i fn hc
   simp only [hc]; split at e
   ·rename_i f caps as0 axs vals h1 h2 h3
    split at e
    ·rename_i hp
     simp only [Option.some.injEq, Prod.mk.injEq] at e; obtain ⟨rfl, rfl⟩ := e; obtain ⟨h4, h5, h6⟩ := allP_append.1 ho; rw [ykn1 h4] at h5; exact ⟨f, caps, as0, { vals := vals }, h1, h2, hp, h5, rfl, by simpa using ymo1 h6, hk⟩
    cases e
   cases e
  cases e
 ·rename_i t parts hop
  simp only [sOp, hop]; split at e
  ·rename_i cs hcs
   simp only [Option.some.injEq, Prod.mk.injEq] at e; obtain ⟨rfl, rfl⟩ := e; exact ⟨cs, hcs, hk⟩
  cases e
 ·rename_i f first caps hop
  simp only [sOp, hop]; split at e
  ·rename_i h0
   split at e
   ·rename_i axs has
    simp only [Option.some.injEq, Prod.mk.injEq] at e; obtain ⟨rfl, rfl⟩ := e; exact ⟨h0, axs, has, hk⟩
   cases e
  cases e
 ·rename_i t x k hop
  simp only [sOp, hop]; split at e
  ·rename_i r hx
   split at e
   ·rename_i hb
    simp only [Option.some.injEq, Prod.mk.injEq] at e; obtain ⟨rfl, rfl⟩ := e; simp only [Bool.and_eq_true, Bool.not_eq_true'] at hb; exact .inr ⟨r, hx, hb.1.1, hb.1.2, hb.2, hk⟩
   cases e
  exact .inl (yjv e ho hk)
 ·rename_i hop
  simp only [sOp, hop]; exact yjv e ho hk
 cases e
end Go.PV

/-
 A walk over pure values: operations that act, reckoned; regions.
 Conditions: none.
-/
namespace Go.PV
variable {P : Program} {N : Nat}
def nWant (g : Bool) (cs : List C) : Option Nat := if g then some cs.length else none
def xAsg (P : Program) (σ : St) (o : Oper) (d : Nat) (x : Operand) (h : HH) : Option (St × List Prop) :=
 match x with
 | .const (.slice none 0 0) => (match slE P o.type with
  | some (e, _) => some (put σ d (.ov false [.sl (some e) []]), [])
  | none => none)
 | .const v => some (put σ d (.p v), [])
 | .func f => some (put σ d (.p (.func (.func f) #[] #[])), [])
 | .global _ => none
 | .tmp t => (match σ t with
  | .ov _ _ => if t = d then none else some (trans σ t d, [])
  | .box _ => if t = d then none else some (put σ d (.addr t [(0, 0)]), [])
  | .ref r q n => if r = d then (if q = [(0, 0)] ∧ n = none then (match σ r with
     | .ov false [_] => some (σ, [])
     | _ => none) else none)
    else if q = [(0, 0)] then (match σ r with
     | .ov g cs => if n = nWant g cs then some (trans σ r d, []) else none
     | .d g cs => if n = nWant g cs then some (put σ d (.d g cs), []) else none
     | _ => none)
    else (match h.deep, n with
     | some (c :: cs), none => some (put (gone σ r) d (.ov false [c]), [getRow (rows1 (σ r)) q = some (c :: cs)])
     | none, n => some (put σ d (.ref r q n), [])
     | _, _ => none)
  | .tup _ => none
  | .addr r q => if r = d then none else some (put σ d (.addr r q), [])
  | y => some (put σ d y, []))
theorem yto1 {σ σ' : St} {o : Oper} {d : Nat} {x : Operand} {h : HH} {obs : List Prop} {K : St → Prop} (e : xAsg P σ o d x h = some (σ', obs)) (ho : allP obs) (hk : K σ') : asgK P σ o d x K := by
 unfold xAsg at e
 split at e
 ·split at e
  ·rename_i e' sz hE
   simp only [Option.some.injEq, Prod.mk.injEq] at e; obtain ⟨rfl, rfl⟩ := e; exact ⟨e', sz, hE, hk⟩
  cases e
 ·rename_i v hv
  simp only [Option.some.injEq, Prod.mk.injEq] at e; obtain ⟨rfl, rfl⟩ := e; unfold asgK; split
  ·rename_i heq
   simp only [Operand.const.injEq] at heq; exact absurd heq (hv)
  ·rename_i v' _ heq
   cases heq
   exact hk
  ·rename_i heq; cases heq
  ·rename_i heq; cases heq
  rename_i heq; cases heq
 ·simp only [Option.some.injEq, Prod.mk.injEq] at e
  obtain ⟨rfl, rfl⟩ := e; exact hk
 ·cases e
 rename_i t
 simp only [asgK]
 split at e
 ·rename_i g cs ht
  split at e
  ·cases e
  rename_i hne; simp only [Option.some.injEq, Prod.mk.injEq] at e; obtain ⟨rfl, rfl⟩ := e; simp only [ht]; exact ⟨hne, hk⟩
 ·rename_i cs ht
  split at e
  ·cases e
  rename_i hne; simp only [Option.some.injEq, Prod.mk.injEq] at e; obtain ⟨rfl, rfl⟩ := e; simp only [ht]; exact ⟨hne, hk⟩
 ·rename_i r q n ht
  simp only [ht]; split at e
  ·rename_i hr
   rw [if_pos hr]; split at e
   ·rename_i hq
    split at e
    ·rename_i c hσ
     simp only [Option.some.injEq, Prod.mk.injEq] at e; obtain ⟨rfl, rfl⟩ := e; simp only [hσ]; exact ⟨hq.1, hq.2, trivial, hk⟩
    cases e
   cases e
  rename_i hr; rw [if_neg hr]; split at e
  ·rename_i hq
   rw [if_pos hq]; split at e
   ·rename_i g cs hσ
    split at e
    ·rename_i hn
     simp only [Option.some.injEq, Prod.mk.injEq] at e; obtain ⟨rfl, rfl⟩ := e; simp only [hσ]; exact ⟨hn, hk⟩
    cases e
   ·rename_i g cs hσ
    split at e
    ·rename_i hn
     simp only [Option.some.injEq, Prod.mk.injEq] at e; obtain ⟨rfl, rfl⟩ := e; simp only [hσ]; exact ⟨hn, hk⟩
    cases e
   cases e
  rename_i hq; rw [if_neg hq]; split at e
  ·rename_i c cs hdp
   simp only [Option.some.injEq, Prod.mk.injEq] at e; obtain ⟨rfl, rfl⟩ := e; exact .inr ⟨c, cs, rfl, ho.1, hk⟩
  ·simp only [Option.some.injEq, Prod.mk.injEq] at e
   obtain ⟨rfl, rfl⟩ := e; exact .inl hk
  cases e
 ·cases e
 ·rename_i r q ht
  split at e
  ·cases e
  rename_i hne; simp only [Option.some.injEq, Prod.mk.injEq] at e; obtain ⟨rfl, rfl⟩ := e; simp only [ht]; exact ⟨hne, hk⟩
 rename_i h1 h2 h3 h4 h5
 simp only [Option.some.injEq, Prod.mk.injEq] at e
 obtain ⟨rfl, rfl⟩ := e
 split
 ·exact absurd (by assumption) (h1 _ _)
 ·exact absurd (by assumption) (h2 _)
 ·exact absurd (by assumption) (h3 _ _ _)
 ·exact absurd (by assumption) (h4 _)
 ·exact absurd (by assumption) (h5 _ _)
 exact hk
def xOld (σ : St) (r : Nat) (q : Path) (h : HH) : Option (List C × List Prop) := match h.row with
 | some cs => some (cs, [getRow (rows1 (σ r)) q = some cs])
 | none => match getRow (rows1 (σ r)) q with
  | some cs => some (cs, [])
  | none => none
theorem ysf1 {σ : St} {r : Nat} {q : Path} {h : HH} {cs : List C} {obs : List Prop} (e : xOld σ r q h = some (cs, obs)) (ho : allP obs) : getRow (rows1 (σ r)) q = some cs := by
 unfold xOld at e
 split at e
 ·simp only [Option.some.injEq, Prod.mk.injEq] at e
  obtain ⟨rfl, rfl⟩ := e; exact ho.1
 split at e
 ·rename_i h2
  simp only [Option.some.injEq, Prod.mk.injEq] at e; obtain ⟨rfl, rfl⟩ := e; exact h2
 cases e
def xStore (P : Program) (σ : St) (o : Oper) (t : TypeId) (a x : SV) (h : HH) : Option (St × List Prop) :=
 match o.dst, tyC P t, a, mvCells σ x with
 | none, some (_, n), .addr r q, some (cs, mv) => (match xOld σ r q h with
  | some (old, obs) => if 0 < n ∧ isOwnR (σ r) = true ∧ n ≤ old.length ∧ cs.length = n ∧ nb cs = true ∧ mv ≠ some r then
    (if ((raws (old.take n)).isSome && (raws cs).isSome) = true then some (stScal σ r q cs, obs) else some (stStruct (goneO σ mv) r q cs, obs)) else none
  | none => none)
 | _, _, _, _ => none
theorem yvi1 {σ σ' : St} {o : Oper} {t : TypeId} {a x : SV} {h : HH} {obs : List Prop} {K : St → Prop} (e : xStore P σ o t a x h = some (σ', obs)) (ho : allP obs) (hk : K σ') : stK P σ o t a x K := by
 unfold xStore at e
 split at e
 ·rename_i g n r q cs mv hd hT hm
  split at e
  ·rename_i old obs' hold
   split at e
   ·rename_i hc
    obtain ⟨h1, h2, h3, h4, hnb, h5⟩ := hc; split at e
    ·rename_i hb
     simp only [Option.some.injEq, Prod.mk.injEq] at e; obtain ⟨rfl, rfl⟩ := e; exact ⟨hd, g, n, r, q, old, cs, mv, hT, h1, h2, rfl, ysf1 hold ho, h3, hm, h4, hnb, h5, by rw [if_pos hb]; exact hk⟩
    rename_i hb; simp only [Option.some.injEq, Prod.mk.injEq] at e; obtain ⟨rfl, rfl⟩ := e; exact ⟨hd, g, n, r, q, old, cs, mv, hT, h1, h2, rfl, ysf1 hold ho, h3, hm, h4, hnb, h5, by rw [if_neg hb]; exact hk⟩
   cases e
  cases e
 cases e
def xStoreN (P : Program) (σ : St) (o : Oper) (t : TypeId) (a : SV) (e : TypeId) (h : HH) : Option (St × List Prop) :=
 match o.dst, tyC P t, a with
 | none, some (_, 1), .addr r q => (match xOld σ r q h with
  | some (old, obs) => if isOwnR (σ r) = true ∧ 1 ≤ old.length then some (stStruct σ r q [.sl (some e) []], obs) else none
  | none => none)
 | _, _, _ => none
theorem ytf1 {σ σ' : St} {o : Oper} {t e : TypeId} {a : SV} {h : HH} {obs : List Prop} {K : St → Prop} (e' : xStoreN P σ o t a e h = some (σ', obs)) (ho : allP obs) (hk : K σ') : stKc P σ o t a [.sl (some e) []] none K := by
 unfold xStoreN at e'
 split at e'
 ·rename_i g r q hd hT
  split at e'
  ·rename_i old obs' hold
   split at e'
   ·rename_i hc
    simp only [Option.some.injEq, Prod.mk.injEq] at e'
    obtain ⟨rfl, rfl⟩ := e'
    exact ⟨hd, g, 1, r, q, old, hT, by omega, hc.1, rfl, ysf1 hold ho, hc.2, rfl, rfl, by simp, by simpa [raws, goneO] using hk⟩
   cases e'
  cases e'
 cases e'
def xAdd (σ : St) (x : SV) (h : HH) : Option (List (List C) × Option Nat × List Prop) := match xSl σ x h with
 | some (none, rows, obs) => some (rows, none, obs)
 | some (some _, rows, obs) => (match x with
  | .ref r [(0, 0)] none => (match σ r with
   | .ov false [.sl (some _) _] => some (rows, some r, obs)
   | _ => none)
  | _ => none)
 | none => none
theorem yik1 {σ : St} {x : SV} {h : HH} {rows : List (List C)} {mv : Option Nat} {obs : List Prop} (e : xAdd σ x h = some (rows, mv, obs)) (ho : allP obs) : addRows σ x = some (rows, mv) := by
 unfold xAdd at e
 split at e
 ·rename_i rows' obs' h1
  simp only [Option.some.injEq, Prod.mk.injEq] at e; obtain ⟨rfl, rfl, rfl⟩ := e; simp [addRows, yqz h1 ho]
 ·rename_i t rows' obs' h1
  split at e
  ·rename_i r
   split at e
   ·rename_i t' rows2 h2
    simp only [Option.some.injEq, Prod.mk.injEq] at e; obtain ⟨rfl, rfl, rfl⟩ := e; simp [addRows, yqz h1 ho, h2]
   cases e
  cases e
 cases e
def xApp (P : Program) (σ : St) (o : Oper) (t : TypeId) (s x : SV) (h : HH) : Option (St × List Prop) :=
 match slE P t, xAdd σ x h with
 | some (e, sz), some (rows2, mv, obs) => if apE P e = true then (match s with
  | .d false [.sl none []] => some (putO o.dst (.ov false [.sl (some e) rows2]) (goneO σ mv), (rows2.length ≤ 1099511627776) :: (∀ row ∈ rows2, row.length = sz) :: obs)
  | .ref r [(0, 0)] none => if mv = some r then none else (match σ r with
   | .ov false [.sl (some e') rows] => if e' = e then some (putO o.dst (.ov false [.sl (some e) (rows ++ rows2)]) (gone (goneO σ mv) r), (rows.length + rows2.length ≤ 1099511627776) :: (∀ row ∈ rows2, row.length = sz) :: obs) else none
   | _ => none)
  | _ => none) else none
 | _, _ => none
theorem yuo1 {σ σ' : St} {o : Oper} {t : TypeId} {s x : SV} {h : HH} {obs : List Prop} {K : St → Prop} (e : xApp P σ o t s x h = some (σ', obs)) (ho : allP obs) (hk : K σ') : apK P σ o t s x K := by
 unfold xApp at e
 split at e
 ·rename_i e' sz rows2 mv obs' hE hA
  split at e
  ·rename_i hap
   split at e
   ·simp only [Option.some.injEq, Prod.mk.injEq] at e
    obtain ⟨rfl, rfl⟩ := e; exact ⟨e', sz, rows2, mv, hE, hap, yik1 hA ho.2.2, ho.2.1, ho.1, hk⟩
   ·rename_i r
    split at e
    ·cases e
    rename_i hmv; split at e
    ·rename_i e2 rows hσ
     split at e
     ·rename_i he
      simp only [Option.some.injEq, Prod.mk.injEq] at e; obtain ⟨rfl, rfl⟩ := e; refine ⟨e', sz, rows2, mv, hE, hap, yik1 hA ho.2.2, ho.2.1, hmv, ?_⟩
      simp only [hσ]; exact ⟨he, ho.1, hk⟩
     cases e
    cases e
   cases e
  cases e
 cases e
def xAps (P : Program) (σ : St) (o : Oper) (t t' : TypeId) (s x : SV) : Option (St × List Prop) :=
 match slE P t, P.underlying t', s, x with
 | some (e, 1), some .string, .ref r [(0, 0)] none, .p (.string b) => if apE P e = true then (match σ r with
  | .ov false [.sl (some e') rows] => if e' = e then some (putO o.dst (.ov false [.sl (some e) (rows ++ bytesR b)]) (gone σ r), [rows.length + b.size ≤ 1099511627776]) else none
  | _ => none) else none
 | _, _, _, _ => none
theorem yvo1 {σ σ' : St} {o : Oper} {t t' : TypeId} {s x : SV} {obs : List Prop} {K : St → Prop} (e : xAps P σ o t t' s x = some (σ', obs)) (ho : allP obs) (hk : K σ') : ∃ b, P.underlying t' = some .string ∧ x = .p (.string b) ∧ apsK P σ o t s b K := by
 unfold xAps at e
 split at e
 ·rename_i e' r b hE hu
  split at e
  ·rename_i hap
   split at e
   ·rename_i e2 rows hσ
    split at e
    ·rename_i he
     simp only [Option.some.injEq, Prod.mk.injEq] at e; obtain ⟨rfl, rfl⟩ := e; subst he; exact ⟨b, hu, rfl, _, r, rows, hE, hap, rfl, hσ, ho.1, hk⟩
    cases e
   cases e
  cases e
 cases e
def xArg (σ : St) (d : Option (List C)) (x : SV) : Option (Arg × List Prop) := match x, d with
 | .ref r (p :: p2 :: q) none, some (c :: cs) => some (mkA false (eraR [c]), [getRow (rows1 (σ r)) (p :: p2 :: q) = some (c :: cs)])
 | x, _ => (match toArg σ x with
  | some a => some (a, [])
  | none => none)
theorem ywo1 {σ : St} {d : Option (List C)} {x : SV} {a : Arg} {obs : List Prop} (e : xArg σ d x = some (a, obs)) (ho : allP obs) : toArg σ x = some a := by
 unfold xArg at e
 split at e
 ·rename_i r p p2 q c cs
  simp only [Option.some.injEq, Prod.mk.injEq] at e; obtain ⟨rfl, rfl⟩ := e; simp only [toArg, deref, ho.1]
 split at e
 ·simp only [Option.some.injEq, Prod.mk.injEq] at e
  obtain ⟨rfl, _⟩ := e; assumption
 cases e
def xArgs (σ : St) (d : Option (List C)) : List SV → Option (List Arg × List Prop)
 | [] => some ([], [])
 | x :: l => match xArg σ d x, xArgs σ d l with
  | some (a, o), some (axs, os) => some (a :: axs, o ++ os)
  | _, _ => none
theorem yuf1 {σ : St} {d : Option (List C)} : ∀ {l : List SV} {axs : List Arg} {obs : List Prop}, xArgs σ d l = some (axs, obs) → allP obs → toArgs σ l = some axs
 | [], axs, obs, e, _ => by
  simp only [xArgs, Option.some.injEq, Prod.mk.injEq] at e; obtain ⟨rfl, _⟩ := e; rfl
 | x :: l, axs, obs, e, ho => by
  simp only [xArgs] at e; split at e
  ·rename_i a o as1 os h1 h2
   simp only [Option.some.injEq, Prod.mk.injEq] at e; obtain ⟨rfl, rfl⟩ := e; obtain ⟨h3, h4⟩ := allP_append.1 ho; simp only [toArgs, ywo1 h1 h3, yuf1 h2 h4]
  cases e
def xCall (P : Program) (σ : St) (o : Oper) (fn : Operand) (args : List Operand) (h : HH) : Option (St × List Prop) :=
 match sOp.fnOf (evS σ fn), xArgs σ h.deep (args.map (evS σ)), h.call with
 | some (f, caps), some (as0, ob), some (axs, vals, b) => if sOp.noPtr as0 = true then
   some (putO o.dst (resSV vals) (if b then σ else frzAll ((args.map (evS σ)).flatMap rootOf) σ), asP as0 axs ++ (Meets P f (asO as0 axs ++ caps) { vals := vals } :: (smP b vals ++ ob))) else none
 | _, _, _ => none
theorem yxl1 {σ σ' : St} {o : Oper} {fn : Operand} {args : List Operand} {h : HH} {obs : List Prop} {K : St → Prop} (e : xCall P σ o fn args h = some (σ', obs)) (ho : allP obs) (hk : K σ') : callK P σ o fn args K := by
 unfold xCall at e
 split at e
 ·rename_i f caps as0 ob axs vals b h1 h2 h3
  split at e
  ·rename_i hp
   simp only [Option.some.injEq, Prod.mk.injEq] at e; obtain ⟨rfl, rfl⟩ := e; obtain ⟨h4, h5, h6⟩ := allP_append.1 ho; obtain ⟨h7, h8⟩ := allP_append.1 h6; rw [ykn1 h4] at h5; exact ⟨f, caps, as0, { vals := vals }, h1, yuf1 h2 h8, hp, h5, rfl, b, ymo1 h7, hk⟩
  cases e
 cases e
def xLendOf (σ : St) (x : SV) (h : HH) : Option (Nat × Option Path × SV × List Prop) := match x, h.deep with
 | .ref r q none, some (c :: cs) => if isOwnR (σ r) = true ∧ q ≠ [(0, 0)] then some (r, some q, .ov false [c], [getRow (rows1 (σ r)) q = some (c :: cs)]) else none
 | x, _ => (match lendOf σ x with
  | some (r, q, sv) => some (r, q, sv, [])
  | none => none)
theorem yvf1 {σ : St} {x : SV} {h : HH} {r : Nat} {q : Option Path} {sv : SV} {obs : List Prop} (e : xLendOf σ x h = some (r, q, sv, obs)) (ho : allP obs) : lendOf σ x = some (r, q, sv) := by
 unfold xLendOf at e
 split at e
 ·rename_i r' q' c cs h1
  split at e
  ·rename_i hc
   simp only [Option.some.injEq, Prod.mk.injEq] at e; obtain ⟨rfl, rfl, rfl, rfl⟩ := e; have h2 := ho.1; have h3 : lendCell (σ r') r' q' none = some (r', some q', .ov false [c]) := by simp [lendCell, hc.1, h2]
   unfold lendOf; split
   ·rename_i heq; cases heq
   ·rename_i heq
    cases heq
    split
    ·rename_i g cs' hσ
     rw [if_neg hc.2, ← hσ]; exact h3
    exact h3
   rename_i hno; exact absurd rfl (hno _ _ _)
  cases e
 split at e
 ·rename_i h2
  simp only [Option.some.injEq, Prod.mk.injEq] at e; obtain ⟨rfl, rfl, rfl, rfl⟩ := e; exact h2
 cases e
def xLend (P : Program) (σ : St) (o : Oper) (fn : Operand) (args : List Operand) (h : HH) : Option (St × List Prop) :=
 match sOp.fnOf (evS σ fn), args, h.lend with
 | some (f, []), x0 :: rest, some (axs, vals, sv', b) => (match xLendOf σ (evS σ x0) h, toArgs σ (rest.map (evS σ)) with
  | some (r, q, sv, obs), some as0 => if (sOp.noPtr as0 && !((rest.map (evS σ)).flatMap rootOf).contains r && lendSame sv sv') = true then
    some (putO o.dst (resSV vals) (lendBack (if b then σ else frzAll ((rest.map (evS σ)).flatMap rootOf) σ) r q sv'), asP as0 axs ++ (MeetsB P f sv (asO as0 axs) vals sv' :: (smL b vals sv' ++ obs))) else none
  | _, _ => none)
 | _, _, _ => none
theorem yyl1 {σ σ' : St} {o : Oper} {fn : Operand} {args : List Operand} {h : HH} {obs : List Prop} {K : St → Prop} (e : xLend P σ o fn args h = some (σ', obs)) (ho : allP obs) (hk : K σ') : lendK P σ o fn args K := by
 unfold xLend at e
 split at e
 ·rename_i f x0 rest axs vals sv' b h1 h2
  split at e
  ·rename_i r q sv obs' as0 h3 h4
   split at e
   ·rename_i hc
    simp only [Option.some.injEq, Prod.mk.injEq] at e; obtain ⟨rfl, rfl⟩ := e; obtain ⟨h5, h6, h78⟩ := allP_append.1 ho; obtain ⟨h7, h8⟩ := allP_append.1 h78; rw [ykn1 h5] at h6; replace h7 := ynr1 h7
    simp only [Bool.and_eq_true, Bool.not_eq_true', List.contains_eq_mem, decide_eq_false_iff_not] at hc; exact ⟨f, x0, rest, r, q, sv, as0, vals, sv', h1, rfl, yvf1 h3 h8, h4, hc.1.1, hc.1.2, h6, hc.2, b, h7, hk⟩
   cases e
  cases e
 cases e
def xEat (P : Program) (σ : St) (o : Oper) (fn : Operand) (args : List Operand) (h : HH) : Option (St × List Prop) :=
 match sOp.fnOf (evS σ fn), args, h.lend with
 | some (f, []), x0 :: rest, some (axs, vals, .u, b) => (match lendOf σ (evS σ x0), toArgs σ (rest.map (evS σ)) with
  | some (r, none, sv), some as0 => if (sOp.noPtr as0 && !((rest.map (evS σ)).flatMap rootOf).contains r) = true then
    some (putO o.dst (resSV vals) (gone (if b then σ else frzAll ((rest.map (evS σ)).flatMap rootOf) σ) r), asP as0 axs ++ (MeetsB P f sv (asO as0 axs) vals .u :: smP b vals)) else none
  | _, _ => none)
 | _, _, _ => none
theorem yxo1 {σ σ' : St} {o : Oper} {fn : Operand} {args : List Operand} {h : HH} {obs : List Prop} {K : St → Prop} (e : xEat P σ o fn args h = some (σ', obs)) (ho : allP obs) (hk : K σ') : eatK P σ o fn args K := by
 unfold xEat at e
 split at e
 ·rename_i f x0 rest axs vals b h1 h2
  split at e
  ·rename_i r sv as0 h3 h4
   split at e
   ·rename_i hc
    simp only [Option.some.injEq, Prod.mk.injEq] at e; obtain ⟨rfl, rfl⟩ := e; obtain ⟨h5, h6, h7⟩ := allP_append.1 ho; rw [ykn1 h5] at h6; replace h7 := ymo1 h7
    simp only [Bool.and_eq_true, Bool.not_eq_true', List.contains_eq_mem, decide_eq_false_iff_not] at hc; exact ⟨f, x0, rest, r, sv, as0, vals, h1, rfl, h3, h4, hc.1, hc.2, h6, b, h7, hk⟩
   cases e
  cases e
 cases e
def xOp0 (P : Program) (o : Oper) (σ : St) (h : HH) : Option (St × List Prop) :=
 match o.op with
 | .assign x => (match o.dst with | some d => xAsg P σ o d x h | none => none)
 | .store t a x => (match nilSl P t x with
  | some e => xStoreN P σ o t (evS σ a) e h
  | none => xStore P σ o t (evS σ a) (evS σ x) h)
 | .box t x => (match tyC P t, mvCells σ (evS σ x) with
  | some (_, n), some (cs, mv) => if cs.length = n ∧ nb cs = true then some (putO o.dst (.box cs) (goneO σ mv), []) else none
  | _, _ => none)
 | .call { callee := .builtin .append, args := args, argTypes := ts } => (match args.toList, ts.toList with
  | [s, x], [t, t'] => if t = t' then xApp P σ o t (apSrc σ s) (evS σ x) h else xAps P σ o t t' (apSrc σ s) (evS σ x)
  | _, _ => none)
 | .call { callee := .value fn, args := args, argTypes := _ } => (match h.lend with
  | some (_, _, .u, _) => xEat P σ o fn args.toList h
  | some _ => xLend P σ o fn args.toList h
  | none => xCall P σ o fn args.toList h)
 | .move (.tmp t) => (match σ t with
  | .tup _ => (match o.dst with
   | some d => if t = d then none else some (trans σ t d, [])
   | none => none)
  | _ => (match xS P (evS σ) σ o h with
   | some (x, obs) => some (putO o.dst x σ, obs)
   | none => none))
 | .extract (.tmp t) k => (match σ t with
  | .tup l => (match l[k]? with
   | some (.ov g cs) => some (putO o.dst (.ov g cs) (upd σ t (.tup (l.set k .u))), [])
   | some y => if isDR y = true then some (putO o.dst y σ, []) else none
   | none => none)
  | _ => none)
 | .build t parts => (match h.b with
  | some true => (match sOp.buildC P (evS σ) t [], zeroC P t with
   | some _, some cs => if parts.size = 0 then some (putO o.dst (.ov true cs) σ, []) else none
   | _, _ => none)
  | _ => (match xS P (evS σ) σ o h with
   | some (x, obs) => some (putO o.dst x σ, obs)
   | none => (match parts.toList with
    | [(0, x)] => (match mvCells σ (evS σ x) with
     | some (cs, some r) => if oneF P t = some cs.length then some (putO o.dst (.ov true cs) (gone σ r), []) else none
     | _ => none)
    | _ => none)))
 | .slice t x lo hi c => (match xS P (evS σ) σ o h with
  | some (y, obs) => some (putO o.dst y σ, obs)
  | none => (match lo, hi, c, slE P t, evS σ x with
   | none, some y, none, some (e, _), .ref r [(0, 0)] none => (match σ r, evS σ y with
    | .ov false [.sl (some e') rows], .p (.int _ n) => if e' = e then some (putO o.dst (.ov false [.sl (some e) (rows.take n.toNat)]) (gone σ r), [0 ≤ n, n ≤ rows.length]) else none
    | _, _ => none)
   | _, _, _, _, _ => none))
 | .buildSlice t n parts => (match xS P (evS σ) σ o h with
  | some (x, obs) => some (putO o.dst x σ, obs)
  | none => (match slE P t, parts.toList with
   | some (e, sz), [(0, x)] => (match mvCells σ (evS σ x) with
    | some (cs, some r) => if apE P e = true ∧ n = 1 ∧ cs.length = sz ∧ 0 < sz ∧ sz ≤ 16 then some (putO o.dst (.ov false [.sl (some e) [cs]]) (gone σ r), []) else none
    | _ => none)
   | _, _ => none))
 | _ => (match xS P (evS σ) σ o h with
  | some (x, obs) => some (putO o.dst x σ, obs)
  | none => none)
theorem ywf1 {σ σ' : St} {o : Oper} {h : HH} {obs : List Prop} {K : St → Prop} (e : xOp0 P o σ h = some (σ', obs)) (ho : allP obs) (hk : K σ') : pvOp P o σ K := by
 have gen : ∀ {x obs}, xS P (evS σ) σ o h = some (x, obs) → allP obs → K (putO o.dst x σ) → sOp P (evS σ) σ o (fun x => K (putO o.dst x σ)) := fun h1 h2 h3 => yqs1 (K := fun x => K (putO o.dst x σ)) h1 h2 h3
 unfold xOp0 at e
 split at e
 ·rename_i x hop
  split at e
  ·rename_i d hd
   simp only [pvOp, hop, hd]; exact yto1 e ho hk
  cases e
 ·rename_i t a x hop
  simp only [pvOp, hop]; split at e
  ·rename_i e1 h1
   exact .inr ⟨e1, h1, ytf1 e ho hk⟩
  exact .inl (yvi1 e ho hk)
 ·rename_i t x hop
  simp only [pvOp, hop]; split at e
  ·rename_i g n cs mv h1 h2
   split at e
   ·rename_i hn
    simp only [Option.some.injEq, Prod.mk.injEq] at e; obtain ⟨rfl, rfl⟩ := e; exact ⟨g, n, cs, mv, h1, h2, hn.1, hn.2, hk⟩
   cases e
  cases e
 ·rename_i args ts hop
  simp only [pvOp, hop]; split at e
  ·rename_i s x t t' h1 h2
   split at e
   ·rename_i ht
    subst ht; exact .inl ⟨s, x, t, h1, h2, yuo1 e ho hk⟩
   obtain ⟨b, h3, h4, h5⟩ := yvo1 e ho hk; exact .inr ⟨s, x, t, t', b, h1, h2, h3, h4, h5⟩
  cases e
 ·rename_i fn args ts hop
  simp only [pvOp, hop]; split at e
  ·exact .inr (.inr (yxo1 e ho hk))
  ·exact .inr (.inl (yyl1 e ho hk))
  exact .inl (yxl1 e ho hk)
 ·rename_i t hop
  simp only [pvOp, hop]; split at e
  ·rename_i l hl
   split at e
   ·rename_i d hd
    split at e
    ·cases e
    rename_i hne; simp only [Option.some.injEq, Prod.mk.injEq] at e; obtain ⟨rfl, rfl⟩ := e; rw [hl]; exact ⟨d, hd, hne, hk⟩
   cases e
  rename_i hno; split at e
  ·rename_i x obs' hx
   simp only [Option.some.injEq, Prod.mk.injEq] at e; obtain ⟨rfl, rfl⟩ := e; have := gen hx ho hk
   split
   ·exact absurd (by assumption) (hno _)
   exact this
  cases e
 ·rename_i t k hop
  simp only [pvOp, hop]; split at e
  ·rename_i l hl
   split at e
   ·rename_i g cs hy
    simp only [Option.some.injEq, Prod.mk.injEq] at e; obtain ⟨rfl, rfl⟩ := e; exact ⟨l, _, hl, hy, hk⟩
   ·rename_i y hy hno
    split at e
    ·rename_i hd
     simp only [Option.some.injEq, Prod.mk.injEq] at e; obtain ⟨rfl, rfl⟩ := e; refine ⟨l, y, hl, hno, ?_⟩
     split
     ·exact absurd rfl (hy _ _)
     exact ⟨hd, hk⟩
    cases e
   cases e
  cases e
 ·rename_i t parts hop
  simp only [pvOp, hop]; split at e
  ·split at e
   ·rename_i cs0 cs h1 h2
    split at e
    ·rename_i hp
     simp only [Option.some.injEq, Prod.mk.injEq] at e; obtain ⟨rfl, rfl⟩ := e; exact .inr (.inl ⟨cs0, cs, Array.eq_empty_of_size_eq_zero hp, h1, h2, hk⟩)
    cases e
   cases e
  split at e
  ·rename_i x obs' hx
   simp only [Option.some.injEq, Prod.mk.injEq] at e; obtain ⟨rfl, rfl⟩ := e; exact .inl (gen hx ho hk)
  split at e
  ·rename_i x hp
   split at e
   ·rename_i cs r hm
    split at e
    ·rename_i h1
     simp only [Option.some.injEq, Prod.mk.injEq] at e; obtain ⟨rfl, rfl⟩ := e; exact .inr (.inr ⟨x, cs, r, hp, h1, hm, hk⟩)
    cases e
   cases e
  cases e
 ·rename_i t x lo hi c hop
  simp only [pvOp, hop]; split at e
  ·rename_i y obs' hx
   simp only [Option.some.injEq, Prod.mk.injEq] at e; obtain ⟨rfl, rfl⟩ := e; exact .inl (gen hx ho hk)
  split at e
  ·rename_i y e1 sz r hE hX
   split at e
   ·rename_i e' rows k n hσ hy
    split at e
    ·rename_i he
     subst he; simp only [Option.some.injEq, Prod.mk.injEq] at e; obtain ⟨rfl, rfl⟩ := e; obtain ⟨h1, h2, _⟩ := ho; obtain ⟨m, rfl⟩ := Int.eq_ofNat_of_zero_le h1; exact .inr ⟨_, sz, r, rows, y, k, m, rfl, rfl, rfl, hE, hX, hσ, hy, by omega, hk⟩
    cases e
   cases e
  cases e
 ·rename_i t n parts hop
  simp only [pvOp, hop]; split at e
  ·rename_i x obs' hx
   simp only [Option.some.injEq, Prod.mk.injEq] at e; obtain ⟨rfl, rfl⟩ := e; exact .inl (gen hx ho hk)
  split at e
  ·rename_i e' sz x hE hp
   split at e
   ·rename_i cs r hm
    split at e
    ·rename_i hc
     simp only [Option.some.injEq, Prod.mk.injEq] at e; obtain ⟨rfl, rfl⟩ := e; exact .inr ⟨e', sz, x, cs, r, hE, hc.1, hp, hc.2.1, hm, hc.2.2.1, hc.2.2.2.1, hc.2.2.2.2, hk⟩
    cases e
   cases e
  cases e
 rename_i h1 h2 h3 h4 h5 h6 h7 h8 h9 h10
 split at e
 ·rename_i x obs' hx
  simp only [Option.some.injEq, Prod.mk.injEq] at e; obtain ⟨rfl, rfl⟩ := e; have := gen hx ho hk
  unfold pvOp; split
  ·exact absurd (by assumption) (h1 _)
  ·exact absurd (by assumption) (h2 _ _ _)
  ·exact absurd (by assumption) (h3 _ _)
  ·exact absurd (by assumption) (h4 _ _)
  ·exact absurd (by assumption) (h5 _ _ _)
  ·exact absurd (by assumption) (h6 _)
  ·exact absurd (by assumption) (h7 _ _)
  ·exact absurd (by assumption) (h8 _ _)
  ·exact absurd (by assumption) (h9 _ _ _ _ _)
  ·exact absurd (by assumption) (h10 _ _ _)
  exact this
 cases e
def xFix (σ : St) (h : HH) : St × List Prop := match h.fix with
 | some (k, x) => (fun s => if s = k then x else σ s, [σ k = x])
 | none => (σ, [])
theorem yjk1 {σ : St} {h : HH} (ho : allP (xFix σ h).2) : (xFix σ h).1 = σ := by
 unfold xFix at ho ⊢
 split
 ·rename_i k x hk
  simp only [hk] at ho; funext s
  show (if s = k then x else σ s) = σ s
  split
  ·rename_i hs; rw [hs]; exact ho.1.symm
  rfl
 rfl
def hintAt (hs : List (Nat × HH)) (k : Nat) : HH := match hs.lookup k with
 | some h => h
 | none => {}
def xOpF (P : Program) (o : Oper) (σ : St) (h : HH) : Option (St × List Prop) := match h.pre, h.take with
 | none, none => xOp0 P o σ h
 | none, some (t, c :: cs) => (match σ t with
  | .ref r q none => if tkOk σ t r q = true then (match xOp0 P o (tkSt σ t r q c) h with
   | some (σ', obs) => some (σ', (getRow (rows1 (σ r)) q = some (c :: cs)) :: obs)
   | none => none) else none
  | _ => none)
 | none, some (_, []) => none
 | some (r, x), _ => (match xOp0 P o (fun s => if s = r then x else frz r σ s) h with
  | some (σ', obs) => some (σ', (frz r σ r = x) :: obs)
  | none => none)
theorem yyo1 {σ σ' : St} {o : Oper} {h : HH} {obs : List Prop} {K : St → Prop} (e : xOpF P o σ h = some (σ', obs)) (ho : allP obs) (hk : K σ') : pvOpF P o σ K := by
 unfold xOpF at e
 split at e
 ·exact .inl (ywf1 e ho hk)
 ·rename_i t c cs _ _
  split at e
  ·rename_i r q ht
   split at e
   ·rename_i hok
    split at e
    ·rename_i σ2 obs2 h2
     simp only [Option.some.injEq, Prod.mk.injEq] at e; obtain ⟨rfl, rfl⟩ := e; exact .inr (.inr ⟨t, r, q, c, cs, ht, hok, ho.1, ywf1 h2 ho.2 hk⟩)
    cases e
   cases e
  cases e
 ·cases e
 rename_i _ r x _
 split at e
 ·rename_i σ2 obs2 h2
  simp only [Option.some.injEq, Prod.mk.injEq] at e; obtain ⟨rfl, rfl⟩ := e; obtain ⟨h3, h4⟩ := ho; have e2 : (fun s => if s = r then x else frz r σ s) = frz r σ := by
   funext s
   by_cases hs : s = r
   ·subst hs; rw [if_pos rfl]; exact h3.symm
   rw [if_neg hs]
  rw [e2] at h2; exact .inr (.inl ⟨r, ywf1 h2 h4 hk⟩)
 cases e
def xGuard (ops : Array Oper) (o : Oper) (σ : St) (h : HH) : Option (Bool × List Prop) := match o.guard with
 | none => some (true, [])
 | some (j, want) => match (ops[j]?).bind (·.dst) with
  | some d => (match σ d, h.g with
   | .p (.bool b), some t => some (t == want, [b = t])
   | .p (.tuple vs), _ => if vs.size = 0 then some (false, []) else none
   | _, _ => none)
  | none => none
theorem yyu {ops : Array Oper} {o : Oper} {σ : St} {h : HH} {t : Bool} {obs : List Prop} {run skip : Prop} (e : xGuard ops o σ h = some (t, obs)) (ho : allP obs) (hk : if t then run else skip) : gOp ops o σ run skip := by
 unfold xGuard at e
 unfold gOp
 split at e
 ·rename_i hg
  simp only [Option.some.injEq, Prod.mk.injEq] at e; obtain ⟨rfl, rfl⟩ := e; simp only [hg]; exact hk
 rename_i j want hg
 simp only [hg]
 split at e
 ·rename_i d hd
  refine ⟨d, hd, ?_⟩
  split at e
  ·rename_i b t' h1 h2
   simp only [Option.some.injEq, Prod.mk.injEq] at e; obtain ⟨rfl, rfl⟩ := e; simp only [h1]; rw [ho.1]; by_cases hw : t' = want
   ·subst hw; simpa using hk
   rw [if_neg hw]; have : (t' == want) = false := by simpa using hw
   simpa [this] using hk
  ·rename_i vs h1
   split at e
   ·rename_i hv
    simp only [Option.some.injEq, Prod.mk.injEq] at e; obtain ⟨rfl, rfl⟩ := e; simp only [h1]; exact ⟨hv, hk⟩
   cases e
  cases e
 cases e
def xL (P : Program) (ops : Array Oper) (hs : List (Nat × HH)) : Nat → List Oper → St → Option (St × List Prop)
 | _, [], σ => some (σ, [])
 | k, o :: l, σ => match xGuard ops o σ (hintAt hs k) with
  | some (true, o1) => (match xOpF P o σ (hintAt hs k) with
   | some (σ1, o2) => (match xL P ops hs (k + 1) l (xFix σ1 (hintAt hs k)).1 with
    | some (σ2, o3) => some (σ2, o1 ++ (o2 ++ ((xFix σ1 (hintAt hs k)).2 ++ o3)))
    | none => none)
   | none => none)
  | some (false, o1) => (match xL P ops hs (k + 1) l (putO o.dst (.p (.tuple #[])) σ) with
   | some (σ2, o3) => some (σ2, o1 ++ o3)
   | none => none)
  | none => none
theorem yln1 {ops : Array Oper} {hs : List (Nat × HH)} {K : St → Prop} : ∀ (l : List Oper) (k : Nat) (σ σ' : St) (obs : List Prop), xL P ops hs k l σ = some (σ', obs) → allP obs → K σ' → pvL P ops l σ K
 | [], k, σ, σ', obs, e, ho, hk => by
  simp only [xL, Option.some.injEq, Prod.mk.injEq] at e; obtain ⟨rfl, rfl⟩ := e; exact hk
 | o :: l, k, σ, σ', obs, e, ho, hk => by
  simp only [xL] at e; split at e
  ·rename_i o1 hg
   split at e
   ·rename_i σ1 o2 h1
    split at e
    ·rename_i σ2 o3 h2
     simp only [Option.some.injEq, Prod.mk.injEq] at e; obtain ⟨rfl, rfl⟩ := e; rw [allP_append, allP_append, allP_append] at ho; refine yyu hg ho.1 ?_
     rw [if_pos rfl]; refine yyo1 h1 ho.2.1 ?_
     rw [yjk1 ho.2.2.1] at h2; exact yln1 l (k + 1) _ _ _ h2 ho.2.2.2 hk
    cases e
   cases e
  ·rename_i o1 hg
   split at e
   ·rename_i σ2 o3 h2
    simp only [Option.some.injEq, Prod.mk.injEq] at e; obtain ⟨rfl, rfl⟩ := e; rw [allP_append] at ho; refine yyu hg ho.1 ?_
    simp only [Bool.false_eq_true, if_false]; exact yln1 l (k + 1) _ _ _ h2 ho.2 hk
   cases e
  cases e
def xDSt (P : Program) (rt : Nat → SV) (o : Oper) (σ : St) (r : Nat) : Option (St × List Prop) :=
 match o.op with
 | .store t (.tmp d) x => (match o.guard, o.dst, rt r, tyC P t, σ r, evS σ x with
  | none, none, .tup [], some (_, n), .box old, .p v =>
   if (d == r && decide (0 < n) && old.length == n && (raws old).isSome && v.cells.toList.all scal && v.cells.size == n) = true then some (upd σ r (.box (cellsV v)), []) else none
  | _, _, _, _, _, _ => none)
 | _ => none
theorem yzo1 {rt : Nat → SV} {o : Oper} {σ σ' : St} {r : Nat} {obs : List Prop} {K : St → Prop} (e : xDSt P rt o σ r = some (σ', obs)) (hk : K σ') : ∃ y, dStore P rt o σ r y ∧ K (upd σ r y) := by
 unfold xDSt at e
 split at e
 ·rename_i t d x hop
  split at e
  ·rename_i _ g n old v h1 h2 h3 h4 h5 h6
   split at e
   ·rename_i hc
    simp only [Bool.and_eq_true, decide_eq_true_eq, beq_iff_eq] at hc; obtain ⟨⟨⟨⟨⟨rfl, c1⟩, c2⟩, c3⟩, c4⟩, c5⟩ := hc; simp only [Option.some.injEq, Prod.mk.injEq] at e; obtain ⟨rfl, rfl⟩ := e; exact ⟨_, ⟨h1, h2, h3, t, x, _, n, old, v, hop, h4, c1, h5, c2, c3, h6, c4, c5, rfl⟩, hk⟩
   cases e
  cases e
 cases e
def xDLend (P : Program) (rt : Nat → SV) (o : Oper) (σ : St) (r : Nat) (h : HH) : Option (St × List Prop) :=
 match o.op with
 | .call { callee := .value fn, args := args, argTypes := _ } => (match args.toList with
  | x0 :: rest => (match sOp.fnOf (evS σ fn), evS σ x0, σ r, rt r, toArgs (rtL rt o σ) (rest.map (evS σ)), h.lend with
   | some (f, []), .addr r' [(0, 0)], .box cs, .tup [], some as0, some (axs, vals, .box cs', _) =>
    if (r' == r && sOp.noPtr as0 && (wnR cs' || ((rest.map (evS σ)).flatMap rootOf).isEmpty)) = true then (match o.dst with
     | some d => if (!isRoot (σ d) && d != r && okW rt d (resSV vals)) = true then some (upd (upd σ d (resSV vals)) r (.box cs'), asP as0 axs ++ (MeetsB P f (.box cs) (asO as0 axs) vals (.box cs') :: smP true vals)) else none
     | none => some (upd σ r (.box cs'), asP as0 axs ++ (MeetsB P f (.box cs) (asO as0 axs) vals (.box cs') :: smP true vals))) else none
   | _, _, _, _, _, _ => none)
  | [] => none)
 | _ => none
theorem ywi1 {rt : Nat → SV} {o : Oper} {σ σ' : St} {r : Nat} {h : HH} {obs : List Prop} {K : St → Prop} (e : xDLend P rt o σ r h = some (σ', obs)) (ho : allP obs) (hk : K σ') : ∃ d y, dLend P rt o σ r d y ∧ K (upd (putW σ d) r y) := by
 unfold xDLend at e
 split at e
 ·rename_i fn args ts hop
  split at e
  ·rename_i x0 rest hargs
   split at e
   ·rename_i f r' cs as0 axs vals cs' b h1 h2 h3 h4 h5 h6
    split at e
    ·rename_i hc
     simp only [Bool.and_eq_true, beq_iff_eq, Bool.or_eq_true, List.isEmpty_iff] at hc; obtain ⟨⟨rfl, hp⟩, hw⟩ := hc; split at e
     ·rename_i d hd
      split at e
      ·rename_i hc
       simp only [Bool.and_eq_true, Bool.not_eq_true', bne_iff_ne, ne_eq] at hc; simp only [Option.some.injEq, Prod.mk.injEq] at e; obtain ⟨rfl, rfl⟩ := e; obtain ⟨ho1, ho2, ho3⟩ := allP_append.1 ho; rw [ykn1 ho1] at ho2
       replace ho3 : vals.all simpleR = true := by simpa using ymo1 ho3
       exact ⟨some (d, resSV vals), _, ⟨h4, fn, args, ts, f, x0, rest, as0, vals, cs, cs', hop, hargs, h1, h2, h3, h5, hp, hw, ho2, ho3, rfl, by rw [hd]; exact ⟨hc.1.1, hc.1.2, hc.2, rfl⟩⟩, hk⟩
      cases e
     rename_i hd; simp only [Option.some.injEq, Prod.mk.injEq] at e; obtain ⟨rfl, rfl⟩ := e; obtain ⟨ho1, ho2, ho3⟩ := allP_append.1 ho; rw [ykn1 ho1] at ho2; replace ho3 : vals.all simpleR = true := by simpa using ymo1 ho3
     exact ⟨none, _, ⟨h4, fn, args, ts, f, x0, rest, as0, vals, cs, cs', hop, hargs, h1, h2, h3, h5, hp, hw, ho2, ho3, rfl, by rw [hd]⟩, hk⟩
    cases e
   cases e
  cases e
 cases e
def xDEat (P : Program) (rt : Nat → SV) (o : Oper) (σ : St) (r : Nat) (h : HH) : Option (St × List Prop) :=
 match o.dst, o.guard, rt r with
 | some d, none, .tup [.u] => if (d == r || isRoot (σ d)) = true then none else (match o.op with
  | .move (.tmp t) => if t = r then (match σ r with
   | .ov g cs => if okW rt d (.ov g cs) = true then some (upd (upd σ r .u) d (.ov g cs), []) else none
   | _ => none) else none
  | .call { callee := .builtin .append, args := args, argTypes := ts } => (match args.toList, ts.toList with
   | [.tmp z, y], [t, t'] => if z = r ∧ t = t' then (match slE P t, σ r, xSl (rtL rt o σ) (evS σ y) h with
    | some (e, sz), .ov false [.sl (some e') rows], some (none, rows2, obs) => if e' = e ∧ apE P e = true ∧ okW rt d (.ov false [.sl (some e) (rows ++ rows2)]) = true then some (upd (upd σ r .u) d (.ov false [.sl (some e) (rows ++ rows2)]), (rows.length + rows2.length ≤ 1099511627776) :: (∀ row ∈ rows2, row.length = sz) :: obs) else none
    | _, _, _ => none) else none
   | _, _ => none)
  | _ => none)
 | _, _, _ => none
theorem yzl1 {rt : Nat → SV} {o : Oper} {σ σ' : St} {r : Nat} {h : HH} {obs : List Prop} {K : St → Prop} (e : xDEat P rt o σ r h = some (σ', obs)) (ho : allP obs) (hk : K σ') : ∃ d x, dEat P rt o σ r d x ∧ K (upd (upd σ r .u) d x) := by
 unfold xDEat at e
 split at e
 ·rename_i d h1 h2 h3
  split at e
  ·cases e
  rename_i hc; have hne : d ≠ r := by rintro rfl; simp at hc
  have hnr : isRoot (σ d) = false := by cases h9 : isRoot (σ d) <;> simp_all
  split at e
  ·rename_i t hop
   split at e
   ·rename_i htr
    subst htr; split at e
    ·rename_i g cs hs
     split at e
     ·rename_i hw
      simp only [Option.some.injEq, Prod.mk.injEq] at e; obtain ⟨rfl, rfl⟩ := e; exact ⟨d, _, ⟨h3, h2, h1, hne, hnr, hw, .inl ⟨hop, ⟨g, cs, hs⟩, hs.symm⟩⟩, hk⟩
     cases e
    cases e
   cases e
  ·rename_i args ts hop
   split at e
   ·rename_i z y t t' ha hts
    split at e
    ·rename_i hc2
     obtain ⟨rfl, rfl⟩ := hc2; split at e
     ·rename_i e1 sz e2 rows rows2 obs' h4 h5 h6
      split at e
      ·rename_i hc3
       obtain ⟨rfl, h7, h8⟩ := hc3; simp only [Option.some.injEq, Prod.mk.injEq] at e; obtain ⟨rfl, rfl⟩ := e; obtain ⟨ho1, ho2, ho3⟩ := ho; exact ⟨d, _, ⟨h3, h2, h1, hne, hnr, h8, .inr ⟨args, ts, y, t, e2, sz, rows, rows2, hop, ha, hts, h4, h7, h5, yqz h6 ho3, ho2, ho1, rfl⟩⟩, hk⟩
      cases e
     cases e
    cases e
   cases e
  cases e
 cases e
def bth (h : HH) (x : SV) : SV := match h.pre with
 | some _ => frzAt x
 | none => x
theorem ypr1 (h : HH) (x : SV) : bth h x = x ∨ bth h x = frzAt x := by unfold bth; split <;> simp
def xDOp (P : Program) (rt : Nat → SV) (e : Option Nat) (o : Oper) (σ : St) (h : HH) : Option (St × List Prop) :=
 match e with
 | some r => (match h.lend with
  | none => (match rt r with
   | .tup [.u] => xDEat P rt o σ r h
   | _ => xDSt P rt o σ r)
  | some _ => xDLend P rt o σ r h)
 | none => (match o.dst with
  | some d => if (isRoot (σ d) || (stOf o).isSome) = true then none else (match o.op with
   | .assign x => if (isDR (evS σ x) && okW rt d (evS σ x)) = true then some (upd σ d (evS σ x), []) else none
   | _ => (match xS P (evS σ) (rtL rt o σ) o h with
    | some (x, obs) => if okW rt d (bth h x) = true then some (upd σ d (bth h x), obs) else none
    | none => none))
  | none => none)
theorem yap1 {rt : Nat → SV} {en : Option Nat} {o : Oper} {σ σ' : St} {h : HH} {obs : List Prop} {K : St → Prop} (e : xDOp P rt en o σ h = some (σ', obs)) (ho : allP obs) (hk : K σ') : dOp P rt en o σ K := by
 unfold xDOp at e
 split at e
 ·rename_i r
  split at e
  ·split at e
   ·exact .inr (.inr (yzl1 e ho hk))
   exact .inl (yzo1 e hk)
  exact .inr (.inl (ywi1 e ho hk))
 split at e
 ·rename_i d hd
  split at e
  ·cases e
  rename_i hr; have hr' : isRoot (σ d) = false ∧ stOf o = none := by
   cases h5 : isRoot (σ d) <;> cases h6 : stOf o <;> simp_all
  refine ⟨d, hd, hr'.2, hr'.1, ?_⟩
  split at e
  ·rename_i x hop
   split at e
   ·rename_i hw
    simp only [Option.some.injEq, Prod.mk.injEq] at e; obtain ⟨rfl, rfl⟩ := e; have hw2 := Bool.and_eq_true_iff.1 hw; simp only [hop]; exact ⟨hw2.1, hw2.2, hk⟩
   cases e
  rename_i hno; split at e
  ·rename_i x obs' hx
   split at e
   ·rename_i hw
    simp only [Option.some.injEq, Prod.mk.injEq] at e; obtain ⟨rfl, rfl⟩ := e; have := yqs1 (K := fun x => ∃ y, (y = x ∨ y = frzAt x) ∧ okW rt d y = true ∧ K (upd σ d y)) hx ho ⟨_, ypr1 h x, hw, hk⟩
    split
    ·exact absurd (by assumption) (hno _)
    exact this
   cases e
  cases e
 cases e
def xD (P : Program) (ops : Array Oper) (rt : Nat → SV) (T : List (Nat × Nat)) (hs : List (Nat × HH)) : Nat → List Oper → St → Option (St × List Prop)
 | _, [], σ => some (σ, [])
 | k, o :: l, σ => match xGuard ops o σ (hintAt hs k) with
  | some (true, o1) => (match xDOp P rt (T.lookup k) o σ (hintAt hs k) with
   | some (σ1, o2) => (match xD P ops rt T hs (k + 1) l (xFix σ1 (hintAt hs k)).1 with
    | some (σ2, o3) => some (σ2, o1 ++ (o2 ++ ((xFix σ1 (hintAt hs k)).2 ++ o3)))
    | none => none)
   | none => none)
  | some (false, o1) => (match o.dst with
   | some d => if (isRoot (σ d) || (stOf o).isSome || !okW rt d (.p (.tuple #[]))) = true then none else (match xD P ops rt T hs (k + 1) l (upd σ d (.p (.tuple #[]))) with
    | some (σ2, o3) => some (σ2, o1 ++ o3)
    | none => none)
   | none => none)
  | none => none
theorem ytq1 {ops : Array Oper} {rt : Nat → SV} {T : List (Nat × Nat)} {hs : List (Nat × HH)} {K : St → Prop} : ∀ (l : List Oper) (k : Nat) (σ σ' : St) (obs : List Prop), xD P ops rt T hs k l σ = some (σ', obs) → allP obs → K σ' → pvD P ops rt T k l σ K
 | [], k, σ, σ', obs, e, ho, hk => by
  simp only [xD, Option.some.injEq, Prod.mk.injEq] at e; obtain ⟨rfl, rfl⟩ := e; exact hk
 | o :: l, k, σ, σ', obs, e, ho, hk => by
  simp only [xD] at e; split at e
  ·rename_i o1 hg
   split at e
   ·rename_i σ1 o2 h1
    split at e
    ·rename_i σ2 o3 h2
     simp only [Option.some.injEq, Prod.mk.injEq] at e; obtain ⟨rfl, rfl⟩ := e; rw [allP_append, allP_append, allP_append] at ho; refine yyu hg ho.1 ?_
     rw [if_pos rfl]; refine yap1 h1 ho.2.1 ?_
     rw [yjk1 ho.2.2.1] at h2; exact ytq1 l (k + 1) _ _ _ h2 ho.2.2.2 hk
    cases e
   cases e
  ·rename_i o1 hg
   split at e
   ·rename_i d hd
    split at e
    ·cases e
    rename_i hr; split at e
    ·rename_i σ2 o3 h2
     simp only [Option.some.injEq, Prod.mk.injEq] at e; obtain ⟨rfl, rfl⟩ := e; rw [allP_append] at ho; refine yyu hg ho.1 ?_
     simp only [Bool.false_eq_true, if_false]; have hr' : isRoot (σ d) = false ∧ stOf o = none ∧ okW rt d (.p (.tuple #[])) = true := by
      cases h5 : isRoot (σ d) <;> cases h6 : stOf o <;> cases h7 : okW rt d (.p (.tuple #[])) <;> simp_all
     exact ⟨d, hd, hr'.2.1, hr'.1, hr'.2.2, ytq1 l (k + 1) _ _ _ h2 ho.2 hk⟩
    cases e
   cases e
  cases e
end Go.PV

/-
 A walk over pure values: code by rules over lists of slots; loops that are reckoned.
 Conditions: none.
-/
namespace Go.PV
variable {P : Program} {N : Nat}
abbrev LS := List (Nat × SV)
def refsOk (l : LS) : Bool := l.all fun x => refOk (l.map (·.1)) x.2
def readL (σ : St) (l : LS) : LS := l.map fun x => (x.1, σ x.1)
theorem yym {σ : St} {l : LS} (h1 : refsOk l = true) (h2 : readL σ l = l) : agree l σ := by
 refine ⟨h1, ?_⟩
 clear h1
 have : ∀ (l' : LS), (∀ x ∈ readL σ l', x ∈ l' ) → True := fun _ _ => trivial
 unfold readL at h2
 intro x hx
 have key : ∀ (l : LS), l.map (fun x => (x.1, σ x.1)) = l → ∀ x ∈ l, σ x.1 = x.2 := by
  intro l; induction l with
  | nil => simp
  | cons y l ih =>
   intro h x hx; simp only [List.map_cons, List.cons.injEq] at h; rcases List.mem_cons.1 hx with rfl | hx
   ·exact congrArg Prod.snd h.1
   exact ih h.2 x hx
 exact key l h2 x hx
def wk (l l' : LS) : Prop := agree l' (ofL l)
theorem ybp1 {l l' : LS} (h1 : refsOk l' = true) (h2 : readL (ofL l) l' = l') : wk l l' := yym h1 h2
def OkL (P : Program) (N : Nat) (c : Code) (l : LS) (Q : Ex → LS → Prop) : Prop :=
 Ok P N c (ofL l) fun e σ => ∃ l', (σ = ofL l' ∨ agree l' σ) ∧ Q e l'
theorem OkL.mono {c : Code} {l : LS} {Q Q' : Ex → LS → Prop} (h : OkL P N c l Q) (hq : ∀ e l, Q e l → Q' e l) : OkL P N c l Q' := fun k hB w0 A I a w L hI hR =>
 wp_mono (h k hB w0 A I a w L hI hR) fun e a w h => by
  cases e <;> first | exact h.elim | (obtain ⟨σ, L, h1, l', h2, h3⟩ := h; exact ⟨σ, L, h1, l', h2, hq _ _ h3⟩)
theorem OkL.weak {c : Code} {l l' : LS} {Q : Ex → LS → Prop} (h : OkL P N c l' Q) (hw : wk l l') : OkL P N c l Q := fun k hB w0 A I a w L hI hR =>
 h k hB w0 A I a w L hI (yfg hR hw)
def seqL (K : LS → Prop) (Q : Ex → LS → Prop) : Ex → LS → Prop := fun e l => match e with
 | .normal => K l
 | e => Q e l
def blockL (id : Nat) (Q : Ex → LS → Prop) : Ex → LS → Prop := fun e l => match e with
 | .exit i => if i = id then Q .normal l else Q (.exit i) l
 | e => Q e l
theorem yqb {a b : Code} {l : LS} {Q : Ex → LS → Prop} (h : OkL P N a l (seqL (fun l' => OkL P N b l' Q) Q)) : OkL P N (.seq a b) l Q := fun k hB w0 A I x w L hI hR => by
 simp only [codeB, Bool.and_eq_true] at hB
 refine wp_seq (wp_mono (h k hB.1 w0 A I x w L hI hR) fun e x w h => ?_)
 cases e with
 | normal =>
  obtain ⟨σ, L, h1, l', h2, h3⟩ := h; refine h3 k hB.2 w0 A I x w L hI ?_
  rcases h2 with rfl | h2
  ·exact h1
  exact yfg h1 h2
 | exit id => exact h
 | ret => exact h
 | _ => exact h.elim
theorem yja {l : LS} {Q : Ex → LS → Prop} (h : Q .normal l) : OkL P N .skip l Q := fun _ _ w0 A I a w L hI hR => wp_skip ⟨_, L, hR, l, .inl rfl, h⟩
theorem ykg {id : Nat} {l : LS} {Q : Ex → LS → Prop} (h : Q (.exit id) l) : OkL P N (.exit id) l Q := fun _ _ w0 A I a w L hI hR => wp_exit ⟨_, L, hR, l, .inl rfl, h⟩
theorem yva {l : LS} {Q : Ex → LS → Prop} (h : Q .ret l) : OkL P N .ret l Q := fun _ _ w0 A I a w L hI hR => wp_ret ⟨_, L, hR, l, .inl rfl, h⟩
theorem yqr1 {c : Operand} {b : Bool} {x y : Code} {l : LS} {Q : Ex → LS → Prop} (hc : evS (ofL l) c = .p (.bool b)) (h1 : b = true → OkL P N x l Q) (h2 : b = false → OkL P N y l Q) : OkL P N (.cond c x y) l Q := fun k hB w0 A I a w L hI hR => by
 simp only [codeB, Bool.and_eq_true] at hB
 refine wp_cond (yph1 hR hc) ?_
 cases b
 ·exact h2 rfl k hB.2 w0 A I a w L hI hR
 exact h1 rfl k hB.1 w0 A I a w L hI hR
theorem ywa {id : Nat} {c : Code} {l : LS} {Q : Ex → LS → Prop} (h : OkL P N c l (blockL id Q)) : OkL P N (.block id c) l Q := fun k hB w0 A I a w L hI hR => by
 refine wp_block (wp_mono (h k hB w0 A I a w L hI hR) fun e a w h => ?_)
 cases e with
 | normal => exact h
 | exit i =>
  obtain ⟨σ', L', h1, l', h2, h3⟩ := h; simp only [Exit.inBlock]; unfold blockL at h3; split
  ·rename_i hi
   simp only [hi, if_true] at h3; exact ⟨σ', L', h1, l', h2, h3⟩
  rename_i hi; simp only [hi, if_false] at h3; exact ⟨σ', L', h1, l', h2, h3⟩
 | ret => exact h
 | _ => exact h.elim
theorem yhd {X : Type} {a b : Code} {l : LS} {Q : Ex → LS → Prop} (J : X → LS) (K : X → Prop) (hb : ∀ x, K x → OkL P N b (J x) Q) (ha : OkL P N a l (seqL (fun l' => ∃ x, K x ∧ wk l' (J x)) Q)) : OkL P N (.seq a b) l Q :=
 yqb (ha.mono fun e l' h => by
  cases e with
  | normal => obtain ⟨x, h1, h2⟩ := h; exact (hb x h1).weak h2
  | _ => exact h)
def ptBox : SV → SV
 | .box cs => .d false [.pt (eraR cs)]
 | x => x
theorem Rel.learn {M : Nat} {w0 : World} {A : Nat → Prop} {I : Bor} {σ : St} {a : Act} {w : World} {L : Lab} {r : Nat} {sv : SV} (hR : Rel P N M w0 A I σ a w L) (hr : r < N) (hu : σ r = .u) (hn : refOf sv = none) (hl : isLab sv = false)
  (hs : ∀ (tm : Nat → Value) (σ : St) (s : Nat), RelS P (Zof w0 A L w) L w tm σ s (a.tmps.getD r undef) sv) : Rel P N M w0 A I (fun s => if s = r then sv else σ s) a w L := by
 refine ⟨hR.dfr, hR.siz, hR.ev, hR.inj, hR.lab, fun s h => ?_, hR.hA, hR.pin, fun s => ?_⟩
 ·have : s ≠ r := by omega
  simp only [if_neg this]; exact hR.out s h
 by_cases h : s = r
 ·subst h; simp only [if_true]; exact hs _ _ _
 simp only [if_neg h]
 refine (hR.slot s).keep (fun b h => ⟨h, rfl⟩) (fun b q _ h => ⟨h, rfl⟩) fun x hx hrt => ?_
 have hxr : x ≠ r := by rintro rfl; rw [hu] at hrt; cases hrt
 exact ⟨fun _ _ h => ⟨h, rfl⟩, rfl, by simp only [if_neg hxr]; exact hrt, by simp only [if_neg hxr]⟩
theorem Rel.frzBox {w0 : World} {A : Nat → Prop} {I : Bor} {σ : St} {a : Act} {w : World} {L : Lab} {r : Nat} {cs : List C} (hR : Rel P N N w0 A I σ a w L) (hr : σ r = .box cs) :
  ∃ L', Rel P N N w0 A I (fun s => if s = r then .d false [.pt (eraR cs)] else killSV r (σ s)) a w L' := by
 have hrN : r < N := by
  rcases Nat.lt_or_ge r N with h | h
  ·exact h
  have := hR.out r h; rw [hr] at this; cases this
 have h1 := hR.take (r := r) (f := fun _ => none) (Nat.le_refl N) rfl fun q l h => by cases h
 refine ⟨mapL L r (fun _ => none), ?_⟩
 have h2 := h1.learn (r := r) (sv := .d false [.pt (eraR cs)]) hrN (by simp [gone]) rfl rfl (fun tm σ' s => by
  have hs := hR.slot r; rw [hr] at hs; obtain ⟨b, e1, e2, arr, e, e3, e4, e5⟩ := hs; show FrzV _ _ false (a.tmps.getD r undef) [.pt (eraR cs)]
  have hz : ∀ b', Zof w0 A L w b' → Zof w0 A (mapL L r fun _ => none) w b' ∧ w.heap[b']? = w.heap[b']? := fun b' h => ⟨⟨by simp [mapL, h.1], h.2⟩, rfl⟩
  have hnew : ∀ b' q, L b' = some (r, q) → Zof w0 A (mapL L r fun _ => none) w b' ∧ w.heap[b']? = w.heap[b']? := fun b' q h => by
   have := hR.lab b' _ h
   refine ⟨⟨by simp [mapL, h], this.1, ?_⟩, rfl⟩
   rcases this.2.1 with h | h
   ·exact .inr h
   exact .inl (hR.hA.2 b' h)
  rw [show a.tmps.getD r undef = .pointer (some ⟨b, 0, none⟩) from e1]; refine ⟨⟨rfl, rfl⟩, fun j c hj => ?_⟩
  cases j with
  | succ j => simp at hj
  | zero =>
   simp at hj
   subst hj; refine .pt (fun j => arr.getD j undef) (hnew b _ e2).1 (fun j c hj => ?_) fun j c hj => ?_
   ·obtain ⟨c0, h3, rfl⟩ := yxq hj
    have hlt : j < arr.size := by rw [e4]; exact (List.getElem?_eq_some_iff.1 h3).1
    simp [World.cell?, e3, hlt]
   obtain ⟨c0, h3, rfl⟩ := yxq hj; exact (e5 j c0 h3).1.freeze hz fun b' q hb => hnew b' _ hb)
 have e : (fun s => if s = r then SV.d false [.pt (eraR cs)] else gone σ r s) = fun s => if s = r then .d false [.pt (eraR cs)] else killSV r (σ s) := by
  funext s
  unfold gone; split <;> rfl
 rw [e] at h2
 exact h2
theorem yrr1 {c : Code} {l : LS} {Q : Ex → LS → Prop} (r : Nat) (cs cs' : List C) (l' : LS) (hr : ofL l r = .box cs) (he : eraR cs = cs') (h1 : refsOk l' = true) (h2 : readL (fun s => if s = r then .d false [.pt cs'] else killSV r (ofL l s)) l' = l') (h : OkL P N c l' Q) : OkL P N c l Q := fun k hB w0 A I a w L hI hR => by
 obtain ⟨L', h3⟩ := hR.frzBox hr
 rw [he] at h3
 exact h k hB w0 A I a w L' hI (yfg h3 (yym h1 h2))
theorem q_n {K : LS → Prop} {Q : Ex → LS → Prop} {l : LS} (h : K l) : seqL K Q .normal l := h
theorem q_x {K : LS → Prop} {Q : Ex → LS → Prop} {i : Nat} {l : LS} (h : Q (.exit i) l) : seqL K Q (.exit i) l := h
theorem q_r {K : LS → Prop} {Q : Ex → LS → Prop} {l : LS} (h : Q .ret l) : seqL K Q .ret l := h
theorem b_n {Q : Ex → LS → Prop} {i : Nat} {l : LS} (h : Q .normal l) : blockL i Q .normal l := h
theorem b_r {Q : Ex → LS → Prop} {i : Nat} {l : LS} (h : Q .ret l) : blockL i Q .ret l := h
theorem b_x {Q : Ex → LS → Prop} {i : Nat} {l : LS} (h : Q .normal l) : blockL i Q (.exit i) l := by simpa [blockL] using h
def RegOk (P : Program) (N : Nat) (c : Code) (l0 l1 : LS) : Prop := ∀ Q : Ex → LS → Prop, Q .normal l1 → OkL P N c l0 Q
def xGo (P : Program) (ops : List Oper) (hs : List (Nat × HH)) (l0 l1 : LS) : Option (LS × List Prop) := match xL P ops.toArray hs 0 ops (ofL l0) with
 | some (σ', obs) => if refsOk l1 = true then some (readL σ' l1, obs) else none
 | none => none
theorem r_go {id : Nat} {ops : List Oper} {l0 : LS} (l1 : LS) (hs : List (Nat × HH)) (obs : List Prop) (e : xGo P ops hs l0 l1 = some (l1, obs)) (ho : allP obs) : RegOk P N (.region id ops.toArray false) l0 l1 := by
 intro Q hq
 refine yvn _ _ _ ?_
 show pvL P ops.toArray ops.toArray.toList (ofL l0) _
 rw [List.toList_toArray]
 unfold xGo at e
 split at e
 ·rename_i σ' obs' h1
  split at e
  ·rename_i hr
   simp only [Option.some.injEq, Prod.mk.injEq] at e; obtain ⟨h2, rfl⟩ := e; exact yln1 _ _ _ _ _ h1 ho ⟨l1, .inr (yym hr h2), hq⟩
  cases e
 cases e
def okLn (r : Nat) : SV → Bool
 | .ref r' _ _ => r' != r
 | .addr r' q => r' != r || (match q with | [(0, _)] => true | _ => false)
 | _ => true
theorem ycp1 {r : Nat} {x : SV} (h : okLn r x = true) : killLn r x = x := by
 cases x with
 | ref r' q n => simp [okLn] at h; simp [killLn, h]
 | addr r' q =>
  by_cases hr : r' = r
  ·subst hr
   rcases q with _ | ⟨⟨i, o⟩, _ | ⟨z, q⟩⟩
   ·simp [okLn] at h
   ·cases i with
    | zero => simp [killLn]
    | succ i => simp [okLn] at h
   cases i <;> simp [okLn] at h
  simp [killLn, hr]
 | _ => rfl
def okSV (r : Nat) : SV → Bool
 | .ref r' _ _ => r' != r
 | .addr r' _ => r' != r
 | _ => true
theorem ydp1 {r : Nat} {x : SV} (h : okSV r x = true) : killSV r x = x := by
 cases x with
 | ref r' q n => simp [okSV] at h; simp [killSV, h]
 | addr r' q => simp [okSV] at h; simp [killSV, h]
 | _ => rfl
def hidB (T : List (Nat × Nat)) (l : LS) : Bool := (T.map (·.2)).all fun r => if eatT T r = true then (!isRoot (ofL l r) || isOvS (ofL l r)) && l.all fun x => okSV r x.2 else (!isRoot (ofL l r) || isBox (ofL l r)) && l.all fun x => okLn r x.2
theorem yxf1 : ∀ (l : LS) (s : Nat), ofL l s = .u ∨ ∃ x ∈ l, ofL l s = x.2
 | [], _ => .inl rfl
 | (k, x) :: l, s => by
  simp only [ofL, upd]; by_cases h : s = k
  ·rw [if_pos h]; exact .inr ⟨(k, x), List.mem_cons_self, rfl⟩
  rw [if_neg h]; rcases yxf1 l s with h1 | ⟨y, h1, h2⟩
  ·exact .inl h1
  exact .inr ⟨y, List.mem_cons_of_mem _ h1, h2⟩
theorem ykk1 {T : List (Nat × Nat)} {l : LS} (h : hidB T l = true) : hid T (ofL l) := by
 intro r hr
 have h0 := List.all_eq_true.1 h r hr
 split
 ·rename_i he
  simp only [he, if_true] at h0; have h1 := Bool.and_eq_true_iff.1 h0; refine ⟨fun hroot => ?_, fun s => ?_⟩
  ·have := h1.1
   rw [hroot] at this; simpa using this
  rcases yxf1 l s with h2 | ⟨x, h2, h3⟩
  ·rw [h2]; rfl
  rw [h3]; exact ydp1 (List.all_eq_true.1 h1.2 x h2)
 rename_i he
 simp only [he, Bool.false_eq_true, if_false] at h0
 have h1 := Bool.and_eq_true_iff.1 h0
 refine ⟨fun hroot => ?_, fun s => ?_⟩
 ·have := h1.1
  rw [hroot] at this; simpa using this
 rcases yxf1 l s with h2 | ⟨x, h2, h3⟩
 ·rw [h2]; rfl
 rw [h3]; exact ycp1 (List.all_eq_true.1 h1.2 x h2)
def xGoD (P : Program) (n : Nat) (T : List (Nat × Nat)) (ops : List Oper) (hs : List (Nat × HH)) (l0 l1 : LS) : Option (LS × List Prop) := if (drawB ops.toArray n T && hidB T l0) = true then (match xD P ops.toArray (rtOf T (ofL l0)) T hs 0 (ops.take n) (ofL l0) with
 | some (σ', o1) => (match xL P ops.toArray hs n (ops.drop n) σ' with
  | some (σ2, o2) => if refsOk l1 = true then some (readL σ2 l1, o1 ++ o2) else none
  | none => none)
 | none => none) else none
theorem ysr1 {id : Nat} {ops : List Oper} {l0 : LS} (hm : P.follows .mixedOrders = true) (n : Nat) (T : List (Nat × Nat)) (l1 : LS) (hs : List (Nat × HH)) (obs : List Prop) (e : xGoD P n T ops hs l0 l1 = some (l1, obs)) (ho : allP obs) : RegOk P N (.region id ops.toArray true) l0 l1 := by
 intro Q hq
 refine yvn _ _ _ ?_
 unfold xGoD at e
 split at e
 ·rename_i hB
  simp only [Bool.and_eq_true] at hB; refine ⟨hm, n, T, hB.1, ykk1 hB.2, ?_⟩
  rw [List.toList_toArray]; split at e
  ·rename_i σ' o1 h1
   split at e
   ·rename_i σ2 o2 h2
    split at e
    ·rename_i hr
     simp only [Option.some.injEq, Prod.mk.injEq] at e; obtain ⟨h3, rfl⟩ := e; rw [allP_append] at ho; exact ytq1 _ _ _ _ _ h1 ho.1 (yln1 _ _ _ _ _ h2 ho.2 ⟨l1, .inr (yym hr h3), hq⟩)
    cases e
   cases e
  cases e
 cases e
theorem yff {c : Code} {l0 l1 : LS} {Q : Ex → LS → Prop} (h : RegOk P N c l0 l1) (hq : Q .normal l1) : OkL P N c l0 Q := h Q hq
theorem yya {c b : Code} {l0 l1 : LS} {Q : Ex → LS → Prop} (h : RegOk P N c l0 l1) (hq : OkL P N b l1 Q) : OkL P N (.seq c b) l0 Q := yqb (h _ hq)
section
variable {X Y : Type}
def iterO (body : X → Option (X ⊕ Y)) : Nat → X → Option Y
 | 0, _ => none
 | n + 1, x => match body x with
  | some (.inl x') => iterO body n x'
  | some (.inr y) => some y
  | none => none
open Classical in
noncomputable def loopO (body : X → Option (X ⊕ Y)) (x : X) : Option Y := if h : ∃ n y, iterO body n x = some y then some (Classical.choose (Classical.choose_spec h)) else none
theorem ysz {body : X → Option (X ⊕ Y)} : ∀ (n m : Nat) (x : X) (y y' : Y), iterO body n x = some y → iterO body m x = some y' → y = y'
 | 0, _, _, _, _, h, _ => by cases h
 | _ + 1, 0, _, _, _, _, h => by cases h
 | n + 1, m + 1, x, y, y', h1, h2 => by
  simp only [iterO] at h1 h2; split at h1
  ·rename_i x' hb
   rw [hb] at h2; exact ysz n m x' y y' h1 h2
  ·rename_i z hb
   rw [hb] at h2; exact Option.some.inj (h1.symm.trans h2)
  cases h1
theorem loopO_some {body : X → Option (X ⊕ Y)} {x : X} {y : Y} : loopO body x = some y ↔ ∃ n, iterO body n x = some y := by
 unfold loopO
 constructor
 ·intro h
  split at h
  ·rename_i hx
   have := Classical.choose_spec (Classical.choose_spec hx)
   simp only [Option.some.injEq] at h; rw [h] at this; exact ⟨_, this⟩
  cases h
 rintro ⟨n, hn⟩
 have hx : ∃ n y, iterO body n x = some y := ⟨n, y, hn⟩
 rw [dif_pos hx]
 exact congrArg some (ysz _ _ _ _ _ (Classical.choose_spec (Classical.choose_spec hx)) hn)
theorem yar (body : X → Option (X ⊕ Y)) (x : X) : loopO body x = match body x with
  | some (.inl x') => loopO body x'
  | some (.inr y) => some y
  | none => none := by
 apply Option.ext
 intro y
 rw [loopO_some]
 constructor
 ·rintro ⟨n, hn⟩
  cases n with
  | zero => cases hn
  | succ n =>
   simp only [iterO] at hn; split at hn
   ·exact loopO_some.2 ⟨n, hn⟩
   ·exact hn
   cases hn
 intro h
 split at h
 ·rename_i x' hb
  obtain ⟨n, hn⟩ := loopO_some.1 h; exact ⟨n + 1, by simp only [iterO, hb]; exact hn⟩
 ·rename_i z hb
  exact ⟨1, by simp only [iterO, hb]; exact h⟩
 cases h
def loopQ (o : X ⊕ Y) (J : X → LS) (Q : Ex → LS → Prop) : Ex → LS → Prop := fun e l' => match e with
 | .normal => ∃ x', o = .inl x' ∧ wk l' (J x')
 | e => Q e l'
theorem yuh {c : Code} {l : LS} {Q : Ex → LS → Prop} {body : X → Option (X ⊕ Y)} {x0 : X} {y : Y} (J : X → LS) (h : loopO body x0 = some y) (h0 : wk l (J x0))
  (hr : ∀ x o, body x = some o → (∀ y', o = .inr y' → y' = y) → OkL P N c (J x) (loopQ o J Q)) : OkL P N (.loop c) l Q := by
 refine OkL.weak ?_ h0
 intro k hB w0 A I a w L hI hR
 obtain ⟨n, hn⟩ := loopO_some.1 h
 refine yri1 (X := X × Nat) (fun z a w => iterO body z.2 z.1 = some y ∧ ∃ L, Rel P N N w0 A I (ofL (J z.1)) a w L) (fun z => z.2) (x0, n) ⟨hn, L, hR⟩ fun z a w ⟨hz, L, hR⟩ => ?_
 obtain ⟨x, m⟩ := z
 cases m with
 | zero => cases hz
 | succ m =>
  simp only [iterO] at hz; have go : ∀ o, body x = some o → (∀ x', o = .inl x' → iterO body m x' = some y) → (∀ y', o = .inr y' → y' = y) → c.wp P (Exit.then (fun a' w' => ∃ z' : X × Nat, (iterO body z'.2 z'.1 = some y ∧ ∃ L, Rel P N N w0 A I (ofL (J z'.1)) a' w' L) ∧ z'.2 < m + 1) (lift P N w0 A I fun e σ => ∃ l', (σ = ofL l' ∨ agree l' σ) ∧ Q e l')) a w := fun o hb h1 h2 => by
   refine wp_mono (hr x o hb h2 k hB w0 A I a w L hI hR) fun e a w h => ?_
   cases e with
   | normal =>
    obtain ⟨σ, L, h3, l', h4, x', h5, h6⟩ := h; refine ⟨(x', m), ⟨h1 x' h5, L, ?_⟩, Nat.lt_succ_self m⟩
    rcases h4 with rfl | h4
    ·exact yfg h3 h6
    exact yfg (yfg h3 h4) h6
   | exit id => exact h
   | ret => exact h
   | _ => exact h.elim
  split at hz
  ·rename_i x' hb
   exact go _ hb (fun x'' h => by cases h; exact hz) (fun y' h => by cases h)
  ·rename_i y' hb
   exact go _ hb (fun x'' h => by cases h) (fun y'' h => by cases h; exact Option.some.inj hz)
  cases hz
end
theorem lq_n {X Y : Type} {o : X ⊕ Y} {J : X → LS} {Q : Ex → LS → Prop} {l : LS} (x' : X) (h1 : o = .inl x') (h2 : wk l (J x')) : loopQ o J Q .normal l := ⟨x', h1, h2⟩
theorem lq_x {X Y : Type} {o : X ⊕ Y} {J : X → LS} {Q : Ex → LS → Prop} {l : LS} {i : Nat} (h : Q (.exit i) l) : loopQ o J Q (.exit i) l := h
theorem lq_r {X Y : Type} {o : X ⊕ Y} {J : X → LS} {Q : Ex → LS → Prop} {l : LS} (h : Q .ret l) : loopQ o J Q .ret l := h
def endL (P : Program) (fn : Func) (args : List Arg) (res : Res) : Ex → LS → Prop
 | .exit _, _ => False
 | _, l => ∃ ls, retVs P (ofL l) fn.results.toList = some ls ∧ ovOk ls = true ∧ ls.map (·.1) = res.vals ∧ outsOf (ofL l) ((List.range args.length).zip args) = some res.outs
end Go.PV

/-
 A walk over pure values: a contract from rules.
 Conditions: none.
-/
namespace Go.PV
variable {P : Program} {N : Nat} {w0 : World} {A : Nat → Prop} {I : Bor}
theorem yxi1 {f : FuncId} {fn : Func} {c : Code} {args : List Arg} {res : Res} (hc : callable P f = true) (hf : P.funcs[f]? = some fn) (hb : fn.body = some c)
  (hN : (decide (args.length ≤ fn.ntmps) && codeB 0 fn.ntmps c && args.all notPtrA) = true) {l0 : LS} (hl0 : (List.range args.length).zip (args.map argSV) = l0) (h : OkL P fn.ntmps c l0 (endL P fn args res)) : Meets P f args res := by
 simp only [Bool.and_eq_true, decide_eq_true_eq] at hN
 refine ⟨hc, fun w A vals h1 h4 => ?_⟩
 refine calls_of_wp hf hb ?_
 have hR := ywc1 (P := P) (N := fn.ntmps) h1 hN.1.1 h4
 refine wp_mono (h 0 hN.1.2 w A nob _ w _ rfl (by subst hl0; exact hR)) fun e a' w' hl => ?_
 cases e with
 | normal =>
  obtain ⟨σ, L, h5, l', h6, h7⟩ := hl; obtain ⟨ls, g1, g2, g3, g4⟩ := h7; exact ysi1 (σ := ofL l') (L := L) (by
   rcases h6 with rfl | h6
   ·exact h5
   exact yfg h5 h6) ⟨ls, g1, g2, g3⟩
 | ret =>
  obtain ⟨σ, L, h5, l', h6, h7⟩ := hl; obtain ⟨ls, g1, g2, g3, g4⟩ := h7; exact ysi1 (σ := ofL l') (L := L) (by
   rcases h6 with rfl | h6
   ·exact h5
   exact yfg h5 h6) ⟨ls, g1, g2, g3⟩
 | exit id =>
  obtain ⟨σ, L, h5, l', h6, h7⟩ := hl; exact h7.elim
 | _ => exact hl.elim
def endLB (P : Program) (fn : Func) (vals : List RV) (x' : SV) : Ex → LS → Prop
 | .exit _, _ => False
 | _, l => ∃ ls, retVs P (ofL l) fn.results.toList = some ls ∧ ovOk ls = true ∧ (ls.all fun y => !isOvR y.1 || y.2 != 0) = true ∧ ls.map (·.1) = vals ∧ ofL l 0 = x'
theorem yyf1 {f : FuncId} {fn : Func} {c : Code} {x x' : SV} {args : List Arg} {vals : List RV} (hc : callable P f = true) (hf : P.funcs[f]? = some fn) (hb : fn.body = some c)
  (hN : (decide (args.length + 1 ≤ fn.ntmps) && codeB 1 fn.ntmps c && args.all notPtrA) = true) (hx' : (isOwnR x' || match x' with | .u => true | _ => false) = true) {l0 : LS} (hl0 : (List.range (args.length + 1)).zip (x :: args.map argSV) = l0) (h : OkL P fn.ntmps c l0 (endLB P fn vals x')) : MeetsB P f x args vals x' := by
 simp only [Bool.and_eq_true, decide_eq_true_eq] at hN
 refine ⟨hc, fun w A L0 v0 vs h1 h2 h3 h4 h5 => ?_⟩
 refine calls_of_wp hf hb ?_
 have hR := yqf1 (P := P) (N := fn.ntmps) h1 h2 h3 hN.1.1 h4 h5
 refine wp_mono (h 1 hN.1.2 w _ _ _ w _ rfl (by subst hl0; exact hR)) fun e a' w' hl => ?_
 cases e with
 | normal =>
  obtain ⟨σ, L, h5, l', h6, h7⟩ := hl; obtain ⟨ls, g1, g2, g0, g3, g4⟩ := h7; exact ygk1 (σ := ofL l') (L := L) (by
   rcases h6 with rfl | h6
   ·exact h5
   exact yfg h5 h6) ⟨⟨ls, g1, g2, g0, g3⟩, g4, hx'⟩
 | ret =>
  obtain ⟨σ, L, h5, l', h6, h7⟩ := hl; obtain ⟨ls, g1, g2, g0, g3, g4⟩ := h7; exact ygk1 (σ := ofL l') (L := L) (by
   rcases h6 with rfl | h6
   ·exact h5
   exact yfg h5 h6) ⟨⟨ls, g1, g2, g0, g3⟩, g4, hx'⟩
 | exit id =>
  obtain ⟨σ, L, h5, l', h6, h7⟩ := hl; exact h7.elim
 | _ => exact hl.elim
theorem ytr1 {fn : Func} {vals : List RV} {x' : SV} {l : LS} {ls : List (RV × Nat)} (h1 : retVs P (ofL l) fn.results.toList = some ls) (h2 : ovOk ls = true) (h0 : (ls.all fun y => !isOvR y.1 || y.2 != 0) = true) (h3 : ls.map (·.1) = vals) (h4 : ofL l 0 = x') : endLB P fn vals x' .ret l := ⟨ls, h1, h2, h0, h3, h4⟩
theorem yys1 {fn : Func} {args : List Arg} {vals : List RV} {l : LS} {ls : List (RV × Nat)} (h1 : retVs P (ofL l) fn.results.toList = some ls) (h2 : ovOk ls = true) (h3 : ls.map (·.1) = vals) (h4 : outsOf (ofL l) ((List.range args.length).zip args) = some []) : endL P fn args { vals := vals } .ret l := ⟨ls, h1, h2, h3, h4⟩
theorem yma {α : Type} {b : Bool} {x y : Option α} {r : α} (hb : b = true) (h : (if b = true then x else y) = some r) : x = some r := by rwa [if_pos hb] at h
theorem yna {α : Type} {b : Bool} {x y : Option α} {r : α} (hb : b = false) (h : (if b = true then x else y) = some r) : y = some r := by rwa [if_neg (by simp [hb])] at h
theorem bind_some' {α β : Type} {x : Option α} {f : α → Option β} {r : β} (h : x.bind f = some r) : ∃ a, x = some a ∧ f a = some r := Option.bind_eq_some_iff.1 h
def idxO {α : Type} (xs : List α) (i : Int) : Option α := if 0 ≤ i then xs[i.toNat]? else none
theorem yba {α : Type} {xs : List α} {i : Int} {x : α} (h : idxO xs i = some x) : 0 ≤ i ∧ xs[i.toNat]? = some x := by
 unfold idxO at h
 split at h
 ·exact ⟨by assumption, h⟩
 cases h
theorem yia {α β : Type} {xs : List α} {n : Nat} {x : α} (f : α → β) (h : xs[n]? = some x) : (xs.map f)[n]? = some (f x) := by simp [h]
def eI (n : Int) : List C := [.raw (.int .i64 n)]
def eU (k : IntKind) (n : Int) : List C := [.raw (.int k n)]
def eB (b : Bool) : List C := [.raw (.bool b)]
def eT (s : ByteArray) : List C := [.raw (.string s)]
def eP {α β : Type} (f : α → List C) (g : β → List C) (x : α × β) : List C := f x.1 ++ g x.2
def eF {α : Type} (f : α → List C) (l : List α) : List C := [.sl none (l.map f)]
def eO {α : Type} (t : TypeId) (f : α → List C) (l : List α) : List C := [.sl (some t) (l.map f)]
end Go.PV

/-
 A walk over pure values: small laws that the written walks lean on.
 Conditions: none.
-/
namespace Go.PV
variable {P : Program} {N : Nat}
def w64 (n : Int) : Int := IntKind.i64.wrap n
def iand (k : IntKind) (x y : Int) : Int := k.wrap ((BitVec.ofInt k.bits x) &&& (BitVec.ofInt k.bits y)).toNat
def ishr (k : IntKind) (x y : Int) : Int := x.fdiv (2 ^ (min y.toNat k.bits))
def ishl (k : IntKind) (x y : Int) : Int := k.wrap (x * 2 ^ (min y.toNat k.bits))
open Classical in
noncomputable def fuelO {α : Type} (f : Nat → Option α) : Option α := if h : ∃ k, (f k).isSome = true then f (Classical.choose h) else none
theorem yzf1 {α : Type} {f : Nat → Option α} {r : α} (h : fuelO f = some r) : ∃ k, f k = some r := by
 unfold fuelO at h
 split at h
 ·exact ⟨_, h⟩
 cases h
theorem yam1 {α : Type} {f : Nat → Option α} {v : α} (k : Nat) (h : f k = some v) (hu : ∀ k r, f k = some r → r = v) : fuelO f = some v := by
 have hx : ∃ k, (f k).isSome = true := ⟨k, by rw [h]; rfl⟩
 unfold fuelO
 rw [dif_pos hx]
 have hc := Classical.choose_spec hx
 obtain ⟨r, hr⟩ := Option.isSome_iff_exists.1 hc
 rw [hr, hu _ _ hr]
def guardO (p : Prop) [Decidable p] : Option Unit := if p then some () else none
theorem yea {p : Prop} [Decidable p] {u : Unit} (h : guardO p = some u) : p := by
 unfold guardO at h
 split at h
 ·assumption
 cases h
theorem RegOk.of_eq {c : Code} {l0 l1 l2 : LS} (h : RegOk P N c l0 l1) (e : l1 = l2) : RegOk P N c l0 l2 := e ▸ h
section
variable {α β : Type} {xs ys : List α} {f : α → List C} {g : β → List C}
theorem gre {rows : List (List C)} {n o : Nat} {row : List C} (h : rows[n]? = some row) : getRow rows [(n, o)] = some (row.drop o) := by simp [getRow, h]
theorem grs {rows rows' : List (List C)} {n o m o' : Nat} {q : Path} {row : List C} {e : TypeId} (h : rows[n]? = some row) (h2 : row[o]? = some (.sl (some e) rows')) : getRow rows ((n, o) :: (m, o') :: q) = getRow rows' ((m, o') :: q) := by
 cases q <;> simp [getRow, h, h2]
theorem gr0 {cells : List C} {rows' : List (List C)} {o m o' : Nat} {q : Path} {e : TypeId} (h2 : cells[o]? = some (.sl (some e) rows')) : getRow [cells] ((0, o) :: (m, o') :: q) = getRow rows' ((m, o') :: q) := grs (n := 0) rfl h2
theorem yyi1 {rows : List (List C)} {n o : Nat} {q : Path} {cs : List C} : setL rows ((n, o) :: q) cs = rows.modify n (fun r => match q with | [] => r.take o ++ cs ++ r.drop (o + cs.length) | _ :: _ => setR r o q cs) := by
 induction rows generalizing n with
 | nil => cases n <;> simp [setL]
 | cons r rows ih =>
  cases n with
  | zero => cases q <;> simp [setL]
  | succ n => cases q <;> simp [setL, ih]
theorem yag1 {n : Nat} {x y : α} {F : List C → List C} (h : xs[n]? = some x) (h2 : F (f x) = f y) : (xs.map f).modify n F = (xs.set n y).map f := by
 apply List.ext_getElem?
 intro j
 rw [List.getElem?_modify, List.getElem?_map, List.getElem?_map, List.getElem?_set]
 by_cases hj : n = j
 ·subst hj
  obtain ⟨hlt, hx⟩ := List.getElem?_eq_some_iff.1 h
  subst hx; simp [h2, hlt]
 simp [hj]
theorem set1 {n o : Nat} {x y : α} {cs : List C} (h : xs[n]? = some x) (h2 : (f x).take o ++ cs ++ (f x).drop (o + cs.length) = f y) : setL (xs.map f) [(n, o)] cs = (xs.set n y).map f := by
 rw [yyi1]; exact yag1 h h2
theorem ydg {sz : Nat} (h : ∀ x, (f x).length = sz) : ∀ row ∈ xs.map f, row.length = sz := by
 intro row hr
 obtain ⟨x, _, rfl⟩ := List.mem_map.1 hr
 exact h x
theorem yrs1 {n : Nat} : ((xs.map f).take n).drop 0 = (xs.take n).map f := by simp [List.map_take]
theorem yzs1 {n : Nat} : ((xs.map f).take (xs.map f).length).drop n = (xs.drop n).map f := by rw [List.take_length]; simp [List.map_drop]
theorem yza {h : α → List C} (hf : ∀ x, eraR (f x) = h x) : eraL (xs.map f) = xs.map h := by
 rw [yva1, List.map_map]; exact List.map_congr_left fun x _ => hf x
theorem ybe1 (a b : List C) : eraR (a ++ b) = eraR a ++ eraR b := by simp [ynj]
theorem ysm {h : α → List C} {k : β → List C} (hf : ∀ x, eraR (f x) = h x) (hg : ∀ x, eraR (g x) = k x) (x : α × β) : eraR (eP f g x) = eP h k x := by
 unfold eP; rw [ybe1, hf, hg]
theorem er_I (n : Int) : eraR (eI n) = eI n := rfl
theorem er_T (n : ByteArray) : eraR (eT n) = eT n := rfl
theorem yul {o : Option TypeId} {l l' : List (List C)} {r r' : List C} (h1 : eraL l = l') (h2 : eraR r = r') : eraR (.sl o l :: r) = .sl none l' :: r' := by
 show era (.sl o l) :: eraR r = _
 simp only [era, h1, h2]
theorem yxc1 {v : Value} {r r' : List C} (h2 : eraR r = r') : eraR (.raw v :: r) = .raw v :: r' := by
 show era (.raw v) :: eraR r = _
 simp only [era, h2]
theorem ybg1 (a b : List C) : wnR (a ++ b) = (wnR a && wnR b) := by
 induction a with
 | nil => simp [wnR]
 | cons c a ih => simp [wnR, ih, Bool.and_assoc]
theorem yzm (h : ∀ x, wnR (f x) = true) : wnL (xs.map f) = true := by
 induction xs with
 | nil => rfl
 | cons x xs ih => simp [wnL, h, ih]
theorem ycg1 (a b : List C) : frR (a ++ b) = (frR a && frR b) := by
 induction a with
 | nil => simp [frR]
 | cons c a ih => simp [frR, ih, Bool.and_assoc]
theorem yyc1 (h : ∀ x, frR (f x) = true) : frL (xs.map f) = true := by
 induction xs with
 | nil => rfl
 | cons x xs ih => simp [frL, h, ih]
theorem wn_I (n : Int) : wnR (eI n) = true := rfl
theorem wn_T (n : ByteArray) : wnR (eT n) = true := rfl
theorem wn_P (h1 : ∀ x, wnR (f x) = true) (h2 : ∀ x, wnR (g x) = true) (x : α × β) : wnR (eP f g x) = true := by unfold eP; rw [ybg1, h1, h2]; rfl
theorem fr_I (n : Int) : frR (eI n) = true := rfl
theorem fr_U (k : IntKind) (n : Int) : frR (eU k n) = true := rfl
theorem fr_P (h1 : ∀ x, frR (f x) = true) (h2 : ∀ x, frR (g x) = true) (x : α × β) : frR (eP f g x) = true := by unfold eP; rw [ycg1, h1, h2]; rfl
theorem frR1 {l : List (List C)} {r : List C} (h : frL l = true) (h2 : frR r = true) : frR (.sl none l :: r) = true := by simp [frR, frC, h, h2]
theorem wnR1 {t : TypeId} {l : List (List C)} {r : List C} (h : wnL l = true) (h2 : wnR r = true) : wnR (.sl (some t) l :: r) = true := by simp [wnR, wnC, h, h2]
end
theorem sa_p {v : Value} {l : List RV} (h : l.all simpleR = true) : (RV.p v :: l).all simpleR = true := by simp [simpleR, h]
theorem sa_o {g : Bool} {cs : List C} {l : List RV} (h0 : wnR cs = true) (h : l.all simpleR = true) : (RV.ov g cs :: l).all simpleR = true := by simp only [List.all_cons, simpleR, h0, h, Bool.and_self]
end Go.PV

/-
 A walk over pure values: what the statement hands in, as data; what it wants to have back.
 Conditions: none.
-/
namespace Go.PV
open Go.Deep Go.ChangeShapes Go.WideShapes Go.RowKit
variable {P : Program}
inductive Ty where
 | int (k : IntKind)
 | bool
 | str
 | sl (a : Ty)
 | one (a : Ty)
 | pair (a b : Ty)
def Ty.α : Ty → Type
 | .int _ => Int
 | .bool => Bool
 | .str => ByteArray
 | .sl a => List a.α
 | .one a => a.α
 | .pair a b => a.α × b.α
def Ty.dflt : (T : Ty) → T.α
 | .int _ => (0 : Int)
 | .bool => false
 | .str => ByteArray.empty
 | .sl _ => []
 | .one a => a.dflt
 | .pair a b => (a.dflt, b.dflt)
def Ty.enc : (T : Ty) → T.α → List C
 | .int k => eU k
 | .bool => eB
 | .str => eT
 | .sl a => eF a.enc
 | .one a => a.enc
 | .pair a b => eP a.enc b.enc
def Ty.ok : (T : Ty) → T.α → Prop
 | .int k => fun n => (Lit.int k n).wf = true
 | .bool => fun _ => True
 | .str => fun s => s.size ≤ maxLen
 | .sl a => fun (l : List a.α) => l.length ≤ maxLen ∧ ∀ x ∈ l, a.ok x
 | .one a => a.ok
 | .pair a b => fun x => a.ok x.1 ∧ b.ok x.2
def tyX (P : Program) : Nat → Ty → (TypeId ⊕ (List Field × Nat × Nat)) → Bool
 | 0, _, _ => false
 | n + 1, T, .inl t => (match T, P.underlying t with
  | .int k, some (.int k') => decide (k = k')
  | .bool, some .bool => true
  | .str, some .string => true
  | .sl a, some (.slice e) => tyX P n a (.inl e)
  | .one a, some (.struct fs) => (match fs.toList with
   | [f] => tyX P n a (.inr ([f], 0, P.cellsOf t))
   | _ => false)
  | .pair a b, some (.struct fs) => tyX P n (.pair a b) (.inr (fs.toList, 0, P.cellsOf t))
  | _, _ => false)
 | n + 1, T, .inr ([f], o, tot) => decide (f.offset = o) && decide (o + P.cellsOf f.type = tot) && tyX P n T (.inl f.type)
 | n + 1, .pair a b, .inr (f :: g :: l, o, tot) => decide (f.offset = o) && decide (o + P.cellsOf f.type ≤ tot) && tyX P n a (.inl f.type) && tyX P n b (.inr (g :: l, o + P.cellsOf f.type, tot))
 | _, _, _ => false
theorem ylk1 {n : Nat} {k : IntKind} {t : TypeId} (h : tyX P (n + 1) (.int k) (.inl t) = true) : P.underlying t = some (.int k) := by
 cases hu : P.underlying t with
 | none => simp [tyX, hu] at h
 | some d => cases d <;> simp [tyX, hu] at h <;> simp [h]
theorem ydg1 {n : Nat} {t : TypeId} (h : tyX P (n + 1) .bool (.inl t) = true) : P.underlying t = some .bool := by
 cases hu : P.underlying t with
 | none => simp [tyX, hu] at h
 | some d => cases d <;> simp [tyX, hu] at h <;> simp
theorem ymk1 {n : Nat} {t : TypeId} (h : tyX P (n + 1) .str (.inl t) = true) : P.underlying t = some .string := by
 cases hu : P.underlying t with
 | none => simp [tyX, hu] at h
 | some d => cases d <;> simp [tyX, hu] at h <;> simp
theorem yep1 {n : Nat} {a : Ty} {t : TypeId} (h : tyX P (n + 1) (.sl a) (.inl t) = true) : ∃ e, P.underlying t = some (.slice e) ∧ tyX P n a (.inl e) = true := by
 cases hu : P.underlying t with
 | none => simp [tyX, hu] at h
 | some d => cases d <;> simp [tyX, hu] at h <;> exact ⟨_, rfl, h⟩
theorem ynk1 {n : Nat} {a : Ty} {t : TypeId} (h : tyX P (n + 1) (.one a) (.inl t) = true) : ∃ fs f, P.underlying t = some (.struct fs) ∧ fs.toList = [f] ∧ tyX P n a (.inr ([f], 0, P.cellsOf t)) = true := by
 cases hu : P.underlying t with
 | none => simp [tyX, hu] at h
 | some d =>
  cases d <;> simp only [tyX, hu, Bool.false_eq_true] at h
  rename_i fs; split at h
  ·rename_i f hf
   exact ⟨fs, f, rfl, hf, h⟩
  cases h
theorem yeg1 {n : Nat} {a b : Ty} {t : TypeId} (h : tyX P (n + 1) (.pair a b) (.inl t) = true) : ∃ fs, P.underlying t = some (.struct fs) ∧ tyX P n (.pair a b) (.inr (fs.toList, 0, P.cellsOf t)) = true := by
 cases hu : P.underlying t with
 | none => simp [tyX, hu] at h
 | some d => cases d <;> simp [tyX, hu] at h <;> exact ⟨_, rfl, h⟩
section
variable {H : Type} {enc : TypeId × Value → H} {w : World} {spare : Nat → Bool} {held : Bool}
def Stands (w : World) (T : Ty) (cs : List Value) : Prop := ∃ a : T.α, T.ok a ∧ (T.enc a).length = cs.length ∧ ∀ (j : Nat) (c : C), (T.enc a)[j]? = some c → Frz (fun b => b < w.heap.size) w (cs.getD j undef) c
theorem yfp1 {a : Addr} {v : Value} (h : w.cell? a = some v) : a.block < w.heap.size := by
 unfold World.cell? at h
 split at h
 ·rename_i hx; exact (Array.getElem?_eq_some_iff.1 hx).1
 cases h
theorem yzi1 (n : Nat) : (∀ (T : Ty) (t : TypeId), tyX P n T (.inl t) = true → ∀ (fuel : Nat) (cs : List Value) (x : DataW H × List MemPlace), DataW.trod enc P w 0 spare held fuel t cs = some x → Stands w T cs) ∧
  (∀ (T : Ty) (fs : List Field) (o tot : Nat), tyX P n T (.inr (fs, o, tot)) = true → ∀ (fuel : Nat) (cs : List Value) (xs : List (DataW H × List MemPlace)), cs.length = tot → o ≤ tot →
   fs.mapM (fun f => DataW.trod enc P w 0 spare held fuel f.type ((cs.drop f.offset).take (P.cellsOf f.type))) = some xs → Stands w T (cs.drop o)) := by
 induction n with
 | zero => exact ⟨fun T t h => by simp [tyX] at h, fun T fs o tot h => by cases T <;> simp [tyX] at h⟩
 | succ n ih =>
  obtain ⟨ih1, ih2⟩ := ih; constructor
  ·intro T t h fuel cs x hx
   cases fuel with
   | zero => simp [DataW.trod] at hx
   | succ fuel =>
    cases T with
    | int k =>
     have hu := ylk1 h; obtain ⟨m, hcs, _, hw⟩ := DataW.trod_int hu hx; subst hcs; refine ⟨m, hw, rfl, fun j c hj => ?_⟩
     cases j with
     | zero => simp [Ty.enc, eU] at hj; subst hj; exact .raw rfl
     | succ j => simp [Ty.enc, eU] at hj
    | bool =>
     have hu := ydg1 h; obtain ⟨b, hcs, _⟩ := DataW.trod_bool hu hx; subst hcs; refine ⟨b, trivial, rfl, fun j c hj => ?_⟩
     cases j with
     | zero => simp [Ty.enc, eB] at hj; subst hj; exact .raw rfl
     | succ j => simp [Ty.enc, eB] at hj
    | str =>
     have hu := ymk1 h; obtain ⟨s, hcs, _, hw⟩ := DataW.trod_string hu hx; subst hcs; refine ⟨s, hw, rfl, fun j c hj => ?_⟩
     cases j with
     | zero => simp [Ty.enc, eT] at hj; subst hj; exact .raw rfl
     | succ j => simp [Ty.enc, eT] at hj
    | sl a =>
     obtain ⟨e, hu, h⟩ := yep1 h; rcases open_slice hu hx with ⟨rfl, _⟩ | ⟨ad, len, cap, m, n', D, Pl, rfl, _, hl, hm, hmm, _, hel⟩
     ·refine ⟨([] : List a.α), ⟨by simp, by simp⟩, rfl, fun j c hj => ?_⟩
      cases j with
      | zero => simp [Ty.enc, eF] at hj; subst hj; exact .nil
      | succ j => simp [Ty.enc, eF] at hj
     have hml : len ≤ m := by rw [hmm]; split <;> omega
     have : Inhabited a.α := ⟨a.dflt⟩
     have step : ∀ i, i < len → ∃ y : a.α × List Value, w.cells? 0 (ad.add (i * P.cellsOf e)) (P.cellsOf e) = some y.2 ∧ a.ok y.1 ∧ (a.enc y.1).length = y.2.length ∧ ∀ (j : Nat) (c : C), (a.enc y.1)[j]? = some c → Frz (fun b => b < w.heap.size) w (y.2.getD j undef) c := fun i hi => by
      obtain ⟨cs', h1, h2⟩ := hel i (by omega)
      obtain ⟨y, h3, h4, h5⟩ := ih1 a e h n' cs' _ h2
      exact ⟨(y, cs'), h1, h3, h4, h5⟩
     obtain ⟨f, hf⟩ := choose_lt step; refine ⟨(List.range len).map fun i => (f i).1, ⟨by simp; omega, ?_⟩, rfl, fun j c hj => ?_⟩
     ·intro y hy
      obtain ⟨i, hi, rfl⟩ := List.mem_map.1 hy; exact (hf i (List.mem_range.1 hi)).2.1
     cases j with
     | succ j => simp [Ty.enc, eF] at hj
     | zero =>
      simp only [Ty.enc, eF, List.getElem?_cons_zero, Option.some.injEq] at hj; subst hj; show Frz _ w (.slice (some ad) len cap) _
      cases len with
      | zero => exact .nil
      | succ len =>
       have hlen : ∀ i, i < len + 1 → (a.enc (f i).1).length = P.cellsOf e := fun i hi => by
        rw [(hf i hi).2.2.1]; exact (World.cells?_some (hf i hi).1).2.1
       have hget : ∀ (i : Nat) (row : List C), (List.map a.enc ((List.range (len + 1)).map fun i => (f i).1))[i]? = some row → i < len + 1 ∧ row = a.enc (f i).1 := fun i row hr => by
        simp only [List.map_map, List.getElem?_map] at hr; by_cases hi : i < len + 1
        ·simp [hi] at hr; exact ⟨hi, hr.symm⟩
        simp [hi] at hr
       have key : ∀ (i o : Nat) (row : List C) (c : C), (List.map a.enc ((List.range (len + 1)).map fun i => (f i).1))[i]? = some row → row[o]? = some c →
         w.cell? (ad.add (i * P.cellsOf e + o)) = some ((f i).2.getD o undef) ∧ Frz (fun b => b < w.heap.size) w ((f i).2.getD o undef) c := fun i o row c hr ho => by
        obtain ⟨hi, rfl⟩ := hget i row hr; have ho' : o < P.cellsOf e := by rw [← hlen i hi]; exact (List.getElem?_eq_some_iff.1 ho).1
        obtain ⟨_, hl2, hc2⟩ := World.cells?_some (hf i hi).1
        refine ⟨?_, (hf i hi).2.2.2 o c ho⟩
        have := hc2 o ho'
        rw [add_add] at this; rw [this]; rw [List.getElem?_eq_getElem (by omega)]; simp [List.getD, List.getElem?_eq_getElem (show o < (f i).2.length by omega)]
       by_cases hz : P.cellsOf e = 0
       ·-- rows without cells
        obtain ⟨b, off, spot⟩ := ad; exact absurd hz (by
         intro hz; have h1 := hlen 0 (by omega)
         rw [hz] at h1; have : ∀ (T : Ty) (x : T.α), (T.enc x).length ≠ 0 := by
          intro T; induction T with
          | int k => intro x; simp [Ty.enc, eU]
          | bool => intro x; simp [Ty.enc, eB]
          | str => intro x; simp [Ty.enc, eT]
          | sl a _ => intro x; simp [Ty.enc, eF]
          | one a ih => intro x; exact ih x
          | pair a b iha ihb => intro x; simp only [Ty.enc, eP, List.length_append]; have := iha x.1; omega
         exact this a _ h1)
       have hlt0 : 0 < (a.enc (f 0).1).length := by rw [hlen 0 (by omega)]; omega
       have h00 := key 0 0 _ _ (by simp) (List.getElem?_eq_getElem hlt0)
       obtain ⟨b, off, spot⟩ := ad; have hspot : spot = none := by
        have := World.cell?_spot h00.1
        simpa [Addr.add] using this
       subst hspot; have hb := yfp1 h00.1; simp [Addr.add] at hb
       have hadd : ∀ k, (Addr.mk b off none).add k = ⟨b, off + k, none⟩ := fun k => by
        unfold Addr.add; split <;> simp_all
       have h9 := Frz.sl (Z := fun b => b < w.heap.size) (w := w) (b := b) (off := off) (cap := cap) (sz := P.cellsOf e) (rows := List.map a.enc ((List.range (len + 1)).map fun i => (f i).1)) (fun i o => (f i).2.getD o undef)
        (by simpa using hl) (by first | exact hb | (split at hb <;> exact hb)) (by
         intro row hr; obtain ⟨i, hi⟩ := List.mem_iff_getElem?.1 hr
         obtain ⟨h1, rfl⟩ := hget i row hi; exact hlen i h1)
        (fun i row o c hr ho => by have := (key i o row c hr ho).1; rw [hadd] at this; rw [Nat.add_assoc]; exact this)
        (fun i row o c hr ho => (key i o row c hr ho).2)
       simpa using h9
    | one a =>
     obtain ⟨fs, f, hu, hfs, h⟩ := ynk1 h; rw [DataW.trod_step] at hx; unfold DataW.trodStep at hx; simp only [hu] at hx
     ·split at hx
      ·rename_i hlen
       cases hm : fs.toList.mapM (fun f => DataW.trod enc P w 0 spare held fuel f.type ((cs.drop f.offset).take (P.cellsOf f.type))) with
       | none => simp [hm] at hx
       | some xs =>
        have := ih2 a fs.toList 0 (P.cellsOf t) (by rw [hfs]; exact h) fuel cs xs hlen (Nat.zero_le _) hm
        simpa [Stands, Ty.ok, Ty.enc, Ty.α] using this
      cases hx
    | pair a b =>
     obtain ⟨fs, hu, h⟩ := yeg1 h; rw [DataW.trod_step] at hx; unfold DataW.trodStep at hx; simp only [hu] at hx; split at hx
     ·rename_i hlen
      cases hm : fs.toList.mapM (fun f => DataW.trod enc P w 0 spare held fuel f.type ((cs.drop f.offset).take (P.cellsOf f.type))) with
      | none => simp [hm] at hx
      | some xs =>
       have := ih2 (.pair a b) fs.toList 0 (P.cellsOf t) h fuel cs xs hlen (Nat.zero_le _) hm
       simpa using this
     cases hx
  intro T fs o tot h fuel cs xs hlen ho hm; match fs with
  | [] => cases T <;> simp [tyX] at h
  | [f] =>
   have h' : f.offset = o ∧ o + P.cellsOf f.type = tot ∧ tyX P n T (.inl f.type) = true := by
    cases T <;> simpa [tyX, and_assoc] using h
   obtain ⟨h1, h2, h3⟩ := h'
   rw [List.mapM_cons] at hm; cases hx : DataW.trod enc P w 0 spare held fuel f.type ((cs.drop f.offset).take (P.cellsOf f.type)) with
   | none => simp [hx] at hm
   | some x =>
    have := ih1 T f.type h3 fuel _ x hx
    rw [h1, List.take_of_length_le (by simp; omega)] at this
    exact this
  | f :: g :: l =>
   cases T with
   | pair a b =>
    simp only [tyX, Bool.and_eq_true, decide_eq_true_eq] at h; obtain ⟨⟨⟨h1, h2⟩, h3⟩, h4⟩ := h; rw [List.mapM_cons] at hm; cases hx : DataW.trod enc P w 0 spare held fuel f.type ((cs.drop f.offset).take (P.cellsOf f.type)) with
    | none => simp [hx] at hm
    | some x =>
     cases hm2 : (g :: l).mapM (fun f => DataW.trod enc P w 0 spare held fuel f.type ((cs.drop f.offset).take (P.cellsOf f.type))) with
     | none => simp [hx, hm2] at hm
     | some xs' =>
      obtain ⟨y, g1, g2, g3⟩ := ih1 a f.type h3 fuel _ x hx; obtain ⟨z, k1, k2, k3⟩ := ih2 b (g :: l) (o + P.cellsOf f.type) tot h4 fuel cs xs' hlen h2 hm2
      rw [h1] at g2 g3
      have hl1 : ((cs.drop o).take (P.cellsOf f.type)).length = P.cellsOf f.type := by simp; omega
      rw [hl1] at g2; refine ⟨(y, z), ⟨g1, k1⟩, ?_, fun j c hj => ?_⟩
      ·simp only [Ty.enc, eP, List.length_append, g2, k2, List.length_drop]; omega
      simp only [Ty.enc, eP] at hj; by_cases hjl : j < P.cellsOf f.type
      ·rw [List.getElem?_append_left (by omega)] at hj
       have := g3 j c hj
       have e : ((cs.drop o).take (P.cellsOf f.type)).getD j undef = (cs.drop o).getD j undef := by
        simp [List.getD, List.getElem?_take, hjl]
       rwa [e] at this
      rw [List.getElem?_append_right (by omega), g2] at hj; have := k3 _ c hj
      have e : (cs.drop (o + P.cellsOf f.type)).getD (j - P.cellsOf f.type) undef = (cs.drop o).getD j undef := by
       simp only [List.getD, List.getElem?_drop]; congr 2
       omega
      rwa [e] at this
   | _ => simp [tyX] at h
end
end Go.PV

/-
 A walk over pure values: from a contract to what the statement asks.
 Conditions: none.
-/
namespace Go.PV
open Go.Deep Go.ChangeShapes Go.WideShapes Go.RowKit Go.ChangeMaps
variable {P : Program}
def Ty.agg : Ty → Bool
 | .one _ => true
 | .pair _ _ => true
 | _ => false
theorem ygp1 {H : Type} {enc : TypeId × Value → H} {W : World} {base n : Nat} {T : Ty} {t : TypeId} {v : Value} {d : DataW H} {p : List MemPlace} (hT : tyX P n T (.inl t) = true)
  (hv : Value.okWide P W .any base t v) (h : DataW.Trod enc P W 0 (fun _ => true) true t v d p) :
  ∃ a : T.α, T.ok a ∧ ArgV (fun b => b < W.heap.size) W v (mkA T.agg (T.enc a)) := by
 have h0 := h
 obtain ⟨fuel, hf⟩ := h
 obtain ⟨a, h1, h2, h3⟩ := (yzi1 (P := P) (enc := enc) n).1 T t hT fuel _ _ hf
 refine ⟨a, h1, yxh1 ?_⟩
 have hcells : ∀ j, v.cells.toList.getD j undef = v.cells.getD j undef := fun j => by
  simp [List.getD, Array.getD_eq_getD_getElem?]
 refine ⟨?_, fun j c hj => by rw [← hcells]; exact h3 j c hj⟩
 cases n with
 | zero => simp [tyX] at hT
 | succ n =>
  have plain : T.agg = false → (∀ arr, v ≠ .agg arr) → VShape T.agg v (T.enc a).length := fun hg hna => by
   have hc : v.cells = #[v] := by
    cases v <;> first | rfl | exact absurd rfl (hna _)
   rw [hg]; unfold VShape; simp only [Bool.false_eq_true, if_false]; exact ⟨hc, by rw [h2, hc]; rfl⟩
  cases T with
  | int k =>
   obtain ⟨x, rfl, _⟩ := open_int (ylk1 hT) hv h0
   exact plain rfl (by intro arr h; cases h)
  | bool =>
   obtain ⟨x, rfl, _⟩ := open_bool (ydg1 hT) hv h0
   exact plain rfl (by intro arr h; cases h)
  | str =>
   obtain ⟨x, rfl, _⟩ := open_string (ymk1 hT) hv h0
   exact plain rfl (by intro arr h; cases h)
  | sl b =>
   obtain ⟨e, hu, _⟩ := yep1 hT; obtain ⟨ad, len, cap, rfl⟩ := okWide_slice hu hv; exact plain rfl (by intro arr h; cases h)
  | one b =>
   obtain ⟨fs, f, hu, _⟩ := ynk1 hT; unfold Value.okWide at hv; simp only [hu] at hv; obtain ⟨cs, rfl, _⟩ := hv; exact ⟨cs, rfl, by rw [h2]; rfl⟩
  | pair b c =>
   obtain ⟨fs, hu, _⟩ := yeg1 hT; unfold Value.okWide at hv; simp only [hu] at hv; obtain ⟨cs, rfl, _⟩ := hv; exact ⟨cs, rfl, by rw [h2]; rfl⟩
theorem yaj1 {f : FuncId} {args : List Arg} {vals : Array Value} {W : World} {b : Bool} (hT : Tabs P (fun b => b < W.heap.size) W) (hm : Meets P f args { vals := [.p (.bool b)] }) (hb : b = true) (ha : ArgsV (fun b => b < W.heap.size) W vals.toList args) :
  Calls P f vals W fun e W' => e = .returned (.bool true) ∧ Below W.heap.size W W' := by
 subst hb
 refine (hm.2 W (fun b => b < W.heap.size) vals ⟨fun b hb => hb, hT⟩ ha.rep).mono fun e W' h => ?_
 obtain ⟨v, L, rfl, hp⟩ := h
 have hv := hp.val
 simp only [ResAt, RVat] at hv
 subst hv
 exact ⟨rfl, hp.ev.os, hp.ev.tape, hp.ev.output, hp.ev.size, fun k hk => hp.ev.block k hk (ysy k)⟩
end Go.PV

/-
 What a row whose tables are laid hands on to a walk: the tables, and the world's shape.
 Conditions: none.
-/
set_option linter.all false
namespace Go.PV
variable {P : Program} {H : Type} {enc : TypeId × Value → H}
theorem ykv {w : World} {g : Nat} {v : Value} (h : w.cell? ⟨g, 0, none⟩ = some v) : g < w.heap.size := by
 refine Classical.byContradiction fun hno => ?_
 unfold World.cell? at h
 rw [Array.getElem?_eq_none (by simpa using hno)] at h
 simp at h
theorem yhp1 {W : World} {g0 g1 g2 : Nat} (e0 : P.globalNamed "internal/bytealg.MaxLen" = some g0) (e1 : P.globalNamed "strconv.ErrSyntax" = some g1) (e2 : P.globalNamed "strconv.ErrRange" = some g2)
  (h0 : ∃ m, W.cell? ⟨g0, 0, none⟩ = some (.int .i64 m)) (h1 : ∃ te pe, W.cell? ⟨g1, 0, none⟩ = some (.iface te pe)) (h2 : ∃ te pe, W.cell? ⟨g2, 0, none⟩ = some (.iface te pe)) :
  ∀ n ∈ varNames, ∀ g, P.globalNamed n = some g → g < W.heap.size ∧ ∃ v, W.cell? ⟨g, 0, none⟩ = some v ∧ varOk n v := by
 obtain ⟨m, h0⟩ := h0
 obtain ⟨t1, p1, h1⟩ := h1
 obtain ⟨t2, p2, h2⟩ := h2
 intro n hn g hg
 have : n = "internal/bytealg.MaxLen" ∨ n = "strconv.ErrSyntax" ∨ n = "strconv.ErrRange" := by simpa [varNames] using hn
 rcases this with rfl | rfl | rfl
 ·obtain rfl := Option.some.inj (e0.symm.trans hg)
  exact ⟨ykv h0, _, h0, by unfold varOk; rw [if_pos rfl]; exact ⟨m, rfl⟩⟩
 ·obtain rfl := Option.some.inj (e1.symm.trans hg)
  exact ⟨ykv h1, _, h1, by unfold varOk; rw [if_neg (by decide)]; exact .inr ⟨_, _, rfl⟩⟩
 obtain rfl := Option.some.inj (e2.symm.trans hg)
 exact ⟨ykv h2, _, h2, by unfold varOk; rw [if_neg (by decide)]; exact .inr ⟨_, _, rfl⟩⟩
theorem yzc1 {n nm : String} {text : List UInt8} {r : List (String × DataW Unit)} {W : World} {g : Nat} {ti tp te ts : TypeId} {ms : Array (String × TypeId)} {f : Field}
  (h : laidMet P ((n, .iface nm (.ptr (.agg [.lit (.string text)]))) :: r) W)
  (hg : P.globalNamed n = some g) (ht : (P.globals[g]?).map (·.type) = some ti) (hi : P.underlying ti = some (.interface ms)) (hrow : ∀ u, P.typeName? 3 u = some nm → u = tp)
  (hp : P.underlying tp = some (.pointer te)) (he : P.underlying te = some (.struct #[f])) (hft : f.type = ts) (hfo : f.offset = 0) (hs : P.underlying ts = some .string) (hc : P.cellsOf te = 1) (hcs : P.cellsOf ts = 1) :
  ∃ te pe, W.cell? ⟨g, 0, none⟩ = some (.iface te pe) := by
 obtain ⟨a, s, hv, _⟩ := laid_sentinel h hg ht hi hrow hp he hft hfo hs hc hcs
 exact ⟨_, _, World.var?_cell hg hv 0⟩
theorem yce1 {a : Assume} {C : Checked} {os : Os} {f : FuncId} {fn : Func} {s : ChangeSpec} {conds : List PathCond} {apart fresh handsOn again : Bool} {X : World → Array Value → Prop}
  (hX : ∀ (w w' : World) (args : Array Value), w.heap = w'.heap → X w args → X w' args)
  (own : ownKnob C.prog.godebug = none) (started : os.Started) (noInit : C.prog.inits.idxOf? f = none) (hfn : C.prog.funcs[f]? = some fn)
  (witness : ∃ (w : World) (tape : Tape) (i : Input), w.os = os ∧ (w.forCall tape i).Shaped C.prog ∧ i.vars = [] ∧ Input.okWide C.prog (w.forCall tape i) .any w.heap.size f i ∧
   ((s.pre enc C.prog fn conds apart (w.forCall tape i).memory i.args ∧ X (w.forCall tape i).memory i.args) ∧ sizedMet enc C.prog fn (OpenSpec.ofChange s) apart (w.forCall tape i).memory i.args) ∧ a.holds C.prog (lone (Frame.enter C.prog f i.args .normal) [] (w.forCall tape i)))
  (contract : ∀ (W : World) (base : Nat) (args : Array Value) (ds gs : List (DataW H)) (before : List MemPlace),
   (∀ (j : Nat) t v, fn.params[j]? = some t → args[j]? = some v → Value.okWide C.prog W .any base t v) →
   DataW.Whole enc C.prog fn.params.toList s.vars apart W args.toList ds gs before → X W args → W.ShapedOpen C.prog →
   Calls C.prog f args W fun e W' => ∃ v, e = .returned v ∧ s.post enc C.prog fn apart fresh handsOn again W args v W') :
  ReturnsInHanded a C os f .any (fun w args => (s.pre enc C.prog fn conds apart w args ∧ X w args) ∧ sizedMet enc C.prog fn (OpenSpec.ofChange s) apart w args) (s.post enc C.prog fn apart fresh handsOn again) := by
 refine returnsInHanded_of_calls own started noInit witness fun w tape i _ hsh _ hok hpre _ => ?_
 obtain ⟨_, _, _, fn2, hfn2, _, _, _, _, hval⟩ := hok
 obtain rfl : fn2 = fn := Option.some.inj (hfn2.symm.trans hfn)
 obtain ⟨⟨⟨ds, gs, before, hw, _⟩, hx⟩, _⟩ := hpre
 refine (contract (w.forCall tape i) w.heap.size i.args ds gs before hval (hw.of_heap (by rfl)) (hX _ _ _ (by rfl) hx) hsh).mono fun e W' ⟨v, he, hp⟩ => ?_
 subst he
 exact ChangeSpec.post_blind hp
end Go.PV

/-
 A walk over pure values: structs of two whole numbers compared.
 Conditions: none.
-/
namespace Go.PV
variable {P : Program}
theorem yip1 {t : TypeId} {f g : Field} {k : IntKind} {x1 x2 y1 y2 : Int} (w : World) (hu : P.underlying t = some (.struct #[f, g])) (hs : P.stoodInHeld t = false)
  (hf : P.underlying f.type = some (.int k)) (hg : P.underlying g.type = some (.int k)) (n1 : (f.name != "_") = true) (n2 : (g.name != "_") = true) (o1 : f.offset = 0) (o2 : g.offset = 1) :
  (Op.equalIn 10000 t (.agg #[.int k x1, .int k x2]) (.agg #[.int k y1, .int k y2])).run P w = .ok ((x1 == y1) && (x2 == y2)) w := by
 have hfs : P.fieldsOf t = #[f, g] := by simp [Program.fieldsOf, hu]
 rw [run_equalIn_struct w 9999 t _ _ (by rw [hfs]; exact hu) hs, hfs]
 have e1 : f.name ≠ "_" := by simpa using n1
 have e2 : g.name ≠ "_" := by simpa using n2
 have p : ∀ (h : Field) (cs : Array Value) (v : Value), P.underlying h.type = some (.int k) → cs[h.offset]? = some v → (part h.type cs h.offset).run P w = .ok v w := fun h cs v h1 h2 => by
  simp [part, isAgg, run_underlying h1, h2]
 simp only [Op.eqFields, e1, e2, ne_eq, not_false_eq_true, if_true, Sem.run_bind]
 rw [p f _ (.int k x1) hf (by simp [o1])]
 simp only [Result.andThen_ok]
 rw [p f _ (.int k y1) hf (by simp [o1])]
 simp only [Result.andThen_ok]
 rw [run_equalIn_int w 9998 f.type k k x1 y1 hf]
 simp only [Result.andThen_ok]
 cases h : (x1 == y1)
 ·simp
 simp only [Bool.not_true, Bool.false_eq_true, if_false, Sem.run_bind]
 rw [p g _ (.int k x2) hg (by simp [o2])]
 simp only [Result.andThen_ok]
 rw [p g _ (.int k y2) hg (by simp [o2])]
 simp only [Result.andThen_ok]
 rw [run_equalIn_int w 9998 g.type k k x2 y2 hg]
 simp only [Result.andThen_ok]
 cases h' : (x2 == y2) <;> simp
def two (P : Program) (t : TypeId) (k : IntKind) : Bool :=
 match P.underlying t with
 | some (.struct fs) => !P.stoodInHeld t && !P.eqGuardType P.depth t && (match fs.toList with
  | [f, g] => (f.name != "_") && (g.name != "_") && f.offset == 0 && g.offset == 1 && (match P.underlying f.type, P.underlying g.type with
   | some (.int k1), some (.int k2) => k1 == k && k2 == k
   | _, _ => false)
  | _ => false)
 | _ => false
theorem yjp1 {t : TypeId} {k : IntKind} {x1 x2 y1 y2 : Int} (h : two P t k = true) (w : World) :
  (Op.equalIn 10000 t (.agg #[.int k x1, .int k x2]) (.agg #[.int k y1, .int k y2])).run P w = .ok ((x1 == y1) && (x2 == y2)) w ∧ P.eqGuardType P.depth t = false := by
 unfold two at h
 cases hu : P.underlying t with
 | none => rw [hu] at h; cases h
 | some d =>
  rw [hu] at h; cases d with
  | struct fs =>
   obtain ⟨l⟩ := fs; match l with
   | [f, g] =>
    dsimp only at h
    cases h1 : P.underlying f.type with
    | none => rw [h1] at h; simp at h
    | some d1 =>
     cases h2 : P.underlying g.type with
     | none => rw [h1, h2] at h; cases d1 <;> simp at h
     | some d2 =>
      rw [h1, h2] at h; cases d1 <;> first | (simp at h; done) | skip
      cases d2 <;> first | (simp at h; done) | skip
      simp only [Bool.and_eq_true, Bool.not_eq_true', beq_iff_eq] at h; obtain ⟨⟨a1, a8⟩, ⟨⟨⟨a2, a3⟩, a4⟩, a5⟩, a6, a7⟩ := h; subst a6; subst a7; exact ⟨yip1 w hu a1 h1 h2 a2 a3 a4 a5, a8⟩
   | [] => simp at h
   | [_] => simp at h
   | _ :: _ :: _ :: _ => simp at h
  | _ => cases h
theorem ygg {t t2 : TypeId} {a b : Operand} {k : IntKind} {x1 x2 y1 y2 : Int} (h : two P t k = true) : PureAt P (.binOp .eql t a b t2) [.agg #[.int k x1, .int k x2], .agg #[.int k y1, .int k y2]] (.bool ((x1 == y1) && (x2 == y2))) := by
 intro ρ o ho hv w
 have hv : ρ a = .agg #[.int k x1, .int k x2] ∧ ρ b = .agg #[.int k y1, .int k y2] := by simpa [Op.operands] using hv
 obtain ⟨h1, h2⟩ := yjp1 (x1 := x1) (x2 := x2) (y1 := y1) (y2 := y2) h w
 simp only [execOp, ho, hv.1, hv.2, Sem.run_bind]
 rw [run_eqGuard_agg w _ t a b _ _ h2]
 simp only [Result.andThen_ok]
 rw [run_eql_struct w, h1]
 rfl
theorem ygi {t t2 : TypeId} {a b : Operand} {k : IntKind} {x1 x2 y1 y2 : Int} (h : two P t k = true) : PureAt P (.binOp .neq t a b t2) [.agg #[.int k x1, .int k x2], .agg #[.int k y1, .int k y2]] (.bool (!((x1 == y1) && (x2 == y2)))) := by
 intro ρ o ho hv w
 have hv : ρ a = .agg #[.int k x1, .int k x2] ∧ ρ b = .agg #[.int k y1, .int k y2] := by simpa [Op.operands] using hv
 obtain ⟨h1, h2⟩ := yjp1 (x1 := x1) (x2 := x2) (y1 := y1) (y2 := y2) h w
 simp only [execOp, ho, hv.1, hv.2, Sem.run_bind]
 rw [run_eqGuard_agg w _ t a b _ _ h2]
 simp only [Result.andThen_ok]
 rw [run_neq_struct w, h1]
 rfl
end Go.PV

/-
 A walk over pure values: a slice held against nil.
 Conditions: none.
-/
namespace Go.PV
variable {P : Program} {N : Nat}
end Go.PV

/-
 A walk over pure values: the block of an owned slice written in one go; slices cleared, copied, turned round.
 Conditions: none.
-/
namespace Go.PV
variable {P : Program} {N : Nat} {w0 : World} {A : Nat → Prop} {I : Bor}
def rawRow : List C → Bool
 | [] => true
 | .raw v :: l => scal v && rawRow l
 | _ :: _ => false
theorem yfg1 {l : List C} (h : rawRow l = true) {o : Nat} {c : C} (ho : l[o]? = some c) : ∃ v, c = .raw v ∧ scal v = true := by
 induction l generalizing o with
 | nil => simp at ho
 | cons x l ih =>
  cases x with
  | raw v =>
   simp only [rawRow, Bool.and_eq_true] at h; cases o with
   | zero => simp at ho; exact ⟨v, ho.symm, h.1⟩
   | succ o => exact ih h.2 (by simpa using ho)
  | _ => simp [rawRow] at h
def wrS (σ : St) (r : Nat) (x : SV) : St := fun s => if s = r then x else killSV r (σ s)
structure Wrote (w w' : World) (g : Nat) (arr' : Array Value) (e : TypeId) : Prop where
 at' : w'.heap[g]? = some (.cells arr' e (0, 0))
 oth : ∀ b, b ≠ g → w'.heap[b]? = w.heap[b]?
 size : w'.heap.size = w.heap.size
 os : w'.os = w.os
 tape : w'.tape = w.tape
 output : w'.output = w.output
end Go.PV

/-
 A walk over pure values: what a slice owns cut off behind; slices copied.
 Conditions: none.
-/
namespace Go.PV
variable {P : Program} {N : Nat} {w0 : World} {A : Nat → Prop} {I : Bor}
def seqOk (ops : Array Oper) : List (Nat × Bool) → Array Bool → Bool
 | [], listed => (Region.ready .any ops listed).isEmpty
 | (i, fr) :: l, listed => (match ops[i]? with | some o => o.guard.isNone | none => false) &&
   (if fr then Region.free .any ops listed i && (Region.ready .any ops listed).contains i else Region.ready .any ops listed == [i]) && seqOk ops l (listed.setIfInBounds i true)
def wpSeq (P : Program) (ops : Array Oper) (Q : Exit → Act → World → Prop) : List (Nat × Bool) → Act → World → Prop
 | [], a, w => Q .normal a w
 | (i, fr) :: l, a, w => match ops[i]? with
  | some o => if fr then ∃ v, (∀ w, (execOp a.eval o).run P w = .ok (.value v) w) ∧ wpSeq P ops Q l (a.put o.dst v) w else o.wp P a w (wpSeq P ops Q l) Q
  | none => False
end Go.PV

/-
 A walk over pure values: slices copied, at elements of one cell.
 Conditions: none.
-/
namespace Go.PV
variable {P : Program} {N : Nat} {w0 : World} {A : Nat → Prop} {I : Bor}
def copyAt {α : Type} (xs : List α) (n : Nat) (ys : List α) : List α := xs.take n ++ ys.take (xs.length - n) ++ xs.drop (n + min ys.length (xs.length - n))
theorem row1 {row : List C} (h1 : row.length = 1) (h2 : rawRow row = true) : ∃ v, row = [.raw v] ∧ scal v = true := by
 match row, h1 with
 | [c], _ =>
  obtain ⟨v, rfl, hv⟩ := yfg1 h2 (o := 0) rfl
  exact ⟨v, rfl, hv⟩
def putsA (a : Act) : List (Nat × Value) → Act
 | [] => a
 | (d, v) :: l => putsA (a.put (some d) v) l
def order9 : List (Nat × Bool) := [(0, true), (1, true), (2, true), (3, true), (4, true), (5, true), (6, true), (7, false), (8, false), (9, false)]
end Go.PV

/-
 A walk over pure values: two elements of a slice exchanged, in whatever order.
 Conditions: none.
-/
namespace Go.PV
variable {P : Program} {N : Nat} {w0 : World} {A : Nat → Prop} {I : Bor}
inductive Stp where
 | free (i : Nat)
 | one (i : Nat)
 | two (i j : Nat)
def stpLen : List Stp → Nat
 | [] => 0
 | .two _ _ :: l => stpLen l + 2
 | _ :: l => stpLen l + 1
def opOk (ops : Array Oper) (i : Nat) : Bool := match ops[i]? with
 | some o => o.guard.isNone
 | none => false
def apart2 (ops : Array Oper) (i j : Nat) : Bool := match ops[i]?, ops[j]? with
 | some o, some p => o.apart ops p
 | _, _ => false
def stpOk (ops : Array Oper) : List Stp → Array Bool → Bool
 | [], listed => (Region.ready .any ops listed).isEmpty
 | .free i :: l, listed => opOk ops i && (Region.free .any ops listed i && (Region.ready .any ops listed).contains i) && stpOk ops l (listed.setIfInBounds i true)
 | .one i :: l, listed => opOk ops i && (Region.ready .any ops listed == [i]) && stpOk ops l (listed.setIfInBounds i true)
 | .two i j :: l, listed => (opOk ops i && opOk ops j && apart2 ops i j && i != j) && (Region.ready .any ops listed == [i, j] && Region.ready .any ops (listed.setIfInBounds i true) == [j] && Region.ready .any ops (listed.setIfInBounds j true) == [i]) &&
   stpOk ops l ((listed.setIfInBounds i true).setIfInBounds j true)
def wpStp (P : Program) (ops : Array Oper) (Q : Exit → Act → World → Prop) : List Stp → Act → World → Prop
 | [], a, w => Q .normal a w
 | .free i :: l, a, w => ∃ o v, ops[i]? = some o ∧ (∀ w, (execOp a.eval o).run P w = .ok (.value v) w) ∧ wpStp P ops Q l (a.put o.dst v) w
 | .one i :: l, a, w => ∃ o, ops[i]? = some o ∧ o.wp P a w (wpStp P ops Q l) Q
 | .two i j :: l, a, w => ∃ o p v u, ops[i]? = some o ∧ ops[j]? = some p ∧ (execOp a.eval o).run P w = .ok (.value v) w ∧ (execOp a.eval p).run P w = .ok (.value u) w ∧ wpStp P ops Q l ((a.put o.dst v).put p.dst u) w
def orderSwap : List Stp := [.free 2, .free 3, .free 0, .free 1, .free 4, .free 5, .free 8, .free 9, .free 6, .free 10, .two 7 11, .one 12, .one 13, .one 14, .one 15]
end Go.PV
namespace Go.PV
variable {P : Program}
theorem ybm1 {t t2 : TypeId} {a b : Operand} {k : IntKind} {x y : Int} : PureAt P (.binOp .and t a b t2) [.int k x, .int k y] (.int k (iand k x y)) := by
 intro ρ o ho hv w
 have hv : ρ a = .int k x ∧ ρ b = .int k y := by simpa [Op.operands] using hv
 simp [execOp, ho, hv.1, hv.2, eqGuard, binOp, Op.intBits, iand]
theorem ycm1 {t t2 : TypeId} {a b : Operand} {k k' : IntKind} {x y : Int} (h : 0 ≤ y) : PureAt P (.binOp .shr t a b t2) [.int k x, .int k' y] (.int k (ishr k x y)) := by
 intro ρ o ho hv w
 have hv : ρ a = .int k x ∧ ρ b = .int k' y := by simpa [Op.operands] using hv
 have : ¬ y < 0 := by omega
 simp [execOp, ho, hv.1, hv.2, eqGuard, binOp, Op.shift, ishr, this]
theorem yxp {s d : TypeId} {a : Operand} {k k' : IntKind} {x : Int} (h1 : P.underlying s = some (.int k)) (h2 : P.underlying d = some (.int k')) : PureAt P (.convert s d a) [.int k x] (.int k' (k'.wrap x)) := by
 intro ρ o ho hv w
 have hv : ρ a = .int k x := by simpa [Op.operands] using hv
 simp [execOp, ho, hv, convert, run_underlying h1, run_underlying h2, Conv.intToInt]
end Go.PV

/-
 A walk over pure values: a struct of one slice handed in, the slice lent on.
 Conditions: none.
-/
namespace Go.PV
variable {P : Program}
end Go.PV

/-
 A walk over pure values: a region's operations listed in another order.
 Conditions: none.
-/
namespace Go.PV
variable {P : Program} {N : Nat}
def permOp (π : List Nat) (o : Oper) : Oper := { o with after := o.after.map fun e => { e with on := π.idxOf e.on }, guard := o.guard.map fun g => (π.idxOf g.1, g.2) }
def permOps (π : List Nat) (ops : List Oper) : List Oper := π.map fun i => permOp π (ops.getD i default)
def permB (π : List Nat) (ops : List Oper) : Bool :=
 (π.length == ops.length && ((List.range ops.length).all (fun i => decide (π.idxOf i < ops.length) && π.getD (π.idxOf i) ops.length == i) && (List.range ops.length).all (fun j => decide (π.getD j ops.length < ops.length) && π.idxOf (π.getD j ops.length) == j))) &&
 ops.all fun o => o.after.all (fun e => decide (e.on < ops.length)) && (match o.guard with | some g => decide (g.1 < ops.length) | none => true)
section
variable {π : List Nat} {ops : List Oper} (h : permB π ops = true)
include h
end
end Go.PV

/-
 A walk over pure values: a region in whatever order, every order walked.
 Conditions: none.
-/
namespace Go.PV
variable {P : Program} {N : Nat}
def freeAt (ops : Array Oper) (listed : Array Bool) : Option Nat := (Region.ready .any ops listed).find? fun k => match ops[k]? with
 | some o => plainO o && (Region.noSelect ops && Region.free .any ops listed k)
 | none => false
def pvT (P : Program) (ops : Array Oper) (K : St → Prop) : Nat → Array Bool → St → Prop
 | 0, listed, σ => Region.ready .any ops listed = [] ∧ K σ
 | f + 1, listed, σ => match freeAt ops listed with
  | some k => ∃ o, ops[k]? = some o ∧ o.guard = none ∧ pvOpF P o σ fun σ' => pvT P ops K f (listed.setIfInBounds k true) σ'
  | none => (Region.ready .any ops listed = [] → K σ) ∧ ∀ i ∈ Region.ready .any ops listed, ∃ o, ops[i]? = some o ∧ o.guard = none ∧ pvOpF P o σ fun σ' => pvT P ops K f (listed.setIfInBounds i true) σ'
def xTl (step : Nat → Option (List LS × List Prop)) : List Nat → Option (List LS × List Prop)
 | [] => some ([], [])
 | i :: l => match step i, xTl step l with
  | some (a, b), some (c, d) => some (a ++ c, b ++ d)
  | _, _ => none
def xT (P : Program) (ops : Array Oper) (hs : List (Nat × HH)) (l1 : LS) : Nat → Array Bool → St → Option (List LS × List Prop)
 | 0, listed, σ => (match Region.ready .any ops listed with
  | [] => some ([readL σ l1], [])
  | _ => none)
 | f + 1, listed, σ =>
  let go := fun k => match ops[k]? with
   | some o => if o.guard.isNone = true then (match xOpF P o σ (hintAt hs k) with
    | some (σ1, o2) => (match xT P ops hs l1 f (listed.setIfInBounds k true) (xFix σ1 (hintAt hs k)).1 with
     | some (ls, o3) => some (ls, o2 ++ ((xFix σ1 (hintAt hs k)).2 ++ o3))
     | none => none)
    | none => none) else none
   | none => none
  match freeAt ops listed with
  | some k => go k
  | none => (match Region.ready .any ops listed with
   | [] => some ([readL σ l1], [])
   | i :: l => xTl go (i :: l))
end Go.PV

/-
 A walk over pure values: structs of two structs of two whole numbers compared.
 Conditions: none.
-/
namespace Go.PV
variable {P : Program}
theorem ydm1 {t : TypeId} {f g : Field} {k : IntKind} {x1 x2 y1 y2 : Int} (d : Nat) (w : World) (hu : P.underlying t = some (.struct #[f, g])) (hs : P.stoodInHeld t = false)
  (hf : P.underlying f.type = some (.int k)) (hg : P.underlying g.type = some (.int k)) (n1 : (f.name != "_") = true) (n2 : (g.name != "_") = true) (o1 : f.offset = 0) (o2 : g.offset = 1) :
  (Op.equalIn (d + 2) t (.agg #[.int k x1, .int k x2]) (.agg #[.int k y1, .int k y2])).run P w = .ok ((x1 == y1) && (x2 == y2)) w := by
 have hfs : P.fieldsOf t = #[f, g] := by simp [Program.fieldsOf, hu]
 rw [run_equalIn_struct w (d + 1) t _ _ (by rw [hfs]; exact hu) hs, hfs]
 have e1 : f.name ≠ "_" := by simpa using n1
 have e2 : g.name ≠ "_" := by simpa using n2
 have p : ∀ (h : Field) (cs : Array Value) (v : Value), P.underlying h.type = some (.int k) → cs[h.offset]? = some v → (part h.type cs h.offset).run P w = .ok v w := fun h cs v h1 h2 => by
  simp [part, isAgg, run_underlying h1, h2]
 simp only [Op.eqFields, e1, e2, ne_eq, not_false_eq_true, if_true, Sem.run_bind]
 rw [p f _ (.int k x1) hf (by simp [o1])]
 simp only [Result.andThen_ok]
 rw [p f _ (.int k y1) hf (by simp [o1])]
 simp only [Result.andThen_ok]
 rw [run_equalIn_int w d f.type k k x1 y1 hf]
 simp only [Result.andThen_ok]
 cases h : (x1 == y1)
 ·simp
 simp only [Bool.not_true, Bool.false_eq_true, if_false, Sem.run_bind]
 rw [p g _ (.int k x2) hg (by simp [o2])]
 simp only [Result.andThen_ok]
 rw [p g _ (.int k y2) hg (by simp [o2])]
 simp only [Result.andThen_ok]
 rw [run_equalIn_int w d g.type k k x2 y2 hg]
 simp only [Result.andThen_ok]
 cases h' : (x2 == y2) <;> simp
def twoS (P : Program) (t : TypeId) (k : IntKind) : Bool :=
 match P.underlying t, P.info? t with
 | some (.struct fs), some i => i.size == 2 && !P.stoodInHeld t && (match fs.toList with
  | [f, g] => (f.name != "_") && (g.name != "_") && f.offset == 0 && g.offset == 1 && (match P.underlying f.type, P.underlying g.type with
   | some (.int k1), some (.int k2) => k1 == k && k2 == k
   | _, _ => false)
  | _ => false)
 | _, _ => false
theorem yok1 {t : TypeId} {k : IntKind} (h : twoS P t k = true) : (∃ fs i, P.underlying t = some (.struct fs) ∧ P.info? t = some i ∧ i.size = 2) ∧
  ∀ (d : Nat) (x1 x2 y1 y2 : Int) (w : World), (Op.equalIn (d + 2) t (.agg #[.int k x1, .int k x2]) (.agg #[.int k y1, .int k y2])).run P w = .ok ((x1 == y1) && (x2 == y2)) w := by
 unfold twoS at h
 cases hu : P.underlying t with
 | none => rw [hu] at h; cases h
 | some d =>
  cases hi : P.info? t with
  | none => rw [hu, hi] at h; cases d <;> cases h
  | some i =>
   rw [hu, hi] at h; cases d with
   | struct fs =>
    obtain ⟨l⟩ := fs; match l with
    | [f, g] =>
     dsimp only at h
     cases h1 : P.underlying f.type with
     | none => rw [h1] at h; simp at h
     | some d1 =>
      cases h2 : P.underlying g.type with
      | none => rw [h1, h2] at h; cases d1 <;> simp at h
      | some d2 =>
       rw [h1, h2] at h; cases d1 <;> first | (simp at h; done) | skip
       cases d2 <;> first | (simp at h; done) | skip
       simp only [Bool.and_eq_true, Bool.not_eq_true', beq_iff_eq] at h; obtain ⟨⟨a0, a1⟩, ⟨⟨⟨a2, a3⟩, a4⟩, a5⟩, a6, a7⟩ := h; subst a6; subst a7; exact ⟨⟨_, i, rfl, rfl, a0⟩, fun d x1 x2 y1 y2 w => ydm1 d w hu a1 h1 h2 a2 a3 a4 a5⟩
    | [] => simp at h
    | [_] => simp at h
    | _ :: _ :: _ :: _ => simp at h
   | _ => cases h
def four (P : Program) (t : TypeId) (k : IntKind) : Bool :=
 match P.underlying t with
 | some (.struct fs) => !P.stoodInHeld t && !P.eqGuardType P.depth t && (match fs.toList with
  | [f, g] => (f.name != "_") && (g.name != "_") && f.offset == 0 && g.offset == 2 && twoS P f.type k && twoS P g.type k
  | _ => false)
 | _ => false
theorem ykp1 {t : TypeId} {f g : Field} {k : IntKind} {x1 x2 x3 x4 y1 y2 y3 y4 : Int} (w : World) (hu : P.underlying t = some (.struct #[f, g])) (hs : P.stoodInHeld t = false)
  (hf : twoS P f.type k = true) (hg : twoS P g.type k = true) (n1 : (f.name != "_") = true) (n2 : (g.name != "_") = true) (o1 : f.offset = 0) (o2 : g.offset = 2) :
  (Op.equalIn 10000 t (.agg #[.int k x1, .int k x2, .int k x3, .int k x4]) (.agg #[.int k y1, .int k y2, .int k y3, .int k y4])).run P w = .ok (((x1 == y1) && (x2 == y2)) && ((x3 == y3) && (x4 == y4))) w := by
 have hfs : P.fieldsOf t = #[f, g] := by simp [Program.fieldsOf, hu]
 rw [run_equalIn_struct w 9999 t _ _ (by rw [hfs]; exact hu) hs, hfs]
 have e1 : f.name ≠ "_" := by simpa using n1
 have e2 : g.name ≠ "_" := by simpa using n2
 obtain ⟨⟨fs1, i1, u1, j1, s1⟩, q1⟩ := yok1 hf
 obtain ⟨⟨fs2, i2, u2, j2, s2⟩, q2⟩ := yok1 hg
 have p1 : ∀ (z1 z2 z3 z4 : Int), (part f.type #[.int k z1, .int k z2, .int k z3, .int k z4] f.offset).run P w = .ok (.agg #[.int k z1, .int k z2]) w := fun z1 z2 z3 z4 => by
  simp [part, isAgg, run_underlying u1, Sem.run_bind, sizeOf, typeInfo, j1, s1, o1]
 have p2 : ∀ (z1 z2 z3 z4 : Int), (part g.type #[.int k z1, .int k z2, .int k z3, .int k z4] g.offset).run P w = .ok (.agg #[.int k z3, .int k z4]) w := fun z1 z2 z3 z4 => by
  simp [part, isAgg, run_underlying u2, Sem.run_bind, sizeOf, typeInfo, j2, s2, o2]
 simp only [Op.eqFields, e1, e2, ne_eq, not_false_eq_true, if_true, Sem.run_bind]
 rw [p1]
 simp only [Result.andThen_ok]
 rw [p1]
 simp only [Result.andThen_ok]
 rw [q1 9997 x1 x2 y1 y2 w]
 simp only [Result.andThen_ok]
 cases h : ((x1 == y1) && (x2 == y2))
 ·simp
 simp only [Bool.not_true, Bool.false_eq_true, if_false, Sem.run_bind]
 rw [p2]
 simp only [Result.andThen_ok]
 rw [p2]
 simp only [Result.andThen_ok]
 rw [q2 9997 x3 x4 y3 y4 w]
 simp only [Result.andThen_ok]
 cases h' : ((x3 == y3) && (x4 == y4)) <;> simp
theorem ylp1 {t : TypeId} {k : IntKind} {x1 x2 x3 x4 y1 y2 y3 y4 : Int} (h : four P t k = true) (w : World) :
  (Op.equalIn 10000 t (.agg #[.int k x1, .int k x2, .int k x3, .int k x4]) (.agg #[.int k y1, .int k y2, .int k y3, .int k y4])).run P w = .ok (((x1 == y1) && (x2 == y2)) && ((x3 == y3) && (x4 == y4))) w ∧ P.eqGuardType P.depth t = false := by
 unfold four at h
 cases hu : P.underlying t with
 | none => rw [hu] at h; cases h
 | some d =>
  rw [hu] at h; cases d with
  | struct fs =>
   obtain ⟨l⟩ := fs; match l with
   | [f, g] =>
    simp only [Bool.and_eq_true, Bool.not_eq_true', beq_iff_eq] at h; obtain ⟨⟨a1, a8⟩, ⟨⟨⟨⟨a2, a3⟩, a4⟩, a5⟩, a6⟩, a7⟩ := h; exact ⟨ykp1 w hu a1 a6 a7 a2 a3 a4 a5, a8⟩
   | [] => simp at h
   | [_] => simp at h
   | _ :: _ :: _ :: _ => simp at h
  | _ => cases h
theorem yad1 {t t2 : TypeId} {a b : Operand} {k : IntKind} {x1 x2 x3 x4 y1 y2 y3 y4 : Int} (h : four P t k = true) : PureAt P (.binOp .neq t a b t2) [.agg #[.int k x1, .int k x2, .int k x3, .int k x4], .agg #[.int k y1, .int k y2, .int k y3, .int k y4]] (.bool (!(((x1 == y1) && (x2 == y2)) && ((x3 == y3) && (x4 == y4))))) := by
 intro ρ o ho hv w
 have hv : ρ a = .agg #[.int k x1, .int k x2, .int k x3, .int k x4] ∧ ρ b = .agg #[.int k y1, .int k y2, .int k y3, .int k y4] := by simpa [Op.operands] using hv
 obtain ⟨h1, h2⟩ := ylp1 (x1 := x1) (x2 := x2) (y1 := y1) (y2 := y2) (x3 := x3) (x4 := x4) (y3 := y3) (y4 := y4) h w
 simp only [execOp, ho, hv.1, hv.2, Sem.run_bind]
 rw [run_eqGuard_agg w _ t a b _ _ h2]
 simp only [Result.andThen_ok]
 rw [run_neq_struct w, h1]
 rfl
end Go.PV

/-
 A walk over pure values: the rules once more, with what the kernel reckons left out.
 Conditions: none.
-/
namespace Go.PV
variable {P : Program} {N : Nat}
theorem A1 {a : Prop} (x : a) : a ∧ True := ⟨x, trivial⟩
theorem A2 {a b : Prop} (x : a) (y : b) : a ∧ b ∧ True := ⟨x, y, trivial⟩
theorem A3 {a b c : Prop} (x : a) (y : b) (z : c) : a ∧ b ∧ c ∧ True := ⟨x, y, z, trivial⟩
theorem A4 {a b c d : Prop} (x : a) (y : b) (z : c) (u : d) : a ∧ b ∧ c ∧ d ∧ True := ⟨x, y, z, u, trivial⟩
theorem A5 {a b c d e : Prop} (x : a) (y : b) (z : c) (u : d) (v : e) : a ∧ b ∧ c ∧ d ∧ e ∧ True := ⟨x, y, z, u, v, trivial⟩
theorem A6 {a b c d e f : Prop} (x : a) (y : b) (z : c) (u : d) (v : e) (w : f) : a ∧ b ∧ c ∧ d ∧ e ∧ f ∧ True := ⟨x, y, z, u, v, w, trivial⟩
theorem B6 {a b c d e f g : Prop} (x : a) (y : b) (z : c) (u : d) (v : e) (w : f) (t : g) : a ∧ b ∧ c ∧ d ∧ e ∧ f ∧ g := ⟨x, y, z, u, v, w, t⟩
theorem r_gq {id : Nat} {ops : List Oper} {l0 : LS} {Q : Prop} (l1 : LS) (hs : List (Nat × HH)) (ho : Q) (e : (xGo P ops hs l0 l1).map (fun p => (p.1, allP p.2)) = some (l1, Q) := by kernel_rfl) : RegOk P N (.region id ops.toArray false) l0 l1 := by
 cases hx : xGo P ops hs l0 l1 with
 | none => rw [hx] at e; cases e
 | some p =>
  rw [hx] at e; simp only [Option.map_some, Option.some.injEq, Prod.mk.injEq] at e; obtain ⟨e1, e2⟩ := e; exact r_go l1 hs p.2 (by rw [hx, ← e1]) (by rw [e2]; exact ho)
theorem r_dq {id : Nat} {ops : List Oper} {l0 : LS} {Q : Prop} (hm : P.follows .mixedOrders = true) (n : Nat) (T : List (Nat × Nat)) (l1 : LS) (hs : List (Nat × HH)) (ho : Q) (e : (xGoD P n T ops hs l0 l1).map (fun p => (p.1, allP p.2)) = some (l1, Q) := by kernel_rfl) : RegOk P N (.region id ops.toArray true) l0 l1 := by
 cases hx : xGoD P n T ops hs l0 l1 with
 | none => rw [hx] at e; cases e
 | some p =>
  rw [hx] at e; simp only [Option.map_some, Option.some.injEq, Prod.mk.injEq] at e; obtain ⟨e1, e2⟩ := e; exact ysr1 hm n T l1 hs p.2 (by rw [hx, ← e1]) (by rw [e2]; exact ho)
theorem kc {c : Operand} (b : Bool) {x y : Code} {l : LS} {Q : Ex → LS → Prop} (h1 : b = true → OkL P N x l Q) (h2 : b = false → OkL P N y l Q) (hc : evS (ofL l) c = .p (.bool b) := by kernel_rfl) : OkL P N (.cond c x y) l Q := yqr1 hc h1 h2
theorem er {fn : Func} {args : List Arg} {vals : List RV} {l : LS} (ls : List (RV × Nat)) (h1 : retVs P (ofL l) fn.results.toList = some ls := by kernel_rfl) (h2 : ovOk ls = true := by rfl) (h3 : ls.map (·.1) = vals := by kernel_rfl) (h4 : outsOf (ofL l) ((List.range args.length).zip args) = some [] := by rfl) : endL P fn args { vals := vals } .ret l := yys1 h1 h2 h3 h4
theorem ebr {fn : Func} {vals : List RV} {x' : SV} {l : LS} (ls : List (RV × Nat)) (h1 : retVs P (ofL l) fn.results.toList = some ls := by kernel_rfl) (h2 : ovOk ls = true := by rfl) (h0 : (ls.all fun y => !isOvR y.1 || y.2 != 0) = true := by rfl) (h3 : ls.map (·.1) = vals := by kernel_rfl) (h4 : ofL l 0 = x' := by kernel_rfl) : endLB P fn vals x' .ret l := ytr1 h1 h2 h0 h3 h4
theorem lqn {X Y : Type} {o : X ⊕ Y} {J : X → LS} {Q : Ex → LS → Prop} {l : LS} (x' : X) (h : some (Sum.inl x') = some o) (h1 : refsOk (J x') = true := by kernel_rfl) (h2 : readL (ofL l) (J x') = J x' := by kernel_rfl) : loopQ o J Q .normal l := lq_n x' (Option.some.inj h).symm (ybp1 h1 h2)
theorem jx {X : Type} {K : X → Prop} {J : X → LS} {l : LS} (x : X) (h : K x) (h1 : refsOk (J x) = true := by kernel_rfl) (h2 : readL (ofL l) (J x) = J x := by kernel_rfl) : ∃ x, K x ∧ wk l (J x) := ⟨x, h, ybp1 h1 h2⟩
theorem mo {f : FuncId} {fn : Func} {c : Code} {args : List Arg} {res : Res} (hf : P.funcs[f]? = some fn) (l0 : LS) (h : OkL P fn.ntmps c l0 (endL P fn args res)) (hb : fn.body = some c := by rfl) (hc : callable P f = true := by kernel_rfl)
  (hN : (decide (args.length ≤ fn.ntmps) && codeB 0 fn.ntmps c && args.all notPtrA) = true := by kernel_rfl) (hl0 : (List.range args.length).zip (args.map argSV) = l0 := by kernel_rfl) : Meets P f args res := yxi1 hc hf hb hN hl0 h
theorem mob {f : FuncId} {fn : Func} {c : Code} {x x' : SV} {args : List Arg} {vals : List RV} (hf : P.funcs[f]? = some fn) (l0 : LS) (h : OkL P fn.ntmps c l0 (endLB P fn vals x')) (hb : fn.body = some c := by rfl) (hc : callable P f = true := by kernel_rfl)
  (hN : (decide (args.length + 1 ≤ fn.ntmps) && codeB 1 fn.ntmps c && args.all notPtrA) = true := by kernel_rfl) (hx' : (isOwnR x' || match (generalizing := false) x' with | .u => true | _ => false) = true := by kernel_rfl) (hl0 : (List.range (args.length + 1)).zip (x :: args.map argSV) = l0 := by kernel_rfl) : MeetsB P f x args vals x' := yyf1 hc hf hb hN hx' hl0 h
theorem bs {α β : Type} {o : Option α} {f : α → Option β} {r : β} (h : o.bind f = some r) : ∃ x, o = some x ∧ f x = some r := Option.bind_eq_some_iff.1 h
theorem oi {α : Type} {a b : α} (h : some a = some b) : a = b := Option.some.inj h
theorem ft (b : Bool) : b = true ∨ b = false := Bool.eq_false_or_eq_true b
abbrev rI (n : Int) : C := .raw (.int .i64 n)
abbrev iV (n : Int) : Value := .int .i64 n
abbrev wI (n : Int) : Arg := .v (.int .i64 n)
abbrev Cu := List Int × Int × Int
abbrev eCu : Cu → List C := eP (eF (eU .u8)) (eP eI (eU .u64))
abbrev Qr := Int × Int
abbrev Qp := Qr × Qr
abbrev eRt : Qr → List C := eP eI eI
abbrev ePt : Qp → List C := eP eRt eRt
abbrev vRt (x : Qr) : Value := .agg #[.int .i64 x.1, .int .i64 x.2]
abbrev vPt (x : Qp) : Value := .agg #[.int .i64 x.1.1, .int .i64 x.1.2, .int .i64 x.2.1, .int .i64 x.2.2]
abbrev gT : HH := { g := some true }
abbrev gF : HH := { g := some false }
abbrev bT : HH := { b := some true }
abbrev bF : HH := { b := some false }
end Go.PV

/-
 A walk over pure values: decimal numerals.
 Conditions: none.
-/
set_option linter.all false
namespace Go.PV
def itoaB (n : Int) : ByteArray := ⟨(Lib.itoa n).toArray⟩
def byteB (z : Int) : ByteArray := ⟨[UInt8.ofNat (Int.toNat z)].toArray⟩
theorem ymp1 (z : Int) : (((UInt8.ofNat (Int.toNat (IntKind.wrap .u8 z))).toNat : Nat) : Int) = IntKind.wrap .u8 z := by
 have h : IntKind.wrap .u8 z = z % 256 := by simp [IntKind.wrap, IntKind.bits, IntKind.signed]
 rw [h]
 have h0 := Int.emod_nonneg z (show (256 : Int) ≠ 0 by omega)
 have h1 := Int.emod_lt_of_pos z (show (0 : Int) < 256 by omega)
 have h2 : (UInt8.ofNat (Int.toNat (z % 256))).toNat = Int.toNat (z % 256) % 256 := by simp
 rw [h2]
 omega
theorem bts1 {z : Int} : [UInt8.ofNat (Int.toNat (IntKind.wrap .u8 z))] ≠ [] ∧ [[C.raw (.int .u8 (IntKind.wrap .u8 z))]] = [UInt8.ofNat (Int.toNat (IntKind.wrap .u8 z))].map fun c => [C.raw (.int .u8 (c.toNat : Int))] := by
 refine ⟨by simp, ?_⟩
 simp only [List.map_cons, List.map_nil, ymp1]
theorem yem1 : tab10 = Lib.pow10Tab := by decide
theorem ygg1 {P : Program} {f : FuncId} {n : Int} (hc : callable P f = true) (hg' : (P.globalNamed "internal/strconv.uint64pow10").isSome = true)
  (h : ∀ w : World, Lib.TabIs P w "internal/strconv.uint64pow10" .u64 Lib.pow10Tab → Calls P f #[.int .i64 n] w fun e w' => e = .returned (.string ⟨(Lib.itoa n).toArray⟩) ∧ ∃ k os, w' = Sort.grow (w.drewN k) os) :
  Meets P f [.v (.int .i64 n)] { vals := [.p (.string (itoaB n))] } := by
 obtain ⟨g, hg⟩ := Option.isSome_iff_exists.1 hg'
 refine ⟨hc, fun w A vals ⟨hA, hT⟩ hargs => ?_⟩
 obtain ⟨ht1, t, fr, ht2⟩ := hT.1 g hg
 have htab : Lib.TabIs P w "internal/strconv.uint64pow10" .u64 Lib.pow10Tab := by
  unfold Lib.TabIs World.var?
  rw [← yem1]; simp [hg, ht2]
 obtain ⟨l⟩ := vals
 cases l with
 | nil => exact hargs.elim
 | cons x l =>
  cases l with
  | cons y l => exact hargs.2.elim
  | nil =>
   obtain rfl : x = .int .i64 n := hargs.1
   refine (h w htab).mono ?_
   rintro e w' ⟨rfl, k, os, rfl⟩
   refine ⟨_, fun _ => none, rfl, ⟨⟨rfl, rfl, rfl, ?_, ?_⟩, fun _ _ _ h => (by cases h), fun _ _ h => (by cases h), rfl⟩⟩
   ·show w.heap.size ≤ (w.heap ++ os).size
    rw [Array.size_append]; omega
   intro b hb _; show (w.heap ++ os)[b]? = w.heap[b]?
   exact Array.getElem?_append_left hb
theorem ynb1 {P : Program} {W : World} {rest : List (String × DataW Unit)} {g : Nat} {t e : TypeId} {n : Nat}
  (hg : P.globalNamed "internal/strconv.uint64pow10" = some g) (hty : (P.globals[g]?).map (·.type) = some t) (ht : P.underlying t = some (.array n e)) (he : P.underlying e = some (.int .u64)) (hce : P.cellsOf e = 1 ∧ P.cellsOf t = n)
  (h : laidMet P (("internal/strconv.uint64pow10", Lib.tabData .u64 tab10) :: rest) W) (hv : ∀ n ∈ varNames, ∀ g, P.globalNamed n = some g → g < W.heap.size ∧ ∃ v, W.cell? ⟨g, 0, none⟩ = some v ∧ varOk n v) : Tabs P (fun b => b < W.heap.size) W := by
 have hT := Lib.tabIs_of_head hg hty ht he hce.1 hce.2 h
 refine ⟨?_, hv⟩
 intro g' hg'
 obtain rfl := Option.some.inj (hg.symm.trans hg')
 unfold Lib.TabIs World.var? at hT
 rw [hg, Option.bind_some] at hT
 cases hc : W.heap[g]? with
 | none => rw [hc] at hT; cases hT
 | some o =>
  rw [hc] at hT; cases o with
  | cells cs t f =>
   simp only [Option.some.injEq] at hT; subst hT; refine ⟨?_, t, f, rfl⟩
   refine Classical.byContradiction fun hno => ?_
   rw [Array.getElem?_eq_none (by omega)] at hc; cases hc
  | _ => cases hT
end Go.PV

/-
 A walk over pure values: letters and parts of strings.
 Conditions: none.
-/
set_option linter.all false
namespace Go.PV
variable {P : Program}
def strAt (s : ByteArray) (i : Int) : Int := if h : 0 ≤ i ∧ i < s.size then ((s[i.toNat]'(by omega)).toNat : Int) else 0
def strCut (s : ByteArray) (i j : Int) : ByteArray := s.extract i.toNat j.toNat
theorem yok {t : TypeId} {a b : Operand} {k : IntKind} {s : ByteArray} {i : Int} (ht : P.underlying t = some .string) (h : 0 ≤ i ∧ i < s.size) : PureAt P (.index t a b) [.string s, .int k i] (.int .u8 (strAt s i)) := by
 intro ρ o ho hv w
 have hv : ρ a = .string s ∧ ρ b = .int k i := by simpa [Op.operands] using hv
 simp only [execOp, ho, hv.1, hv.2]
 simp [run_index_string w t s k i ht, h, strAt]
theorem ybj1 {t : TypeId} {a b c : Operand} {k k' : IntKind} {s : ByteArray} {i j : Int} (ht : P.underlying t = some .string) (h : 0 ≤ i ∧ i ≤ j ∧ j ≤ s.size) : PureAt P (.slice t a (some b) (some c) none) [.string s, .int k i, .int k' j] (.string (strCut s i j)) := by
 intro ρ o ho hv w
 have hv : ρ a = .string s ∧ ρ b = .int k i ∧ ρ c = .int k' j := by simpa [Op.operands] using hv
 simp only [execOp, ho, hv.1, hv.2.1, hv.2.2, Option.map_some, Option.map_none]
 simp [run_sliceAt_string w t _ _ _ _ ht, run_slice_string w t s k k' i j ht h.1 h.2.1 h.2.2, strCut]
theorem yro {t : TypeId} {a b : Operand} {k : IntKind} {s : ByteArray} {i : Int} (ht : P.underlying t = some .string) (h : 0 ≤ i ∧ i ≤ s.size) : PureAt P (.slice t a (some b) none none) [.string s, .int k i] (.string (strCut s i s.size)) := by
 intro ρ o ho hv w
 have hv : ρ a = .string s ∧ ρ b = .int k i := by simpa [Op.operands] using hv
 simp only [execOp, ho, hv.1, hv.2, Option.map_some, Option.map_none]
 simp [run_sliceAt_string w t _ _ _ _ ht, run_slice_string_l w t s ht k i h.1 h.2, strCut]
theorem yob1 {t : TypeId} {a b : Operand} {k : IntKind} {s : ByteArray} {j : Int} (ht : P.underlying t = some .string) (h : 0 ≤ j ∧ j ≤ s.size) : PureAt P (.slice t a none (some b) none) [.string s, .int k j] (.string (strCut s 0 j)) := by
 intro ρ o ho hv w
 have hv : ρ a = .string s ∧ ρ b = .int k j := by simpa [Op.operands] using hv
 simp only [execOp, ho, hv.1, hv.2, Option.map_some, Option.map_none]
 simp [run_sliceAt_string w t _ _ _ _ ht, run_slice_string_h w t s ht k j h.1 h.2, strCut]
def bytesL (b : ByteArray) : List Int := b.data.toList.map fun c => (c.toNat : Int)
theorem ynp1 (xs : List Int) (b : ByteArray) : xs.map (eU .u8) ++ bytesR b = (xs ++ bytesL b).map (eU .u8) := by
 rw [List.map_append]
 congr 1
 unfold bytesR bytesL
 rw [List.map_map]
 rfl
theorem yhg1 (s : ByteArray) (i : Int) : (((UInt8.ofNat (Int.toNat (strAt s i))).toNat : Nat) : Int) = strAt s i := by
 unfold strAt
 split
 ·simp
 rfl
theorem yur1 {s : ByteArray} {i : Int} : [UInt8.ofNat (Int.toNat (strAt s i))] ≠ [] ∧ [[C.raw (.int .u8 (strAt s i))]] = [UInt8.ofNat (Int.toNat (strAt s i))].map fun c => [C.raw (.int .u8 (c.toNat : Int))] := by
 refine ⟨by simp, ?_⟩
 simp only [List.map_cons, List.map_nil, yhg1]
end Go.PV

/-
 A walk over pure values: strings.Builder: the check that it has not been copied.
 Conditions: none.
-/
set_option linter.all false
namespace Go.PV
variable {P : Program}
theorem yfw {f : FuncId} {T : TypeId} {c : C} (hc : callable P f = true)
  (used : ∀ (b : Nat) (w : World), w.cell? ⟨b, 0, none⟩ = some (.pointer (some ⟨b, 0, none⟩)) → Calls P f #[.pointer (some ⟨b, 0, none⟩)] w fun e w' => e = .returned (.tuple #[]) ∧ w' = w)
  (fresh : ∀ (b : Nat) (w : World), w.cell? ⟨b, 0, none⟩ = some (.pointer none) → w.shape? b = some (T, 2) → w.frozen? ⟨b, 0, none⟩ = false → Calls P f #[.pointer (some ⟨b, 0, none⟩)] w fun e w' => e = .returned (.tuple #[]) ∧ w' = w.setCell ⟨b, 0, none⟩ (.pointer (some ⟨b, 0, none⟩))) :
  MeetsB P f (.box [.bp T, c]) [] [] (.box [.bp T, c]) := by
 refine ⟨hc, fun w A L0 v0 vs ⟨hA, hT⟩ hL hinj hlent hargs => ?_⟩
 have hvs : vs = [] := by
  cases vs with
  | nil => rfl
  | cons v vs => exact hargs.elim
 subst hvs
 obtain ⟨b, rfl, hb, arr, e, hheap, hsz, hcells⟩ := hlent
 obtain ⟨h0, hcl⟩ := hcells 0 (.bp T) rfl
 obtain ⟨rfl, hp⟩ := hcl T rfl
 obtain ⟨h1, hc1⟩ := hcells 1 c rfl
 have hs2 : arr.size = 2 := hsz
 have hbl : b < w.heap.size := (hL b _ hb).1
 have hc0 : w.cell? ⟨b, 0, none⟩ = some (arr.getD 0 undef) := by
  simp [World.cell?, hheap, hs2]
 have hZ : ∀ b', A b' → (fun b => L0 b = none ∧ b < w.heap.size ∧ ((A b ∨ L0 b ≠ none) ∨ w.heap.size ≤ b)) b' := fun b' h => ⟨(hA b' h).2, (hA b' h).1, .inl (.inl h)⟩
 rcases hp with hp | hp
 ·-- it was nil
  rw [hp] at hc0; have hsh : w.shape? b = some (e, 2) := by simp [World.shape?, hheap, hs2]
  have hfz : w.frozen? ⟨b, 0, none⟩ = false := by simp [World.frozen?, hheap]
  refine (fresh b w hc0 hsh hfz).mono ?_
  rintro ee w' ⟨rfl, rfl⟩
  have hat : (w.setCell ⟨b, 0, none⟩ (.pointer (some ⟨b, 0, none⟩))).heap[b]? = some (.cells (arr.setIfInBounds 0 (.pointer (some ⟨b, 0, none⟩))) e (0, 0)) := by
   simp [World.setCell, Array.getElem?_modify, hheap]
  have hoth : ∀ b', b' ≠ b → (w.setCell ⟨b, 0, none⟩ (.pointer (some ⟨b, 0, none⟩))).heap[b']? = w.heap[b']? := fun b' h => by
   have : ¬ b = b' := fun h' => h h'.symm
   simp [World.setCell, Array.getElem?_modify, this]
  have hsize : (w.setCell ⟨b, 0, none⟩ (.pointer (some ⟨b, 0, none⟩))).heap.size = w.heap.size := by simp [World.setCell]
  refine ⟨_, L0, rfl, ⟨⟨rfl, rfl, rfl, by rw [hsize]; exact Nat.le_refl _, fun b' _ hn => hoth b' fun hbb => hn (by subst hbb; show L0 b' ≠ none; rw [hb]; simp)⟩, hinj, fun b' l h => ⟨by rw [hsize]; exact (hL b' l h).1, .inr (by show L0 b' ≠ none; rw [h]; simp)⟩, ⟨#[], rfl, rfl, fun j r h => (by simp at h)⟩, b, rfl, hb, _, e, hat, by rw [Array.size_setIfInBounds]; exact hsz, fun j c' hj => ?_⟩⟩
  have hZ' : ∀ b', A b' → (L0 b' = none ∧ b' < (w.setCell ⟨b, 0, none⟩ (.pointer (some ⟨b, 0, none⟩))).heap.size ∧ ((A b' ∨ L0 b' ≠ none) ∨ w.heap.size ≤ b')) ∧ (w.setCell ⟨b, 0, none⟩ (.pointer (some ⟨b, 0, none⟩))).heap[b']? = w.heap[b']? := fun b' h =>
   ⟨⟨(hA b' h).2, by rw [hsize]; exact (hA b' h).1, .inl (.inl h)⟩, hoth b' fun hbb => by subst hbb; rw [(hA b' h).2] at hb; cases hb⟩
  obtain ⟨g1, g2⟩ := hcells j c' hj
  match j, hj with
  | 0, hj =>
   simp only [List.getElem?_cons_zero, Option.some.injEq] at hj; subst hj; have hv : (arr.setIfInBounds 0 (.pointer (some ⟨b, 0, none⟩))).getD 0 undef = .pointer (some ⟨b, 0, none⟩) := by
    simp [hs2]
   rw [hv]; exact ⟨.frz (.bp rfl), fun t ht => ⟨(g2 t ht).1, .inr rfl⟩⟩
  | 1, hj =>
   have hv : (arr.setIfInBounds 0 (.pointer (some ⟨b, 0, none⟩))).getD 1 undef = arr.getD 1 undef := by
    simp [Array.getD_eq_getD_getElem?, Array.getElem?_setIfInBounds]
   rw [hv]; refine ⟨g1.move _ hZ' fun b' q h => ⟨h, hoth b' fun hbb => ?_⟩, fun t ht => ?_⟩
   ·subst hbb
    rw [hb] at h; simp at h
   obtain ⟨x1, x2⟩ := g2 t ht; exact ⟨x1, x2⟩
  | j + 2, hj => simp at hj
 rw [hp] at hc0
 refine (used b w hc0).mono ?_
 rintro ee w' ⟨rfl, rfl⟩
 refine ⟨_, L0, rfl, ⟨⟨rfl, rfl, rfl, Nat.le_refl _, fun _ _ _ => rfl⟩, hinj, fun b' l h => ⟨(hL b' l h).1, .inr (by show L0 b' ≠ none; rw [h]; simp)⟩, ⟨#[], rfl, rfl, fun j r h => (by simp at h)⟩, b, rfl, hb, arr, e, hheap, hsz, fun j c' hj => ?_⟩⟩
 obtain ⟨g1, g2⟩ := hcells j c' hj
 exact ⟨g1.move _ (fun b' h => ⟨hZ b' h, rfl⟩) fun b' q h => ⟨h, rfl⟩, g2⟩
def eBp (t : TypeId) : Unit → List C := fun _ => [.bp t]
def bytesB (xs : List Int) : ByteArray := ⟨(xs.map fun z => UInt8.ofNat (Int.toNat z)).toArray⟩
def bytesOk (xs : List Int) : Bool := xs.all fun x => decide (0 ≤ x) && decide (x ≤ 255)
theorem yig1 {xs : List Int} (h : bytesOk xs = true) : xs.map (eU .u8) = (xs.map fun z => UInt8.ofNat (Int.toNat z)).map fun c => [C.raw (.int .u8 (c.toNat : Int))] := by
 rw [List.map_map]
 refine List.map_congr_left fun x hx => ?_
 unfold bytesOk at h
 have := List.all_eq_true.1 h x hx
 simp only [Bool.and_eq_true, decide_eq_true_eq] at this
 have h2 : (UInt8.ofNat (Int.toNat x)).toNat = Int.toNat x % 256 := by simp
 show eU .u8 x = [C.raw (.int .u8 (((UInt8.ofNat (Int.toNat x)).toNat : Nat) : Int))]
 rw [h2]
 have h3 : ((Int.toNat x % 256 : Nat) : Int) = x := by omega
 rw [h3]
 rfl
def asciiB (b : ByteArray) : Bool := b.data.toList.all fun x => decide (x.toNat < 128)
def trimB (a b : ByteArray) : ByteArray := ⟨(((a.data.toList.reverse.dropWhile (b.data.toList.contains ·)).reverse).dropWhile (b.data.toList.contains ·)).toArray⟩
def cutB (s t : ByteArray) : ByteArray × ByteArray × Bool := (⟨(Lib.cut s.data.toList t.data.toList).1.toArray⟩, ⟨(Lib.cut s.data.toList t.data.toList).2.1.toArray⟩, (Lib.cut s.data.toList t.data.toList).2.2)
def atoiV (s : ByteArray) : Int × Bool := match Lib.atoiAll s.data.toList with
 | .ok v => (v, true)
 | .range => (Lib.atoiSat s.data.toList, false)
 | _ => (0, false)
def eEr : Bool → List C := fun b => [.er b]
def oppP (q : (Int × Int) × (Int × Int)) : (Int × Int) × (Int × Int) := ((w64 (q.1.2 - q.1.1), q.1.2), (w64 (q.2.2 - q.2.1), q.2.2))
end Go.PV

/-
 A walk over pure values: strings.Builder: what it holds, as a string; the world behind the call exactly.
 Conditions: none.
-/
set_option linter.all false
namespace Go.Proofs
open Go.Shelf Go.RowKit
variable {P : Program} {ρ : Ren}
set_option maxHeartbeats 2000000 in
set_option maxRecDepth 100000 in
theorem builder_string (L : Lays.n169 P ρ) (X : Builder.Extra P ρ) (b g cap : Nat) (p : Value) (cur : Array Value) (l : List UInt8) (w : World) (h0 : l ≠ []) (hbk : w.heap[b]? = some (.cells #[p, .slice (some ⟨g, 0, none⟩) l.length cap] (ρ.t 72) (0, 0)))
  (hg : w.heap[g]? = some (.cells cur (ρ.t 5) (0, 0))) (hnc : l.length ≤ cap) (hcm : cap ≤ maxLen) (hcs : cur.size = cap * 1) (hcell : ∀ (j : Nat) (x : UInt8), l[j]? = some x → w.cell? ⟨g, 0 + j, none⟩ = some (.int .u8 x.toNat)) :
  Calls P (ρ.f 169) #[.pointer (some ⟨b, 0, none⟩)] w fun e w' => e = .returned (.string ⟨l.toArray⟩) ∧ ∃ k, w' = (w.freeze ⟨g, 0, none⟩ l.length).drewN k := by
 have hl0 : l.length ≠ 0 := by simpa using h0
 have c1 : w.drew.cell? ⟨b, 1, none⟩ = some (.slice (some ⟨g, 0, none⟩) l.length cap) := by
  have : w.drew.heap[b]? = some (.cells #[p, .slice (some ⟨g, 0, none⟩) l.length cap] (ρ.t 72) (0, 0)) := hbk
  rw [Lib.cell_of_heap this]; rfl
 have hSD : (Builtin.unsafeSliceData_ #[(ρ.t 37)] (ρ.t 127) #[.slice (some ⟨g, 0, none⟩) l.length cap]).run P w.drew = .ok (.pointer (some ⟨g, 0, none⟩)) w.drew :=
  Lib.run_unsafeSliceData_row _ _ _ _ _ _ (by omega)
 have hUS : (Builtin.unsafeString_ #[(ρ.t 127), (ρ.t 3)] (ρ.t 9) #[.pointer (some ⟨g, 0, none⟩), .int .i64 l.length]).run P w.drew = .ok (.string ⟨l.toArray⟩) (w.drew.freeze ⟨g, 0, none⟩ l.length) := by
  refine Lib.run_unsafeString_row w.drew (ρ.t 127) (ρ.t 3) (ρ.t 9) (ρ.t 5) L.t127 X.cellsByte g cur.size (by have hg' : w.drew.heap[g]? = some (.cells cur (ρ.t 5) (0, 0)) := hg; simp [World.shape?, hg']) l h0 (by omega) (by unfold maxLen at hcm; omega) ?_
  intro j x hx; have := hcell j x hx
  cases j with
  | zero => simpa [Addr.add] using this
  | succ j => simpa [Addr.add] using this
 have hfin : ∃ k, w.drew.freeze ⟨g, 0, none⟩ l.length = (w.freeze ⟨g, 0, none⟩ l.length).drewN k := ⟨1, by unfold World.freeze; rw [if_neg hl0, if_neg hl0]; rfl⟩
 have mixed := L.mixed
 have t72 := L.t72; have a72 := L.a72; have z72 := L.z72; have v72 := L.v72; have u72 := run_underlying L.t72
 have t70 := L.t70; have a70 := L.a70; have z70 := L.z70; have v70 := L.v70; have u70 := run_underlying L.t70
 have t37 := L.t37; have a37 := L.a37; have z37 := L.z37; have v37 := L.v37; have u37 := run_underlying L.t37
 have t127 := L.t127; have a127 := L.a127; have z127 := L.z127; have v127 := L.v127; have u127 := run_underlying L.t127
 have t3 := L.t3; have a3 := L.a3; have z3 := L.z3; have v3 := L.v3; have u3 := run_underlying L.t3
 have t9 := L.t9; have a9 := L.a9; have z9 := L.z9; have v9 := L.v9; have u9 := run_underlying L.t9
 have t5 := X.t5; have a5 := X.a5; have z5 := X.z5; have v5 := X.v5; have u5 := run_underlying X.t5
 go_enter L.f169, Body.n169_ntmps ρ
 go_wp2
 go_region_o
 all_goals (go_wp2; go_ret; exact ⟨rfl, hfin⟩)
end Go.Proofs
namespace Go.PV
open Go.Shelf Go.RowKit
variable {P : Program} {ρ : Ren}
theorem ytz (L : Go.Proofs.Lays.n169 P ρ) (X : Go.Proofs.Builder.Extra P ρ) {l : List UInt8} (h0 : l ≠ []) (hc : callable P (ρ.f 169) = true) (hz : esz P (ρ.t 5) = 1) :
  MeetsB P (ρ.f 169) (.box [.bp (ρ.t 72), .sl (some (ρ.t 5)) (l.map fun c => [.raw (.int .u8 (c.toNat : Int))])]) [] [.p (.string ⟨l.toArray⟩)] .u := by
 refine ⟨hc, fun w A L0 v0 vs ⟨hA, hT⟩ hL hinj hlent hargs => ?_⟩
 have hvs : vs = [] := by
  cases vs with
  | nil => rfl
  | cons v vs => exact hargs.elim
 subst hvs
 obtain ⟨b, rfl, hb, arr, e, hheap, hsz, hcells⟩ := hlent
 obtain ⟨_, hcl⟩ := hcells 0 (.bp (ρ.t 72)) rfl
 obtain ⟨rfl, hp⟩ := hcl _ rfl
 obtain ⟨h1, _⟩ := hcells 1 _ rfl
 have hs2 : arr.size = 2 := hsz
 obtain ⟨x, y, rfl⟩ : ∃ x y, arr = #[x, y] := by
  obtain ⟨la⟩ := arr; match la, hs2 with
  | [x, y], _ => exact ⟨x, y, rfl⟩
 have h1 : Rep P A L0 w 0 [(0, 1)] y (.sl (some (ρ.t 5)) (l.map fun c => [.raw (.int .u8 (c.toNat : Int))])) := h1
 generalize hrows : (l.map fun c => [C.raw (.int .u8 (c.toNat : Int))]) = rows at h1
 have hlen : rows.length = l.length := by rw [← hrows, List.length_map]
 cases h1 with
 | frz h => cases h
 | onil => rw [List.length_nil] at hlen; exact absurd (List.length_eq_zero_iff.1 hlen.symm) h0
 | @own _ g cap arr2 _ _ hl hg hn hm ha hs hr =>
  rw [hlen] at *
  rw [hz] at ha; refine (Go.Proofs.builder_string L X b g cap x arr2 l w h0 hheap hg hn hm ha fun j z hj => ?_).mono ?_
  ·have hjl : j < l.length := (List.getElem?_eq_some_iff.1 hj).1
   have hrow : rows[j]? = some [.raw (.int .u8 (z.toNat : Int))] := by rw [← hrows, List.getElem?_map, hj]; rfl
   have := (hr j _ 0 _ hrow rfl).raw_eq
   rw [hz, Nat.mul_one, Nat.add_zero] at this; have hlt : j < arr2.size := by omega
   rw [Array.getD_eq_getD_getElem?, Array.getElem?_eq_getElem hlt] at this; simp only [Option.getD_some] at this; simp [World.cell?, hg, hlt, this]
  rintro ee w' ⟨rfl, k, rfl⟩
  have hl0 : l.length ≠ 0 := by simpa using h0
  have hoth : ∀ b', b' ≠ g → ((w.freeze ⟨g, 0, none⟩ l.length).drewN k).heap[b']? = w.heap[b']? := fun b' h => by
   have : ¬ g = b' := fun h' => h h'.symm
   show (w.freeze ⟨g, 0, none⟩ l.length).heap[b']? = _
   unfold World.freeze; rw [if_neg hl0]; simp [Array.getElem?_modify, this]
  have hsize : w.heap.size = ((w.freeze ⟨g, 0, none⟩ l.length).drewN k).heap.size := by
   show w.heap.size = (w.freeze ⟨g, 0, none⟩ l.length).heap.size
   unfold World.freeze; rw [if_neg hl0]; simp
  have hsame : ((w.freeze ⟨g, 0, none⟩ l.length).drewN k).os = w.os ∧ ((w.freeze ⟨g, 0, none⟩ l.length).drewN k).tape = w.tape ∧ ((w.freeze ⟨g, 0, none⟩ l.length).drewN k).output = w.output := by
   show (w.freeze ⟨g, 0, none⟩ l.length).os = w.os ∧ (w.freeze ⟨g, 0, none⟩ l.length).tape = w.tape ∧ (w.freeze ⟨g, 0, none⟩ l.length).output = w.output
   unfold World.freeze; rw [if_neg hl0]; exact ⟨rfl, rfl, rfl⟩
  exact ⟨_, fun _ => none, rfl, ⟨⟨hsame.1, hsame.2.1, hsame.2.2, by rw [← hsize]; exact Nat.le_refl _, fun b' _ hn => hoth b' fun hbb => hn (by subst hbb; show L0 b' ≠ none; rw [hl]; simp)⟩, fun _ _ _ h => (by cases h), fun _ _ h => (by cases h), rfl, trivial⟩⟩
end Go.PV

/-
 A walk over pure values: functions of the library that hand back one value and leave what was there.
 Conditions: none.
-/
set_option linter.all false
namespace Go.PV
open Go.RowKit
variable {P : Program}
theorem ybr {A : Nat → Prop} {w : World} : ∀ {vs axs : List Value}, ArgsRep A w vs (axs.map Arg.v) → vs = axs
 | [], [], _ => rfl
 | [], a :: axs, h => h.elim
 | v :: vs, [], h => h.elim
 | v :: vs, a :: axs, h => by
  obtain ⟨rfl, h2⟩ : v = a ∧ ArgsRep A w vs (axs.map Arg.v) := h
  rw [ybr h2]
end Go.PV

/-
 A walk over pure values: strings cut, numerals read.
 Conditions: none.
-/
set_option linter.all false
namespace Go.PV
open Go.RowKit
variable {P : Program}
theorem ypb1 {A : Nat → Prop} {w : World} (h : Tabs P A w) {n : String} (hn : varNames.contains n = true) {g : Nat} (hg : P.globalNamed n = some g) : ∃ v, w.cell? ⟨g, 0, none⟩ = some v ∧ varOk n v :=
 (h.2 n (List.contains_iff_mem.1 hn) g hg).2
theorem ycj1 {f : FuncId} {s t : ByteArray} {g : Nat} (hc : callable P f = true) (hg : P.globalNamed "internal/bytealg.MaxLen" = some g)
  (h : ∀ (m : Int) (w : World), w.cell? ⟨g, 0, none⟩ = some (.int .i64 m) → Calls P f #[.string s, .string t] w fun e w' => e = .returned (.tuple #[.string (cutB s t).1, .string (cutB s t).2.1, .bool (cutB s t).2.2]) ∧ ∃ n, w' = w.drewN n) :
  Meets P f [.v (.string s), .v (.string t)] { vals := [.p (.string (cutB s t).1), .p (.string (cutB s t).2.1), .p (.bool (cutB s t).2.2)] } := by
 refine ⟨hc, fun w A vals ⟨hA, hT⟩ hargs => ?_⟩
 obtain ⟨v, hv, hok⟩ := ypb1 hT (n := "internal/bytealg.MaxLen") (by decide) hg
 obtain ⟨m, rfl⟩ : ∃ m, v = .int .i64 m := by
  unfold varOk at hok; rw [if_pos rfl] at hok; exact hok
 have hv2 := ybr (axs := [Value.string s, .string t]) hargs
 obtain ⟨l⟩ := vals
 simp only at hv2
 subst hv2
 refine (h m w hv).mono ?_
 rintro e w' ⟨rfl, n, rfl⟩
 refine ⟨_, fun _ => none, rfl, ⟨⟨rfl, rfl, rfl, Nat.le_refl _, fun _ _ _ => rfl⟩, fun _ _ _ h => (by cases h), fun _ _ h => (by cases h), ⟨_, rfl, rfl, fun j r hj => ?_⟩⟩⟩
 match j, hj with
 | 0, hj => obtain rfl := (Option.some.inj hj).symm; rfl
 | 1, hj => obtain rfl := (Option.some.inj hj).symm; rfl
 | 2, hj => obtain rfl := (Option.some.inj hj).symm; rfl
 | j + 3, hj => simp at hj
theorem yjg1 {f : FuncId} {s : ByteArray} {g1 g2 : Nat} (hc : callable P f = true) (hg1 : P.globalNamed "strconv.ErrSyntax" = some g1) (hg2 : P.globalNamed "strconv.ErrRange" = some g2)
  (h : ∀ (v1 v2 : Value) (w : World), w.cell? ⟨g1, 0, none⟩ = some v1 → (v1 = .nilIface ∨ ∃ te pe, v1 = .iface te pe) → w.cell? ⟨g2, 0, none⟩ = some v2 → (v2 = .nilIface ∨ ∃ te pe, v2 = .iface te pe) →
   Calls P f #[.string s] w fun e w' => ∃ x, e = .returned (.tuple #[.int .i64 (atoiV s).1, x]) ∧ erV (atoiV s).2 x ∧ Below w.heap.size w w') :
  Meets P f [.v (.string s)] { vals := [.p (.int .i64 (atoiV s).1), .d false [.er (atoiV s).2]] } := by
 refine ⟨hc, fun w A vals ⟨hA, hT⟩ hargs => ?_⟩
 obtain ⟨v1, hv1, hok1⟩ := ypb1 hT (n := "strconv.ErrSyntax") (by decide) hg1
 obtain ⟨v2, hv2, hok2⟩ := ypb1 hT (n := "strconv.ErrRange") (by decide) hg2
 unfold varOk at hok1 hok2
 rw [if_neg (by decide)] at hok1 hok2
 have hv := ybr (axs := [Value.string s]) hargs
 obtain ⟨l⟩ := vals
 simp only at hv
 subst hv
 refine (h v1 v2 w hv1 hok1 hv2 hok2).mono ?_
 rintro e w' ⟨x, rfl, hx, hb⟩
 refine ⟨_, fun _ => none, rfl, ⟨⟨hb.os, hb.tape, hb.output, hb.size, fun b h1 _ => hb.block b h1⟩, fun _ _ _ h => (by cases h), fun _ _ h => (by cases h), ⟨_, rfl, rfl, fun j r hj => ?_⟩⟩⟩
 match j, hj with
 | 0, hj => obtain rfl := (Option.some.inj hj).symm; rfl
 | 1, hj =>
  obtain rfl := (Option.some.inj hj).symm
  refine ⟨⟨?_, rfl⟩, fun j c hj => ?_⟩
  ·show x.cells = #[x]
   unfold erV at hx; split at hx
   ·rw [hx]; rfl
   obtain ⟨te, pe, rfl⟩ := hx; rfl
  cases j with
  | succ j => simp at hj
  | zero =>
   obtain rfl := (Option.some.inj hj).symm
   have : x.cells.getD 0 undef = x := by
    unfold erV at hx; split at hx
    ·rw [hx]; rfl
    obtain ⟨te, pe, rfl⟩ := hx; rfl
   show Frz _ _ (x.cells.getD 0 undef) _
   rw [this]; exact .er hx
 | j + 2, hj => simp at hj
end Go.PV

/-
 A walk over pure values: strconv.Atoi out of the shelf.
 Conditions: none.
-/
set_option linter.all false
namespace Go.PV
open Go.Proofs Go.Shelf Go.RowKit
variable {P : Program} {ρ : Ren}
theorem yfm1 (L : LaysC.n172 P ρ) (s : ByteArray) (hs : s.size ≤ 281474976710656) : ∀ (v1 v2 : Value) (w : World), w.cell? ⟨ρ.g 15, 0, none⟩ = some v1 → (v1 = .nilIface ∨ ∃ te pe, v1 = .iface te pe) → w.cell? ⟨ρ.g 16, 0, none⟩ = some v2 → (v2 = .nilIface ∨ ∃ te pe, v2 = .iface te pe) →
  Calls P (ρ.f 172) #[.string s] w fun e w' => ∃ x, e = .returned (.tuple #[.int .i64 (atoiV s).1, x]) ∧ erV (atoiV s).2 x ∧ Below w.heap.size w w' := by
 intro v1 v2 w h1 k1 h2 k2
 unfold atoiV
 cases hq : Lib.atoiAll s.data.toList with
 | ok v =>
  refine (Any.strconv_Atoi_ok L s (by omega) v hq w).mono ?_
  rintro e w' ⟨he, hw⟩
  refine ⟨.nilIface, he, rfl, ?_⟩
  rcases hw with rfl | ⟨t, rfl⟩
  ·exact Below.refl _ _
  exact Lib.bytesWorld_below _ _ _
 | range =>
  refine (Any.strconv_Atoi_range L s hs hq v2 w h2 k2).mono ?_
  rintro e w' ⟨N, he, _, _, hb⟩
  exact ⟨_, he, ⟨_, _, rfl⟩, hb⟩
 | _ =>
  refine (Any.strconv_Atoi_syntax L s hs hq v1 w h1 k1).mono ?_
  rintro e w' ⟨N, he, _, _, hb⟩
  exact ⟨_, he, ⟨_, _, rfl⟩, hb⟩
end Go.PV

/-
 A walk in a round of a range over a function: what holds of operations elsewhere holds there.
 Conditions: none.
-/
set_option linter.all false
namespace Go.PV
variable {P : Program} {N : Nat}
def Fx (ro : Option Nat) : Fence := { Fence.wide with round := ro }
def dz (ds : List Deferred) (a : Act) : Act := { a with defers := a.defers ++ ds }
theorem yde1 (ds : List Deferred) (a : Act) (d : Option Tmp) (v : Value) : dz ds (a.put d v) = (dz ds a).put d v := by cases d <;> rfl
theorem ypk1 (ds : List Deferred) (a : Act) : (dz ds a).eval = a.eval := funext fun x => by cases x <;> rfl
theorem yop1 {ro : Option Nat} {n : Nat} {f : FuncId} {args : Array Value} {w : World} {R R' : Ending → World → Prop} (h : Calls P f args w R) (hr : ∀ e w', R e w' → R' e w') : CallsIn (Fx ro) n P f args w R' := by
 have h1 : CallsIn Fence.wide n P f args w R' := callsIn_wide.2 (h.mono hr)
 exact h1
theorem yvr1 {ro : Option Nat} {n : Nat} {row : String} {args : Array Value} {w : World} {R R' : Value → World → Prop} (h : Go.Rows P row args w R) (hr : ∀ e w', R e w' → R' e w') : Go.RowsIn (Fx ro) n P row args w R' := by
 intro c cs _
 obtain ⟨v, w', r, s⟩ := h c cs
 have s' : StepsIn (Machine.fenced P Fence.wide) P (lone (Frame.ofRow P row args .normal) (c :: cs) w) (lone (c.finish v) cs w') := stepsIn_wide.2 s
 exact ⟨v, w', hr _ _ r, s'⟩
def noDefer (o : Oper) : Bool := match o.op with | .defer _ => false | _ => true
theorem ykg1 {o : Oper} (h : noDefer o = true) : ∀ c, o.op ≠ .defer c := fun c e => by simp [noDefer, e] at h
section
variable {ro : Option Nat} {n : Nat} {ds : List Deferred} {Q Q' : Exit → Act → World → Prop} {ops : Array Oper}
theorem ywr1 {o : Oper} {a : Act} {next next' : Act → World → Prop} (hl : ¬ LetsOut Q) (hp : ∀ c a w, ¬ Q (.panic c) a w) (hn : ∀ a w, next a w → next' (dz ds a) w) {r : Result Next} (h : o.upon P a next Q r) :
  o.uponIn (Fx ro) n P (dz ds a) next' Q' r := by
 unfold Oper.upon at h
 split at h
 ·simp only [Oper.uponIn, ← yde1]; exact hn _ _ h
 ·simp only [Oper.uponIn, ← yde1]; exact hn _ _ h
 ·simp only [Oper.uponIn]
  rename_i d w'; have := hn _ _ h
  rw [yde1] at this; exact this
 ·simp only [Oper.uponIn]
  refine ⟨fun h => by simp [Fx, Fence.wide] at h, yop1 h fun e w' h => ?_⟩
  cases e with
  | returned v => simp only [← yde1]; exact hn _ _ h
  | panicked c => exact (hp _ _ _ h).elim
  | outgrown => exact (hl h).elim
 ·simp only [Oper.uponIn]
  refine ⟨fun h => by simp [Fx, Fence.wide] at h, yvr1 h fun v w' h => ?_⟩
  simp only [← yde1]; exact hn _ _ h
 ·exact (hp _ _ _ h).elim
 exact h.elim
theorem op_x {o : Oper} {a : Act} {w : World} {next next' : Act → World → Prop} (hd : noDefer o = true) (hl : ¬ LetsOut Q) (hp : ∀ c a w, ¬ Q (.panic c) a w) (hn : ∀ a w, next a w → next' (dz ds a) w) (h : o.wp P a w next Q) :
  o.wpIn (Fx ro) n P (dz ds a) w next' Q' := by
 refine ⟨fun _ _ => trivial, ?_⟩
 rw [ypk1, Oper.semAt_eq _ _ _ (ykg1 hd)]
 exact ywr1 hl hp hn h
theorem yss1 {i : Nat} {a : Act} {w : World} {next next' : Act → World → Prop} (hd : ops.toList.all noDefer = true) (hl : ¬ LetsOut Q) (hp : ∀ c a w, ¬ Q (.panic c) a w) (hn : ∀ a w, next a w → next' (dz ds a) w) (h : wpOp P ops Q i next a w) :
  wpOpIn (Fx ro) n P ops Q' i next' (dz ds a) w := by
 unfold wpOp at h
 unfold wpOpIn
 cases ho : ops[i]? with
 | none => rw [ho] at h; exact hn _ _ h
 | some o =>
  have hdo : noDefer o = true := List.all_eq_true.1 hd o (by
   have : ops.toList[i]? = some o := by simpa using ho
   exact List.mem_of_getElem? this)
  rw [ho] at h; simp only at h ⊢
  have ht : (dz ds a).tmps = a.tmps := rfl
  rw [ht]; split at h
  ·rename_i hw
   rw [if_pos hw]; rcases h with h | h
   ·exact op_x hdo hl hp hn h
   exact (hl h.2).elim
  rename_i hw; rw [if_neg hw]; refine ⟨fun _ _ => trivial, ?_⟩
  rw [← yde1]; exact hn _ _ h
theorem ypp1 (hd : ops.toList.all noDefer = true) (hl : ¬ LetsOut Q) (hp : ∀ c a w, ¬ Q (.panic c) a w) (hq : ∀ a w, Q .normal a w → Q' .normal (dz ds a) w) : ∀ (l : List Nat) (a : Act) (w : World), wpOps P ops Q l a w → wpOpsIn (Fx ro) n P ops Q' l (dz ds a) w
 | [], a, w, h => hq a w h
 | i :: l, a, w, h => by
  rw [wpOps_cons] at h; rw [wpOpsIn_cons]; exact yss1 hd hl hp (fun a w h => ypp1 hd hl hp hq l a w h) h
theorem yts1 (hd : ops.toList.all noDefer = true) (hl : ¬ LetsOut Q) (hp : ∀ c a w, ¬ Q (.panic c) a w) (hq : ∀ a w, Q .normal a w → Q' .normal (dz ds a) w) {md : Region.Mode} : ∀ (k : Nat) (listed : Array Bool) (a : Act) (w : World), wpAny P md ops Q k listed a w → wpAnyIn (Fx ro) n P md ops Q' k listed (dz ds a) w
 | 0, listed, a, w, h => ⟨h.1, hq a w h.2⟩
 | k + 1, listed, a, w, h => ⟨fun he => hq a w (h.1 he), fun i hi => yss1 hd hl hp (fun a w h => yts1 hd hl hp hq k _ a w h) (h.2 i hi)⟩
end
def liftX (ds : List Deferred) (P : Program) (N : Nat) (w0 : World) (A : Nat → Prop) (I : Bor) (Q : Ex → LS → Prop) : Exit → Act → World → Prop
 | .normal, a, w => ∃ a0 σ L l', a = dz ds a0 ∧ Rel P N N w0 A I σ a0 w L ∧ (σ = ofL l' ∨ agree l' σ) ∧ Q .normal l'
 | .exit id, a, w => ∃ a0 σ L l', a = dz ds a0 ∧ Rel P N N w0 A I σ a0 w L ∧ (σ = ofL l' ∨ agree l' σ) ∧ Q (.exit id) l'
 | .ret, a, w => ∃ a0 σ L l', a = dz ds a0 ∧ Rel P N N w0 A I σ a0 w L ∧ (σ = ofL l' ∨ agree l' σ) ∧ Q .ret l'
 | _, _, _ => False
def codeX (k N : Nat) : Code → Bool
 | .region _ ops _ => opsB k N ops.toList && ops.toList.all noDefer
 | .seq a b => codeX k N a && codeX k N b
 | .cond _ a b => codeX k N a && codeX k N b
 | .block _ c => codeX k N c
 | .skip => true
 | .ret => true
 | .exit _ => true
 | _ => false
def OkX (ro : Option Nat) (ds : List Deferred) (P : Program) (N : Nat) (c : Code) (l : LS) (Q : Ex → LS → Prop) : Prop :=
 ∀ n k, codeX k N c = true → ∀ w0 A I a w L, I.pins.length = k → Rel P N N w0 A I (ofL l) a w L → c.wpIn (Fx ro) n P (liftX ds P N w0 A I Q) (dz ds a) w
section
variable {ro : Option Nat} {ds : List Deferred}
theorem ycr {w0 : World} {A : Nat → Prop} {I : Bor} {σ : St} {a : Act} {w : World} {L : Lab} {l' : LS} (hR : Rel P N N w0 A I σ a w L) (h : σ = ofL l' ∨ agree l' σ) : Rel P N N w0 A I (ofL l') a w L := by
 rcases h with rfl | h
 ·exact hR
 exact yfg hR h
theorem yus1 {a b : Code} {l : LS} {Q : Ex → LS → Prop} (h : OkX ro ds P N a l (seqL (fun l' => OkX ro ds P N b l' Q) Q)) : OkX ro ds P N (.seq a b) l Q := fun n k hB w0 A I x w L hI hR => by
 simp only [codeX, Bool.and_eq_true] at hB
 refine wpIn_seq (wpIn_mono (h n k hB.1 w0 A I x w L hI hR) fun e x w h => ?_)
 cases e with
 | normal =>
  obtain ⟨a0, σ, L, l', rfl, h1, h2, h3⟩ := h; exact h3 n k hB.2 w0 A I a0 w L hI (ycr h1 h2)
 | exit id => exact h
 | ret => exact h
 | _ => exact h.elim
theorem yqp1 {l : LS} {Q : Ex → LS → Prop} (h : Q .normal l) : OkX ro ds P N .skip l Q := fun _ _ _ w0 A I a w L hI hR => wpIn_skip ⟨a, _, L, l, rfl, hR, .inl rfl, h⟩
theorem yxr1 {l : LS} {Q : Ex → LS → Prop} (h : Q .ret l) : OkX ro ds P N .ret l Q := fun _ _ _ w0 A I a w L hI hR => wpIn_ret ⟨a, _, L, l, rfl, hR, .inl rfl, h⟩
theorem yyr1 {c : Operand} {b : Bool} {x y : Code} {l : LS} {Q : Ex → LS → Prop} (hc : evS (ofL l) c = .p (.bool b)) (h1 : b = true → OkX ro ds P N x l Q) (h2 : b = false → OkX ro ds P N y l Q) : OkX ro ds P N (.cond c x y) l Q := fun n k hB w0 A I a w L hI hR => by
 simp only [codeX, Bool.and_eq_true] at hB
 refine wpIn_cond (t := b) (by rw [ypk1]; exact yph1 hR hc) ?_
 cases b
 ·exact h2 rfl n k hB.2 w0 A I a w L hI hR
 exact h1 rfl n k hB.1 w0 A I a w L hI hR
theorem yrp1 {id : Nat} {c : Code} {l : LS} {Q : Ex → LS → Prop} (h : OkX ro ds P N c l (blockL id Q)) : OkX ro ds P N (.block id c) l Q := fun n k hB w0 A I a w L hI hR => by
 refine wpIn_block (wpIn_mono (h n k hB w0 A I a w L hI hR) fun e a w h => ?_)
 cases e with
 | normal => exact h
 | exit i =>
  obtain ⟨a0, σ, L, l', rfl, h1, h2, h3⟩ := h; simp only [Exit.inBlock]; unfold blockL at h3; split
  ·rename_i hi
   simp only [hi, if_true] at h3; exact ⟨a0, σ, L, l', rfl, h1, h2, h3⟩
  rename_i hi; simp only [hi, if_false] at h3; exact ⟨a0, σ, L, l', rfl, h1, h2, h3⟩
 | ret => exact h
 | _ => exact h.elim
theorem ysp1 {w0 : World} {A : Nat → Prop} {I : Bor} {Q : Ex → St → Prop} : ¬ LetsOut (lift P N w0 A I Q) := fun ⟨_, _, h⟩ => h
theorem yvs1 {id : Nat} {ops : Array Oper} {d : Bool} {l : LS} {Q : Ex → LS → Prop} (h : pvC P N (.region id ops d) (ofL l) fun e σ => ∃ l', (σ = ofL l' ∨ agree l' σ) ∧ Q e l') : OkX ro ds P N (.region id ops d) l Q := fun n k hB w0 A I a w L hI hR => by
 simp only [codeX, Bool.and_eq_true] at hB
 subst hI
 have hq : ∀ a w, lift P N w0 A I (fun e σ => ∃ l', (σ = ofL l' ∨ agree l' σ) ∧ Q e l') .normal a w → liftX ds P N w0 A I Q .normal (dz ds a) w := fun a w ⟨σ, L, h1, l', h2, h3⟩ => ⟨a, σ, L, l', rfl, h1, h2, h3⟩
 cases d with
 | false =>
  refine wpIn_region ?_
  refine ypp1 (Q := lift P N w0 A I (fun e σ => ∃ l', (σ = ofL l' ∨ agree l' σ) ∧ Q e l')) hB.2 ysp1 (fun _ _ _ h => h) hq _ a w ?_
  have := yxu (Q := lift P N w0 A I (fun e σ => ∃ l', (σ = ofL l' ∨ agree l' σ) ∧ Q e l')) hB.1 (fun a w σ L h1 h2 => ⟨σ, L, h2, h1⟩) ops.toList 0 _ a w L (fun j => by simp) hR h
  rw [List.range_eq_range']; simpa using this
 | true =>
  obtain ⟨hm, m, T, h1, hh, h2⟩ := h; refine wpIn_region_any hm ?_
  exact yts1 (Q := lift P N w0 A I (fun e σ => ∃ l', (σ = ofL l' ∨ agree l' σ) ∧ Q e l')) hB.2 ysp1 (fun _ _ _ h => h) hq _ _ a _
   (ynf1 (Q := lift P N w0 A I (fun e σ => ∃ l', (σ = ofL l' ∨ agree l' σ) ∧ Q e l')) h1 hB.1 (fun _ _ _ h => h) (fun a w σ L h1 h2 => ⟨σ, L, h2, h1⟩) hR hh h2)
def RegX (ro : Option Nat) (ds : List Deferred) (P : Program) (N : Nat) (c : Code) (l0 l1 : LS) : Prop := ∀ Q : Ex → LS → Prop, Q .normal l1 → OkX ro ds P N c l0 Q
theorem x_go {id : Nat} {ops : List Oper} {l0 : LS} (l1 : LS) (hs : List (Nat × HH)) (obs : List Prop) (e : xGo P ops hs l0 l1 = some (l1, obs)) (ho : allP obs) : RegX ro ds P N (.region id ops.toArray false) l0 l1 := by
 intro Q hq
 refine yvs1 ?_
 show pvL P ops.toArray ops.toArray.toList (ofL l0) _
 rw [List.toList_toArray]
 unfold xGo at e
 split at e
 ·rename_i σ' obs' h1
  split at e
  ·rename_i hr
   simp only [Option.some.injEq, Prod.mk.injEq] at e; obtain ⟨h2, rfl⟩ := e; exact yln1 _ _ _ _ _ h1 ho ⟨l1, .inr (yym hr h2), hq⟩
  cases e
 cases e
theorem yzr1 {id : Nat} {ops : List Oper} {l0 : LS} (hm : P.follows .mixedOrders = true) (n : Nat) (T : List (Nat × Nat)) (l1 : LS) (hs : List (Nat × HH)) (obs : List Prop) (e : xGoD P n T ops hs l0 l1 = some (l1, obs)) (ho : allP obs) : RegX ro ds P N (.region id ops.toArray true) l0 l1 := by
 intro Q hq
 refine yvs1 ?_
 unfold xGoD at e
 split at e
 ·rename_i hB
  simp only [Bool.and_eq_true] at hB; refine ⟨hm, n, T, hB.1, ykk1 hB.2, ?_⟩
  rw [List.toList_toArray]; split at e
  ·rename_i σ' o1 h1
   split at e
   ·rename_i σ2 o2 h2
    split at e
    ·rename_i hr
     simp only [Option.some.injEq, Prod.mk.injEq] at e; obtain ⟨h3, rfl⟩ := e; rw [allP_append] at ho; exact ytq1 _ _ _ _ _ h1 ho.1 (yln1 _ _ _ _ _ h2 ho.2 ⟨l1, .inr (yym hr h3), hq⟩)
    cases e
   cases e
  cases e
 cases e
theorem ylg1 {c b : Code} {l0 l1 : LS} {Q : Ex → LS → Prop} (h : RegX ro ds P N c l0 l1) (hq : OkX ro ds P N b l1 Q) : OkX ro ds P N (.seq c b) l0 Q := yus1 (h _ hq)
end
end Go.PV

/-
 A walk in a round of a range over a function: the relation carried to another world, another frame, another beginning.
 Conditions: none.
-/
set_option linter.all false
namespace Go.PV
variable {P : Program} {N : Nat}
def CellsKept (w w' : World) : Prop := ∀ (b : Nat) (arr : Array Value) (e : TypeId) (f : Nat × Nat), w.heap[b]? = some (.cells arr e f) → w'.heap[b]? = some (.cells arr e f)
theorem CellsKept.refl (w : World) : CellsKept w w := fun _ _ _ _ h => h
theorem CellsKept.cell {w w' : World} (hk : CellsKept w w') {b o : Nat} {v : Value} (h : w.cell? ⟨b, o, none⟩ = some v) : w'.cell? ⟨b, o, none⟩ = some v := by
 unfold World.cell? at h ⊢
 cases hh : w.heap[b]? with
 | none => simp [hh] at h
 | some ob =>
  cases ob with
  | cells c e f =>
   simp only [hh] at h; simp only [hk b c e f hh]; exact h
  | _ => simp [hh] at h
theorem Frz.kept {Z Z' : Nat → Prop} {w w' : World} {v : Value} {c : C} (h : Frz Z w v c) (hk : CellsKept w w') (hz : ∀ b, Z b → Z' b) : Frz Z' w' v c := by
 induction h with
 | raw h => exact .raw h
 | nil => exact .nil
 | sl vs hn hz0 hsz hc hr ih => exact .sl vs hn (hz _ hz0) hsz (fun i row o c h1 h2 => hk.cell (hc i row o c h1 h2)) ih
 | fn hn hs hr ih => exact .fn hn hs ih
 | pt vs hz0 hc hr ih => exact .pt vs (hz _ hz0) (fun j c h => hk.cell (hc j c h)) ih
 | dead h => exact .dead h
 | bp h => exact .bp h
 | er h => exact .er h
structure LabKept (w : World) (L L' : Lab) : Prop where
 sub : ∀ b x, L' b = some x → L b = some x
 cel : ∀ (b : Nat) (x : Nat × Path) (arr : Array Value) (e : TypeId) (f : Nat × Nat), L b = some x → w.heap[b]? = some (.cells arr e f) → L' b = some x
theorem LabKept.refl (w : World) (L : Lab) : LabKept w L L := ⟨fun _ _ h => h, fun _ _ _ _ _ h _ => h⟩
theorem LabKept.none {w : World} {L L' : Lab} (h : LabKept w L L') {b : Nat} (hb : L b = none) : L' b = none := by
 cases hx : L' b with
 | none => rfl
 | some x => rw [h.sub b x hx] at hb; cases hb
theorem Rep.kept {Z Z' : Nat → Prop} {L L' : Lab} {w w' : World} {s : Nat} {p : Path} {v : Value} {c : C} (h : Rep P Z L w s p v c) (hk : CellsKept w w') (hz : ∀ b, Z b → Z' b) (hL : LabKept w L L') : Rep P Z' L' w' s p v c := by
 induction h with
 | frz h => exact .frz (h.kept hk hz)
 | onil => exact .onil
 | own hl hg hn hm ha hsz hr ih => exact .own (hL.cel _ _ _ _ _ hl hg) (hk _ _ _ _ hg) hn hm ha hsz ih
theorem BoxAt.kept {Z Z' : Nat → Prop} {L L' : Lab} {w w' : World} {s b : Nat} {cs : List C} (h : BoxAt P Z L w s b cs) (hk : CellsKept w w') (hz : ∀ b, Z b → Z' b) (hL : LabKept w L L') : BoxAt P Z' L' w' s b cs := by
 obtain ⟨h1, arr, e, h2, h3, h4⟩ := h
 exact ⟨hL.cel _ _ _ _ _ h1 h2, arr, e, hk _ _ _ _ h2, h3, fun j c hj => ⟨(h4 j c hj).1.kept hk hz hL, (h4 j c hj).2⟩⟩
def simpleS : SV → Bool
 | .u | .p _ | .d .. | .ov .. | .box _ => true
 | _ => false
theorem RelS.kept {Z Z' : Nat → Prop} {L L' : Lab} {w w' : World} {tm tm' : Nat → Value} {σ σ' : St} {s : Nat} {tv : Value} {sv : SV} (h : RelS P Z L w tm σ s tv sv) (hs : simpleS sv = true) (hk : CellsKept w w') (hz : ∀ b, Z b → Z' b) (hL : LabKept w L L') : RelS P Z' L' w' tm' σ' s tv sv := by
 cases sv with
 | u => trivial
 | p v => exact h
 | d g cs => exact ⟨h.1, fun j c hj => (h.2 j c hj).kept hk hz⟩
 | ov g cs => exact ⟨h.1, fun j c hj => (h.2 j c hj).kept hk hz hL⟩
 | box cs => obtain ⟨b, h1, h2⟩ := h; exact ⟨b, h1, h2.kept hk hz hL⟩
 | _ => cases hs
def SlotFrom (σ : St) (a a' : Act) (σ' : St) (s : Nat) : Prop :=
 σ' s = .u ∨ (∃ v, σ' s = .p v ∧ a'.tmps.getD s undef = v ∧ s < N) ∨ (simpleS (σ' s) = true ∧ σ s = σ' s ∧ a'.tmps.getD s undef = a.tmps.getD s undef)
theorem Rel.turn {w0 w0' : World} {A A' : Nat → Prop} {I I' : Bor} {σ σ' : St} {a a' : Act} {w w' : World} {L L' : Lab} (hR : Rel P N N w0 A I σ a w L)
  (hd : a'.defers = []) (hsz : a'.tmps.size = N) (ev : Ev I' w0' w') (hL : LabKept w L L') (lab : ∀ b x, L' b = some x → b < w'.heap.size ∧ (w0'.heap.size ≤ b ∨ b ∈ I'))
  (hA : ((∀ b, A' b → b < w0'.heap.size) ∧ Tabs P (fun b => A' b ∧ b ∉ I') w0') ∧ ∀ b, b ∈ I' → A' b) (pin : ∀ s v, I'.pins[s]? = some v → a'.tmps.getD s undef = v)
  (hz : ∀ b, Zof w0 A L w b → Zof w0' A' L' w' b) (hk : CellsKept w w') (hσ : ∀ s, SlotFrom (N := N) σ a a' σ' s) : Rel P N N w0' A' I' σ' a' w' L' := by
 refine ⟨hd, hsz, ev, fun b b' l h1 h2 => hR.inj b b' l (hL.sub _ _ h1) (hL.sub _ _ h2), fun b l h => ⟨(lab b l h).1, (lab b l h).2, (hR.lab b l (hL.sub _ _ h)).2.2⟩, fun s hs => ?_, hA, pin, fun s => ?_⟩
 ·rcases hσ s with h | ⟨v, _, _, h⟩ | ⟨_, h, _⟩
  ·exact h
  ·omega
  rw [← h]; exact hR.out s hs
 rcases hσ s with h | ⟨v, h, h2, _⟩ | ⟨h1, h2, h3⟩
 ·rw [h]; trivial
 ·rw [h]; exact h2
 have := hR.slot s
 rw [h2] at this
 rw [h3]
 exact this.kept h1 hk hz hL
def cleanL (w : World) (L : Lab) : Lab := fun b => match w.heap[b]? with | some (.cells ..) => L b | _ => none
theorem yyp (w : World) (L : Lab) : LabKept w L (cleanL w L) := by
 refine ⟨fun b x h => ?_, fun b x arr e f h h2 => ?_⟩
 ·unfold cleanL at h
  split at h
  ·exact h
  cases h
 unfold cleanL
 rw [h2]; exact h
theorem yqb1 {w : World} {L : Lab} {b : Nat} (h : cleanL w L b ≠ none) : ∃ arr e f, w.heap[b]? = some (.cells arr e f) := by
 unfold cleanL at h
 split at h
 ·rename_i arr e f hh; exact ⟨arr, e, f, hh⟩
 exact absurd rfl h
def baseA (w0 : World) (A : Nat → Prop) (w : World) (L : Lab) : Nat → Prop := fun b => Zof w0 A L w b ∨ cleanL w L b ≠ none
def baseI (w : World) (L : Lab) (pins : List Value) : Bor := ⟨fun b => cleanL w L b ≠ none, pins⟩
section
variable {w0 : World} {A : Nat → Prop} {I : Bor} {σ σ' : St} {a a' : Act} {w w' : World} {L L' : Lab}
theorem ydj1 {pins : List Value} {b : Nat} : b ∈ baseI w L pins ↔ cleanL w L b ≠ none := Iff.rfl
theorem Rel.rebase (hR : Rel P N N w0 A I σ a w L) (pins : List Value) (hd : a'.defers = []) (hsz : a'.tmps.size = N) (pin : ∀ s v, pins[s]? = some v → a'.tmps.getD s undef = v) (hσ : ∀ s, SlotFrom (N := N) σ a a' σ' s) :
  Rel P N N w (baseA w0 A w L) (baseI w L pins) σ' a' w (cleanL w L) := by
 have hk := yyp w L
 refine hR.turn hd hsz ⟨rfl, rfl, rfl, Nat.le_refl _, fun _ _ _ => rfl⟩ hk (fun b x h => ⟨(hR.lab b x (hk.sub _ _ h)).1, .inr (by rw [ydj1, h]; simp)⟩) ⟨⟨fun b hb => ?_, (ygx hR).mono fun b hb => ⟨⟨.inl hb, fun hI => ?_⟩, rfl⟩⟩, fun b hb => .inr hb⟩ pin (fun b hb => ⟨hk.none hb.1, hb.2.1, .inl (.inl hb)⟩) (CellsKept.refl w) hσ
 ·rcases hb with hb | hb
  ·exact hb.2.1
  obtain ⟨x, hx⟩ := Option.ne_none_iff_exists'.1 hb
  exact (hR.lab b x (hk.sub _ _ hx)).1
 exact hI (hk.none hb.1)
theorem Rel.unbase (hR : Rel P N N w0 A I σ a w L) {pins : List Value} {σ1 : St} {a1 : Act} (hR1 : Rel P N N w (baseA w0 A w L) (baseI w L pins) σ1 a1 w' L') (hd : a'.defers = []) (hsz : a'.tmps.size = N) (pin : ∀ s v, I.pins[s]? = some v → a'.tmps.getD s undef = v) (hσ : ∀ s, SlotFrom (N := N) σ1 a1 a' σ' s) :
  Rel P N N w0 A I σ' a' w' L' := by
 have hk := yyp w L
 have hlab : ∀ b, cleanL w L b ≠ none → w0.heap.size ≤ b ∨ b ∈ I := fun b hb => by
  obtain ⟨x, hx⟩ := Option.ne_none_iff_exists'.1 hb
  exact (hR.lab b x (hk.sub _ _ hx)).2.1
 have e := hR.ev
 have e1 := hR1.ev
 refine hR1.turn hd hsz ⟨e1.os.trans e.os, e1.tape.trans e.tape, e1.output.trans e.output, Nat.le_trans e.size e1.size, fun b hb hI => ?_⟩ (LabKept.refl _ _) (fun b x h => ⟨(hR1.lab b x h).1, ?_⟩) hR.hA pin (fun b hb => ⟨hb.1, hb.2.1, ?_⟩) (CellsKept.refl _) hσ
 ·refine (e1.block b (Nat.lt_of_lt_of_le hb e.size) fun hI1 => ?_).trans (e.block b hb hI)
  rcases hlab b hI1 with h | h
  ·omega
  exact hI h
 ·rcases (hR1.lab b x h).2.1 with h | h
  ·exact .inl (Nat.le_trans e.size h)
  exact hlab b h
 rcases hb.2.2 with (h | h) | h
 ·exact h.2.2
 ·rcases hlab b h with h | h
  ·exact .inr h
  exact .inl (hR.hA.2 b h)
 exact .inr (Nat.le_trans e.size h)
theorem Rel.grown {pins : List Value} {w1 : World} {A1 : Nat → Prop} {I1 : Bor} (hR : Rel P N N w1 A1 I1 σ a w L) {row : Option Nat} (hg : w.grownBy w' row) (hr : ∀ r, row = some r → w1.heap.size ≤ r ∧ ∃ o : Obj, w.heap[r]? = some o ∧ o.isCells = false) (hs : ∀ s, simpleS (σ s) = true) : Rel P N N w1 A1 I1 σ a w' L := by
 have e := hR.ev
 have hc : CellsKept w w' := fun b arr el f h => by
  have hlt : b < w.heap.size := (Array.getElem?_eq_some_iff.1 h).1
  refine (hg.block b hlt fun e => ?_).trans h
  obtain ⟨_, o, ho, hoc⟩ := hr b e.symm; rw [h] at ho; obtain rfl := Option.some.inj ho
  cases hoc
 refine hR.turn hR.dfr hR.siz ⟨hg.os.trans e.os, hg.tape.trans e.tape, hg.output.trans e.output, Nat.le_trans e.size hg.size, fun b hb hI => ?_⟩ (LabKept.refl _ _) (fun b x h => ⟨Nat.lt_of_lt_of_le (hR.lab b x h).1 hg.size, (hR.lab b x h).2.1⟩) hR.hA hR.pin (fun b hb => ⟨hb.1, Nat.lt_of_lt_of_le hb.2.1 hg.size, hb.2.2⟩) hc (fun s => .inr (.inr ⟨hs s, rfl, rfl⟩))
 refine (hg.block b (Nat.lt_of_lt_of_le hb e.size) fun e => ?_).trans (e.block b hb hI)
 have := (hr b e.symm).1
 omega
end
theorem yrb1 : ∀ (l : LS) (s : Nat), ofL l s = .u ∨ ∃ x ∈ l, x.1 = s ∧ ofL l s = x.2
 | [], _ => .inl rfl
 | (k, x) :: l, s => by
  simp only [ofL, upd]; by_cases h : s = k
  ·rw [if_pos h]; exact .inr ⟨(k, x), List.mem_cons_self, h.symm, rfl⟩
  rw [if_neg h]; rcases yrb1 l s with h1 | ⟨y, h1, h2, h3⟩
  ·exact .inl h1
  exact .inr ⟨y, List.mem_cons_of_mem _ h1, h2, h3⟩
theorem yyr {l : LS} (h : l.all (fun x => simpleS x.2) = true) (s : Nat) : simpleS (ofL l s) = true := by
 rcases yrb1 l s with h1 | ⟨x, hx, _, h1⟩
 ·rw [h1]; rfl
 rw [h1]; exact List.all_eq_true.1 h x hx
def rawR (rows : List (List C)) : Bool := rows.all fun r => r.all fun c => match c with | .raw _ => true | _ => false
theorem ygm1 {Z : Nat → Prop} {L : Lab} {w : World} {s : Nat} {p : Path} {v : Value} {e : TypeId} {rows : List (List C)} (h : Rep P Z L w s p v (.sl (some e) rows)) :
  (v = .slice none 0 0 ∧ rows = []) ∨ ∃ (g cap : Nat) (arr : Array Value), v = .slice (some ⟨g, 0, none⟩) rows.length cap ∧ w.heap[g]? = some (.cells arr e (0, 0)) ∧ (∀ row ∈ rows, row.length = esz P e) ∧
   ∀ (i : Nat) (row : List C) (o : Nat) (c : C), rows[i]? = some row → row[o]? = some c → ∃ p', Rep P Z L w s p' (arr.getD (i * esz P e + o) undef) c := by
 cases h with
 | frz h => cases h
 | onil => exact .inl ⟨rfl, rfl⟩
 | own hl hg hn hm ha hsz hr => exact .inr ⟨_, _, _, rfl, hg, hsz, fun i row o c h1 h2 => ⟨_, hr i row o c h1 h2⟩⟩
theorem ytp1 {Z Z' : Nat → Prop} {L L' : Lab} {w : World} {tm tm' : Nat → Value} {σ σ' : St} {s s' : Nat} {tv : Value} {e : TypeId} {rows rows' : List (List C)}
  (h : RelS P Z L w tm σ s tv (.box [.sl (some e) rows])) (h' : RelS P Z' L' w tm' σ' s' tv (.box [.sl (some e) rows'])) (hr : rawR rows = true) (hr' : rawR rows' = true) : rows = rows' := by
 obtain ⟨b, rfl, _, arr, t, hb, hs, hc⟩ := h
 obtain ⟨b', e', _, arr', t', hb', hs', hc'⟩ := h'
 simp only [Value.pointer.injEq, Option.some.injEq, Addr.mk.injEq, and_true] at e'
 subst e'
 rw [hb] at hb'
 simp only [Option.some.injEq, Obj.cells.injEq, and_true] at hb'
 obtain ⟨rfl, rfl⟩ := hb'
 have a1 := (hc 0 _ rfl).1
 have a2 := (hc' 0 _ rfl).1
 have raw_of : ∀ {rows : List (List C)}, rawR rows = true → ∀ {i : Nat} {row : List C} {o : Nat} {c : C}, rows[i]? = some row → row[o]? = some c → ∃ v, c = .raw v := fun {rows} hr {i row o c} h1 h2 => by
  have := List.all_eq_true.1 (List.all_eq_true.1 hr row (List.mem_of_getElem? h1)) c (List.mem_of_getElem? h2)
  cases c with
  | raw v => exact ⟨v, rfl⟩
  | _ => cases this
 have rep_raw : ∀ {Z : Nat → Prop} {L : Lab} {s : Nat} {p : Path} {v u : Value}, Rep P Z L w s p v (.raw u) → v = u := fun h => by
  cases h with
  | frz h => cases h with | raw h => rfl
 rcases ygm1 a1 with ⟨v1, r1⟩ | ⟨g1, cap1, arr1, v1, g1h, z1, c1⟩
 ·rcases ygm1 a2 with ⟨v2, r2⟩ | ⟨g2, cap2, arr2, v2, g2h, z2, c2⟩
  ·rw [r1, r2]
  rw [v1] at v2; cases v2
 rcases ygm1 a2 with ⟨v2, r2⟩ | ⟨g2, cap2, arr2, v2, g2h, z2, c2⟩
 ·rw [v2] at v1; cases v1
 rw [v1] at v2
 simp only [Value.slice.injEq, Option.some.injEq, Addr.mk.injEq, and_true] at v2
 obtain ⟨rfl, hl, _⟩ := v2
 rw [g1h] at g2h
 simp only [Option.some.injEq, Obj.cells.injEq, and_true] at g2h
 subst g2h
 have hlen : rows.length = rows'.length := by omega
 refine List.ext_getElem hlen fun i h1 h2 => ?_
 refine List.ext_getElem (by rw [z1 _ (List.getElem_mem h1), z2 _ (List.getElem_mem h2)]) fun o h3 h4 => ?_
 have x1 : rows[i]? = some rows[i] := List.getElem?_eq_getElem h1
 have x2 : rows'[i]? = some rows'[i] := List.getElem?_eq_getElem h2
 have y1 : rows[i][o]? = some rows[i][o] := List.getElem?_eq_getElem h3
 have y2 : rows'[i][o]? = some rows'[i][o] := List.getElem?_eq_getElem h4
 obtain ⟨u1, e1⟩ := raw_of hr x1 y1
 obtain ⟨u2, e2⟩ := raw_of hr' x2 y2
 obtain ⟨p1, k1⟩ := c1 i _ o _ x1 y1
 obtain ⟨p2, k2⟩ := c2 i _ o _ x2 y2
 rw [e1] at k1
 rw [e2] at k2
 rw [e1, e2, ← rep_raw k1, ← rep_raw k2]
end Go.PV

/-
 A walk of a range over a function: the loop.
 Conditions: none.
-/
set_option linter.all false
namespace Go.PV
open Go.RowKit
variable {P : Program} {N : Nat}
theorem dz_nil {a : Act} (h : a.defers = []) (ds : List Deferred) : dz ds a = { a with defers := ds } := by unfold dz; rw [h]; rfl
theorem dz_nil' {a : Act} : dz [] a = a := by unfold dz; rw [List.append_nil]
def markOf (D : Nat) : Deferred := { target := .collected D, args := #[] }
def liftF (P : Program) (N : Nat) (w0 : World) (A : Nat → Prop) (I : Bor) (Q : LS → Prop) : Exit → Act → World → Prop
 | .normal, a, w | .ret, a, w => ∃ a0 L l' ds, a = dz ds a0 ∧ Rel P N N w0 A I (ofL l') a0 w L ∧ Q l' ∧
   (ds = [] ∨ ∃ D, ds = [markOf D] ∧ w0.heap.size ≤ D ∧ w.heap[D]? = some (.deferred (some [])) ∧ l'.all (fun x => simpleS x.2) = true)
 | _, _, _ => False
def OkF (P : Program) (N : Nat) (c : Code) (l : LS) (Q : LS → Prop) : Prop :=
 ∀ n, 2 ≤ n → ∀ w0 A I a w L, I.pins = [] → Rel P N N w0 A I (ofL l) a w L → c.wpIn (Fx none) n P (liftF P N w0 A I Q) a w
theorem yws1 {a b : Code} {l : LS} {Q : LS → Prop} (hc : codeX 0 N a = true) (h : OkX none [] P N a l (seqL (fun l' => OkF P N b l' Q) (fun e l' => e = .ret ∧ Q l'))) : OkF P N (.seq a b) l Q := fun n hn w0 A I x w L hI hR => by
 have h1 := h n 0 hc w0 A I x w L (by rw [hI]; rfl) hR
 rw [dz_nil'] at h1
 refine wpIn_seq (wpIn_mono h1 fun e x w h => ?_)
 cases e with
 | normal =>
  obtain ⟨a0, σ, L, l', rfl, h1, h2, h3⟩ := h; have := h3 n hn w0 A I a0 w L hI (ycr h1 h2)
  rw [dz_nil']; exact this
 | ret =>
  obtain ⟨a0, σ, L, l', rfl, h1, h2, h3⟩ := h; exact ⟨a0, L, l', [], rfl, ycr h1 h2, h3.2, .inl rfl⟩
 | exit id => obtain ⟨a0, σ, L, l', rfl, h1, h2, h3⟩ := h; cases h3.1
 | _ => exact h.elim
def OkT (P : Program) (N : Nat) (c rest : Code) (l : LS) (Q : LS → Prop) : Prop :=
 ∀ n, 2 ≤ n → ∀ w0 A I a w L, I.pins = [] → Rel P N N w0 A I (ofL l) a w L → c.wpIn (Fx none) n P (Exit.then (rest.wpIn (Fx none) n P (liftF P N w0 A I Q)) (liftF P N w0 A I Q)) a w
theorem yup1 {c rest : Code} {l : LS} {Q : LS → Prop} (h : OkT P N c rest l Q) : OkF P N (.seq c rest) l Q := fun n hn w0 A I a w L hI hR => wpIn_seq (h n hn w0 A I a w L hI hR)
theorem yat1 {c b rest : Code} {l l1 : LS} {Q : LS → Prop} (hc : codeX 0 N c = true) (h : RegX none [] P N c l l1) (hq : OkT P N b rest l1 Q) : OkT P N (.seq c b) rest l Q := fun n hn w0 A I a w L hI hR => by
 have h1 := h (fun e l' => e = .normal ∧ l' = l1) ⟨rfl, rfl⟩ n 0 hc w0 A I a w L (by rw [hI]; rfl) hR
 rw [dz_nil'] at h1
 refine wpIn_seq (wpIn_mono h1 fun e x w h => ?_)
 cases e with
 | normal =>
  obtain ⟨a0, σ, L, l2, rfl, g1, g2, _, g3⟩ := h; rw [dz_nil']; exact hq n hn w0 A I a0 w L hI (g3 ▸ ycr g1 g2)
 | ret => obtain ⟨a0, σ, L, l', rfl, h1, h2, h3, _⟩ := h; cases h3
 | exit id => obtain ⟨a0, σ, L, l', rfl, h1, h2, h3, _⟩ := h; cases h3
 | _ => exact h.elim
def Turns {α : Type} (P : Program) (f : FuncId) (caps : List (Bool × List C)) (encs : α → Array Value) (S Sp : List α → Prop) (n : Nat) : Prop :=
 ∀ (Z : Nat → Prop) (w : World) (v : Value) (m : Nat), FrzV Z w false v [.fn f caps] → (∀ b, Z b → b < w.heap.size) → 1 ≤ m →
  ∃ lb, v = .func (.func f) #[] lb ∧ SeqStopsK (Fx none) m P f lb encs (fun W W' => ∀ b, Z b → W'.heap[b]? = W.heap[b]?) S Sp n w
theorem yhm1 {f : FuncId} (hc : callable P f = true) (args : Array Value) (w : World) : (callFunc f args).run P w = .ok (.enter f args) w := by
 unfold callable at hc
 cases hfn : P.funcs[f]? with
 | none => simp [hfn] at hc
 | some fd =>
  simp [hfn] at hc
  have h1 : fd.body ≠ none := by intro h; simp [h] at hc
  simp [callFunc, hfn, h1, hc.2]
section
variable {w0 : World} {A : Nat → Prop} {I : Bor} {a : Act} {w : World} {L : Lab}
theorem yzp {σ : St} (h : ∀ s, simpleS (σ s) = true) (s : Nat) : SlotFrom (N := N) σ a a σ s := .inr (.inr ⟨h s, rfl, rfl⟩)
theorem yet {σ1 : St} {a1 : Act} {W W' : World} {pins : List Value} {L1 L2 : Lab} {A1 : Nat → Prop} (h : Rel P N N W A1 (baseI W L1 pins) σ1 a1 W' L2) {k : Nat} {o : Obj} (hk : W.heap[k]? = some o) (ho : o.isCells = false) : W'.heap[k]? = some o := by
 refine (h.ev.block k (Array.getElem?_eq_some_iff.1 hk).1 fun hI => ?_).trans hk
 obtain ⟨arr, e, f, hc⟩ := yqb1 hI
 rw [hk] at hc
 obtain rfl := Option.some.inj hc
 cases ho
theorem yvw {σ1 σ2 : St} {a1 a2 : Act} {W W' : World} {pins pins2 : List Value} {L1 L2 : Lab} {A1 : Nat → Prop} (h : Rel P N N w (baseA w0 A w L) (baseI w L pins) σ1 a1 W L1) (h2 : Rel P N N W A1 (baseI W L1 pins2) σ2 a2 W' L2) {b : Nat} (hb : Zof w0 A L w b) : W'.heap[b]? = W.heap[b]? := by
 refine h2.ev.block b (Nat.lt_of_lt_of_le hb.2.1 h.ev.size) fun hI => ?_
 obtain ⟨x, hx⟩ := Option.ne_none_iff_exists'.1 hI
 rcases (h.lab b x ((yyp W L1).sub _ _ hx)).2.1 with h3 | h3
 ·have := hb.2.1; omega
 exact h3 ((yyp w L).none hb.1)
end
def pinsOf (K : Nat) (a : Act) : List Value := (List.range K).map fun s => a.tmps.getD s undef
theorem yft {K : Nat} {a : Act} {s : Nat} {v : Value} (h : (pinsOf K a)[s]? = some v) : s < K ∧ a.tmps.getD s undef = v := by
 unfold pinsOf at h
 rw [List.getElem?_map] at h
 by_cases hs : s < K
 ·rw [List.getElem?_range hs] at h
  exact ⟨hs, by simpa using h⟩
 rw [List.getElem?_eq_none (by simpa using hs)] at h
 cases h
theorem yox {K : Nat} {a : Act} {s : Nat} (h : s < K) : (pinsOf K a)[s]? = some (a.tmps.getD s undef) := by
 unfold pinsOf
 rw [List.getElem?_map, List.getElem?_range h]
 rfl
theorem ypj {k s : Nat} {x : SV} {l : LS} (h : s ≠ k) : ofL ((k, x) :: l) s = ofL l s := by simp [ofL, upd, h]
theorem yaq {k : Nat} {x : SV} {l : LS} : ofL ((k, x) :: l) k = x := by simp [ofL, upd]
theorem yqk1 {l : LS} {K s : Nat} (h : l.all (fun x => decide (x.1 < K)) = true) (hs : K ≤ s) : ofL l s = .u := by
 rcases yrb1 l s with h1 | ⟨x, hx, h1, _⟩
 ·exact h1
 have := of_decide_eq_true (List.all_eq_true.1 h x hx)
 omega
theorem yim1 (p1 p2 : Nat) (v1 v2 : Value) (t : Array Value) : ((#[p1, p2] : Array Tmp).zip #[v1, v2]).foldl (fun t (p, v) => t.setIfInBounds p v) t = (t.setIfInBounds p1 v1).setIfInBounds p2 v2 := by
 have : (#[p1, p2] : Array Tmp).zip #[v1, v2] = #[(p1, v1), (p2, v2)] := by
  apply Array.ext'
  simp [Array.toList_zip]
 rw [this]
 simp
theorem yvp1 {α : Type} {id g p1 p2 : Nat} {assign body rest : Code} {l : LS} {Q : LS → Prop} {f : FuncId} {caps : List (Bool × List C)} {e1 e2 : α → Value} {S Sp : List α → Prop} {n : Nat}
  (hf : callable P f = true) (hg : ofL l g = .d false [.fn f caps]) (ht : Turns P f caps (fun x => #[e1 x, e2 x]) S Sp n)
  (K o B : Nat) (e : TypeId) (fix : LS) (sv : α → SV) (gr : List α → List (List C))
  (hw : wk l ((o, .box [.sl (some e) (gr [])]) :: fix))
  (hsim : fix.all (fun x => simpleS x.2) = true) (hsv : ∀ x, simpleS (sv x) = true) (hkey : fix.all (fun x => decide (x.1 < K)) = true) (ho : o < K) (hB : K ≤ B) (hp : K ≤ p1 ∧ K ≤ p2 ∧ p1 ≠ p2 ∧ p1 < N ∧ p2 < N)
  (hraw : ∀ pre, rawR (gr pre) = true) (hcA : codeX K N assign = true) (hcB : codeX K N body = true) (hcR : codeX 0 N rest = true)
  (hassign : ∀ (r : Nat) (pre : List α) (x : α), OkX (some r) [] P N assign ((p1, .p (e1 x)) :: (p2, .p (e2 x)) :: (o, .box [.sl (some e) (gr pre)]) :: fix) (fun ex l' => ex = .normal ∧ wk l' ((B, sv x) :: (o, .box [.sl (some e) (gr pre)]) :: fix)))
  (hbody : ∀ (r : Nat) (pre : List α) (x : α), pre.length < n → OkX (some r) [] P N body ((B, sv x) :: (o, .box [.sl (some e) (gr pre)]) :: fix) (fun ex l' => ex = .normal ∧ wk l' ((o, .box [.sl (some e) (gr (pre ++ [x]))]) :: fix)))
  (hrest : ∀ (ds : List Deferred) (xs : List α), S xs → OkX none ds P N rest ((o, .box [.sl (some e) (gr xs)]) :: fix) (fun ex l' => (ex = .normal ∨ ex = .ret) ∧ l'.all (fun x => simpleS x.2) = true ∧ Q l')) :
  OkT P N (.block id (.rangeFunc (.tmp g) #[p1, p2] assign body)) rest l Q := by
 intro m hm w0 A I a w L hI hR
 have simJ : ∀ rows s, simpleS (ofL ((o, .box [.sl (some e) rows]) :: fix) s) = true := fun rows s => yyr (by simp only [List.all_cons, hsim, Bool.and_true]; rfl) s
 have simJ1 : ∀ rows x s, simpleS (ofL ((B, sv x) :: (o, .box [.sl (some e) rows]) :: fix) s) = true := fun rows x s => yyr (by simp only [List.all_cons, hsim, hsv, Bool.and_true]; rfl) s
 have keyJ : ∀ rows, (((o, .box [.sl (some e) rows]) :: fix : LS).all fun x => decide (x.1 < K)) = true := fun rows => by simp only [List.all_cons, hkey, Bool.and_true]; exact decide_eq_true ho
 have hRJ := yfg hR hw
 have hfz : FrzV (Zof w0 A L w) w false (a.tmps.getD g undef) [.fn f caps] := by
  have := hR.slot g
  rw [hg] at this; exact this
 obtain ⟨lb, hv, hseq⟩ := ht (Zof w0 A L w) w _ (m - 1) hfz (fun b hb => hb.2.1) (by omega)
 have R1 := hRJ.rebase (pinsOf K a) (a' := a) (σ' := ofL ((o, .box [.sl (some e) (gr [])]) :: fix)) hRJ.dfr hRJ.siz (fun s v h => (yft h).2) (yzp (simJ _))
 refine wpIn_block ?_
 refine wpIn_rangeFunc_ownH (F := Fx none) rfl (show 1 ≤ m by omega) (gf := f) (lb := lb) (show a.tmps.getD g undef = _ from hv) trivial (yhm1 hf) hseq
  (fun h1 h2 b hb => (h2 b hb).trans (h1 b hb)) (fun W r ob ob' hr _ _ _ b hb => World.putObj_heap_other (by have := hb.2.1; omega)) (Below.refl _ _) (fun x => rfl)
  (fun pre W => ∃ L', Rel P N N w (baseA w0 A w L) (baseI w L (pinsOf K a)) (ofL ((o, .box [.sl (some e) (gr pre)]) :: fix)) a W L') (fun _ _ _ => False)
  (fun pre X Y row ⟨L', h⟩ hgr hr => ⟨L', h.grown (pins := []) hgr hr (simJ _)⟩) (fun _ _ _ _ _ h _ _ => h) ⟨_, R1⟩
  (fun x a' W => ∃ rows L', rawR rows = true ∧ Rel P N N w (baseA w0 A w L) (baseI w L (pinsOf K a)) (ofL ((B, sv x) :: (o, .box [.sl (some e) rows]) :: fix)) a' W L')
  (fun x a' _ X Y row ⟨rows, L', hr0, h⟩ hgr hr => ⟨rows, L', hr0, h.grown (pins := []) hgr hr (simJ1 _ _)⟩) ?assign ?body ?done ?stop
 case assign =>
  rintro r pre x W Kc ⟨L', h⟩ hK
  rw [yim1]; have h' := h.rebase (pinsOf K a) (a' := { tmps := (a.tmps.setIfInBounds p1 (e1 x)).setIfInBounds p2 (e2 x), defers := [] }) (σ' := ofL ((p1, .p (e1 x)) :: (p2, .p (e2 x)) :: (o, .box [.sl (some e) (gr pre)]) :: fix)) rfl (by simp [h.siz]) (fun s v hs => by
   obtain ⟨h1, h2⟩ := yft hs; have n1 : p1 ≠ s := by omega
   have n2 : p2 ≠ s := by omega
   simp only [Array.getD_eq_getD_getElem?, Array.getElem?_setIfInBounds, n1, n2, if_false] at h2 ⊢; exact h2) (fun s => by
   by_cases s1 : s = p1
   ·subst s1
    refine .inr (.inl ⟨e1 x, yaq, ?_, hp.2.2.2.1⟩)
    have n2 : p2 ≠ s := fun h => hp.2.2.1 h.symm
    simp only [Array.getD_eq_getD_getElem?, Array.getElem?_setIfInBounds, n2, if_false, Array.size_setIfInBounds, h.siz, hp.2.2.2.1, if_true]; rfl
   by_cases s2 : s = p2
   ·subst s2
    refine .inr (.inl ⟨e2 x, by rw [ypj s1, yaq], ?_, hp.2.2.2.2⟩)
    simp only [Array.getD_eq_getD_getElem?, Array.getElem?_setIfInBounds, Array.size_setIfInBounds, h.siz, hp.2.2.2.2, if_true]; rfl
   refine .inr (.inr ⟨by rw [ypj s1, ypj s2]; exact simJ _ _, by rw [ypj s1, ypj s2], ?_⟩)
   simp only [Array.getD_eq_getD_getElem?, Array.getElem?_setIfInBounds, Ne.symm s1, Ne.symm s2, if_false])
  have hk := hassign r pre x (m - 1 - 1) K hcA W _ _ _ W _ (by simp [baseI, pinsOf]) h'
  rw [dz_nil'] at hk; refine wpIn_mono hk fun ex a2 W2 hl => ?_
  cases ex with
  | normal =>
   obtain ⟨a0, σ, L2, l', rfl, g1, g2, _, g3⟩ := hl; have h4 := yfg (ycr g1 g2) g3
   rw [dz_nil']; have pin4 : ∀ s, s < K → a0.tmps.getD s undef = a.tmps.getD s undef := fun s hs => h4.pin s _ (yox hs)
   refine hK a0 W2 ⟨h4.ev.size, fun k ob _ hk hob => yet h4 hk hob⟩ (fun b hb => yvw h h4 hb) ⟨L2, h.unbase h4 (a' := a) h.dfr h.siz h.pin fun s => ?_⟩ ⟨gr pre, L2, hraw pre, h.unbase h4 (a' := a0) h4.dfr h4.siz (fun s v hs => by
    obtain ⟨h5, h6⟩ := yft hs; rw [pin4 s h5]; exact h6) (yzp (simJ1 _ _))⟩
   by_cases hs : s < K
   ·exact .inr (.inr ⟨simJ _ _, ypj (by omega), (pin4 s hs).symm⟩)
   exact .inl (yqk1 (keyJ _) (by omega))
  | exit id => obtain ⟨a0, σ, L2, l', rfl, g1, g2, g3, _⟩ := hl; cases g3
  | ret => obtain ⟨a0, σ, L2, l', rfl, g1, g2, g3, _⟩ := hl; cases g3
  | _ => exact hl.elim
 case body =>
  rintro r pre x a' W hr0 hrec ⟨L1, h⟩ ⟨rows, L2, hraw', hx⟩ hlen
  have pinx : ∀ s, s < K → a'.tmps.getD s undef = a.tmps.getD s undef := fun s hs => hx.pin s _ (yox hs)
  have hrows : rows = gr pre := by
   have s1 := h.slot o; have s2 := hx.slot o; rw [yaq] at s1; rw [ypj (by omega), yaq, pinx o ho] at s2; exact ytp1 s2 s1 hraw' (hraw pre)
  subst hrows; have h' := hx.rebase (pinsOf K a) (a' := a') (σ' := ofL ((B, sv x) :: (o, .box [.sl (some e) (gr pre)]) :: fix)) hx.dfr hx.siz hx.pin (yzp (simJ1 _ _))
  have hk := hbody r pre x hlen (m - 1 - 1) K hcB W _ _ _ W _ (by simp [baseI, pinsOf]) h'
  rw [dz_nil'] at hk; refine wpIn_mono hk fun ex a2 W2 hl => ?_
  cases ex with
  | normal =>
   obtain ⟨a0, σ, L3, l', rfl, g1, g2, _, g3⟩ := hl; have h4 := yfg (ycr g1 g2) g3
   have pin4 : ∀ s, s < K → a0.tmps.getD s undef = a.tmps.getD s undef := fun s hs => h4.pin s _ (yox hs)
   refine ⟨⟨h4.ev.size, fun k ob _ hk hob => yet h4 hk hob⟩, fun b hb => yvw hx h4 hb, L3, hx.unbase h4 (a' := a) h.dfr h.siz h.pin fun s => ?_⟩
   by_cases hs : s < K
   ·exact .inr (.inr ⟨simJ _ _, rfl, (pin4 s hs).symm⟩)
   exact .inl (yqk1 (keyJ _) (by omega))
  | exit id => obtain ⟨a0, σ, L2, l', rfl, g1, g2, g3, _⟩ := hl; cases g3
  | ret => obtain ⟨a0, σ, L2, l', rfl, g1, g2, g3, _⟩ := hl; cases g3
  | _ => exact hl.elim
 case done =>
  rintro D xs W hD hS ⟨L', h⟩ hK
  have h0 := hRJ.unbase h (a' := a) (σ' := ofL ((o, .box [.sl (some e) (gr xs)]) :: fix)) hRJ.dfr hRJ.siz (fun s v hs => by rw [hI] at hs; cases hs) (yzp (simJ _))
  have h5 := h0.rebase [] (a' := a) (σ' := ofL ((o, .box [.sl (some e) (gr xs)]) :: fix)) hRJ.dfr hRJ.siz (fun s v hs => by cases hs) (yzp (simJ _))
  have hk := hrest [markOf D] xs hS m 0 hcR W _ _ _ W _ rfl h5
  rw [dz_nil hRJ.dfr] at hk; have ea : ({ a with defers := { target := .collected D, args := #[] } :: a.defers } : Act) = { a with defers := [markOf D] } := by rw [hRJ.dfr]; rfl
  show rest.wpIn _ _ _ _ _ _
  rw [ea]; have fin : ∀ (a2 : Act) (W2 : World) (a0 : Act) (σ : St) (L3 : Lab) (l' : LS), a2 = dz [markOf D] a0 → Rel P N N W (baseA w0 A W L') (baseI W L' []) σ a0 W2 L3 → (σ = ofL l' ∨ agree l' σ) → l'.all (fun x => simpleS x.2) = true → Q l' →
    ∃ a0 L l' ds, a2 = dz ds a0 ∧ Rel P N N w0 A I (ofL l') a0 W2 L ∧ Q l' ∧ (ds = [] ∨ ∃ D, ds = [markOf D] ∧ w0.heap.size ≤ D ∧ W2.heap[D]? = some (.deferred (some [])) ∧ l'.all (fun x => simpleS x.2) = true) := fun a2 W2 a0 σ L3 l' e1 g1 g2 g3 g4 => by
   have g5 := ycr g1 g2; exact ⟨a0, L3, l', [markOf D], e1, h0.unbase g5 (a' := a0) g5.dfr g5.siz (fun s v hs => by rw [hI] at hs; cases hs) (yzp (yyr g3)), g4, .inr ⟨D, rfl, Nat.le_trans hRJ.ev.size hD, yet g5 hK rfl, g3⟩⟩
  refine wpIn_mono hk fun ex a2 W2 hl => ?_
  cases ex with
  | normal =>
   obtain ⟨a0, σ, L3, l', e1, g1, g2, _, g3, g4⟩ := hl; exact fin a2 W2 a0 σ L3 l' e1 g1 g2 g3 g4
  | ret =>
   obtain ⟨a0, σ, L3, l', e1, g1, g2, _, g3, g4⟩ := hl; exact fin a2 W2 a0 σ L3 l' e1 g1 g2 g3 g4
  | exit id => obtain ⟨a0, σ, L3, l', e1, g1, g2, g3, _⟩ := hl; rcases g3 with g3 | g3 <;> cases g3
  | _ => exact hl.elim
 case stop =>
  rintro D c pre W _ _ h _
  exact h.elim
theorem yej1 {f : FuncId} {fn : Func} {c : Code} {args : List Arg} {res : Res} (hc : callable P f = true) (hf : P.funcs[f]? = some fn) (hb : fn.body = some c)
  (hN : (decide (args.length ≤ fn.ntmps) && args.all notPtrA) = true) {l0 : LS} (hl0 : (List.range args.length).zip (args.map argSV) = l0)
  (h : OkF P fn.ntmps c l0 fun l' => ∃ ls, retVs P (ofL l') fn.results.toList = some ls ∧ ovOk ls = true ∧ ls.map (·.1) = res.vals) : Meets P f args res := by
 simp only [Bool.and_eq_true, decide_eq_true_eq] at hN
 refine ⟨hc, fun w A vals h1 h4 => ?_⟩
 have hR := ywc1 (P := P) (N := fn.ntmps) h1 hN.1 h4
 refine (callsIn_wide (n := 3)).1 (callsIn_of_wp_marks (F := Fx none) (n := 3) hf hb trivial ?_ rfl)
 have hk := h 3 (by omega) w A nob _ w _ rfl (by subst hl0; exact hR)
 refine wpIn_mono hk fun e a' w' hl => ?_
 have fin : liftF P fn.ntmps w A nob (fun l' => ∃ ls, retVs P (ofL l') fn.results.toList = some ls ∧ ovOk ls = true ∧ ls.map (·.1) = res.vals) .ret a' w' →
   LeavesInM (Fx none) 3 P fn a'.tmps (fun e w' => ∃ v L, e = .returned v ∧ Post P A w w' L v res) a'.defers .returning w' := by
  rintro ⟨a0, L, l', ds, rfl, g1, g2, rfl | ⟨D, rfl, hD, hW, hs⟩⟩
  ·rw [dz_nil g1.dfr]
   obtain ⟨_, v, k1, k2⟩ := ysi1 g1 g2; exact ⟨v, k1, k2⟩
  rw [dz_nil g1.dfr]; have g3 := g1.grown (pins := []) (grownBy_putObj' w' D (.deferred none)) (fun r e => by cases e; exact ⟨hD, _, hW, rfl⟩) (yyr hs)
  obtain ⟨_, v, k1, k2⟩ := ysi1 g3 g2; exact ⟨by simp, .inl ⟨D, _, rfl, run_takeDeferred hW, v, k1, k2⟩⟩
 cases e with
 | normal => exact fin hl
 | ret => exact fin hl
 | _ => exact hl.elim
end Go.PV

/-
 A walk of a range over a function: the rules, with what the kernel reckons left out.
 Conditions: none.
-/
set_option linter.all false
namespace Go.PV
variable {P : Program} {N : Nat} {ro : Option Nat} {ds : List Deferred}
theorem yfj1 {id : Nat} {ops : List Oper} {l0 : LS} {Q : Prop} (l1 : LS) (hs : List (Nat × HH)) (ho : Q) (e : (xGo P ops hs l0 l1).map (fun p => (p.1, allP p.2)) = some (l1, Q) := by kernel_rfl) : RegX ro ds P N (.region id ops.toArray false) l0 l1 := by
 cases hx : xGo P ops hs l0 l1 with
 | none => rw [hx] at e; cases e
 | some p =>
  rw [hx] at e; simp only [Option.map_some, Option.some.injEq, Prod.mk.injEq] at e; obtain ⟨e1, e2⟩ := e; exact x_go l1 hs p.2 (by rw [hx, ← e1]) (by rw [e2]; exact ho)
theorem ybt1 {id : Nat} {ops : List Oper} {l0 : LS} {Q : Prop} (hm : P.follows .mixedOrders = true) (n : Nat) (T : List (Nat × Nat)) (l1 : LS) (hs : List (Nat × HH)) (ho : Q) (e : (xGoD P n T ops hs l0 l1).map (fun p => (p.1, allP p.2)) = some (l1, Q) := by kernel_rfl) : RegX ro ds P N (.region id ops.toArray true) l0 l1 := by
 cases hx : xGoD P n T ops hs l0 l1 with
 | none => rw [hx] at e; cases e
 | some p =>
  rw [hx] at e; simp only [Option.map_some, Option.some.injEq, Prod.mk.injEq] at e; obtain ⟨e1, e2⟩ := e; exact yzr1 hm n T l1 hs p.2 (by rw [hx, ← e1]) (by rw [e2]; exact ho)
theorem xc {c : Operand} (b : Bool) {x y : Code} {l : LS} {Q : Ex → LS → Prop} (h1 : b = true → OkX ro ds P N x l Q) (h2 : b = false → OkX ro ds P N y l Q) (hc : evS (ofL l) c = .p (.bool b) := by kernel_rfl) : OkX ro ds P N (.cond c x y) l Q := yyr1 hc h1 h2
theorem yxs1 {c : Code} {l0 l1 : LS} {Q : Ex → LS → Prop} (h : RegX ro ds P N c l0 l1) (hq : Q .normal l1) : OkX ro ds P N c l0 Q := h Q hq
theorem ywp1 {c b : Code} {l0 l1 : LS} {Q : LS → Prop} (h : RegX none [] P N c l0 l1) (hq : OkF P N b l1 Q) (hc : codeX 0 N c = true := by kernel_rfl) : OkF P N (.seq c b) l0 Q := yws1 hc (h _ hq)
theorem f_sq {a b : Code} {l : LS} {Q : LS → Prop} (h : OkX none [] P N a l (seqL (fun l' => OkF P N b l' Q) (fun e l' => e = .ret ∧ Q l'))) (hc : codeX 0 N a = true := by kernel_rfl) : OkF P N (.seq a b) l Q := yws1 hc h
theorem yas1 {c b rest : Code} {l0 l1 : LS} {Q : LS → Prop} (h : RegX none [] P N c l0 l1) (hq : OkT P N b rest l1 Q) (hc : codeX 0 N c = true := by kernel_rfl) : OkT P N (.seq c b) rest l0 Q := yat1 hc h hq
theorem mof {f : FuncId} {fn : Func} {c : Code} {args : List Arg} {res : Res} (hf : P.funcs[f]? = some fn) (l0 : LS) (h : OkF P fn.ntmps c l0 fun l' => ∃ ls, retVs P (ofL l') fn.results.toList = some ls ∧ ovOk ls = true ∧ ls.map (·.1) = res.vals) (hb : fn.body = some c := by rfl) (hc : callable P f = true := by kernel_rfl)
  (hN : (decide (args.length ≤ fn.ntmps) && args.all notPtrA) = true := by kernel_rfl) (hl0 : (List.range args.length).zip (args.map argSV) = l0 := by kernel_rfl) : Meets P f args res := yej1 hc hf hb hN hl0 h
theorem fe {fn : Func} {res : Res} {l : LS} (ls : List (RV × Nat)) (h1 : retVs P (ofL l) fn.results.toList = some ls := by kernel_rfl) (h2 : ovOk ls = true := by rfl) (h3 : ls.map (·.1) = res.vals := by kernel_rfl) : ∃ ls, retVs P (ofL l) fn.results.toList = some ls ∧ ovOk ls = true ∧ ls.map (·.1) = res.vals := ⟨ls, h1, h2, h3⟩
theorem yjm1 {α β : Type} (f : α → β) (g : β → List C) (l : List α) (h : ∀ x, (g x).all (fun c => match c with | .raw _ => true | _ => false) = true) : rawR ((l.map f).map g) = true := by
 unfold rawR
 rw [List.all_map, List.all_map, List.all_eq_true]
 intro x _
 exact h (f x)
end Go.PV

/-
 Plain laws of loops, elements and wraps.
 Conditions: none.
-/
namespace Go.PV
theorem yka {n : Int} (h1 : -9223372036854775808 ≤ n) (h2 : n ≤ 9223372036854775807) : w64 n = n := IntWalk.i64_in n ⟨h1, h2⟩
theorem ywe {n : Nat} (h2 : n < 9223372036854775807) : w64 ((n : Int) + 1) = ((n + 1 : Nat) : Int) := by
 rw [yka (by omega) (by omega)]; omega
section
variable {α β X Y : Type}
theorem ylm (xs : List α) (i : Nat) : idxO xs (i : Int) = xs[i]? := by simp [idxO]
theorem yhs {xs : List α} {i : Nat} (h : i < xs.length) : idxO xs (i : Int) = some xs[i] := by simp [idxO, h]
theorem yzz {p : Prop} [Decidable p] (h : p) : guardO p = some () := by simp [guardO, h]
theorem yda {p : Prop} [Decidable p] {f : Unit → Option α} (h : p) : (guardO p).bind f = f () := by simp [guardO, h]
theorem yae {body : X → Option (X ⊕ Y)} (n : Nat) (S : Nat → X) (y : Y) (h1 : ∀ i, i < n → body (S i) = some (.inl (S (i + 1)))) (h2 : body (S n) = some (.inr y)) : loopO body (S 0) = some y := by
 have : ∀ k, k ≤ n → loopO body (S (n - k)) = some y := by
  intro k; induction k with
  | zero => intro _; rw [yar, Nat.sub_zero, h2]
  | succ k ih =>
   intro hk; rw [yar, h1 _ (by omega)]; have := ih (by omega)
   rwa [show n - (k + 1) + 1 = n - k by omega]
 simpa using this n (Nat.le_refl n)
theorem ygr {body : X → Option (X ⊕ Y)} (Inv : X → Prop) (μ : X → Nat) (R : Y → Prop) (h : ∀ x, Inv x → (∃ x', body x = some (.inl x') ∧ Inv x' ∧ μ x' < μ x) ∨ (∃ y, body x = some (.inr y) ∧ R y)) (x0 : X) (h0 : Inv x0) : ∃ y, loopO body x0 = some y ∧ R y := by
 have : ∀ n x, μ x = n → Inv x → ∃ y, loopO body x = some y ∧ R y := by
  intro n; induction n using Nat.strongRecOn with
  | ind n ih =>
   intro x hx hi; rcases h x hi with ⟨x', h1, h2, h3⟩ | ⟨y, h1, h2⟩
   ·obtain ⟨y, h4, h5⟩ := ih _ (by omega) x' rfl h2
    exact ⟨y, by rw [yar, h1]; exact h4, h5⟩
   exact ⟨y, by rw [yar, h1], h2⟩
 exact this _ x0 rfl h0
theorem yaa1 {xs : List α} {body : X → Option (X ⊕ Y)} (p : α → Bool) (S : Nat → X) (yes : Nat → Y) (no : Y) (h1 : ∀ i x, xs[i]? = some x → body (S i) = some (if p x then .inr (yes i) else .inl (S (i + 1)))) (h2 : body (S xs.length) = some (.inr no)) :
  loopO body (S 0) = some (match xs.findIdx? p with | some i => yes i | none => no) := by
 cases h : xs.findIdx? p with
 | none =>
  have hn := List.findIdx?_eq_none_iff.1 h
  refine yae xs.length S no (fun i hi => ?_) h2
  rw [h1 i xs[i] (List.getElem?_eq_getElem hi), hn _ (List.getElem_mem hi)]; rfl
 | some m =>
  obtain ⟨hm, hp, hlt⟩ := List.findIdx?_eq_some_iff_getElem.1 h
  refine yae m S (yes m) (fun i hi => ?_) ?_
  ·rw [h1 i xs[i] (List.getElem?_eq_getElem (by omega))]
   have := hlt i hi
   simp [this]
  rw [h1 m xs[m] (List.getElem?_eq_getElem hm), hp]; rfl
theorem ykm1 {xs : List α} {body : X → Option (X ⊕ Y)} (p : α → Bool) (S : Nat → X) (yes no : Y) (h1 : ∀ i x, xs[i]? = some x → body (S i) = some (if p x then .inr yes else .inl (S (i + 1)))) (h2 : body (S xs.length) = some (.inr no)) :
  loopO body (S 0) = some (if xs.any p then yes else no) := by
 rw [yaa1 p S (fun _ => yes) no h1 h2]
 cases h : xs.findIdx? p with
 | none =>
  have hn := List.findIdx?_eq_none_iff.1 h
  have : xs.any p = false := by simpa using hn
  simp [this]
 | some m =>
  obtain ⟨hm, hp, _⟩ := List.findIdx?_eq_some_iff_getElem.1 h
  have : xs.any p = true := by simp; exact ⟨xs[m], List.getElem_mem hm, hp⟩
  simp [this]
theorem getElem?_lt {xs : List α} {i : Nat} {x : α} (h : xs[i]? = some x) : i < xs.length := (List.getElem?_eq_some_iff.1 h).1
end
end Go.PV

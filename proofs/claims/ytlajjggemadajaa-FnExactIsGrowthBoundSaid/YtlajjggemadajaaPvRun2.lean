/-
  A walk over pure values: whole operations reckoned.
  Conditions: none.
-/
import Derived.Test.YtlajjggemadajaaPvRun
set_option linter.all false
namespace Go.PV
variable {P : Program} {N : Nat}

def xIntOf : SV → Option Int
  | .p (.int .i64 n) => some n
  | _ => none
def xAny : SV → Option Int
  | .p (.int _ n) => some n
  | _ => none
def xBnd (ev : Operand → SV) (x : Option Operand) (dflt : Nat) : Option (Nat × List Prop) := match x with
  | none => some (dflt, [])
  | some y => match xAny (ev y) with
    | some n => some (n.toNat, [0 ≤ n])
    | none => none
theorem xBnd_ok {ev : Operand → SV} {x : Option Operand} {dflt l : Nat} {obs : List Prop} (e : xBnd ev x dflt = some (l, obs)) (ho : allP obs) : sOp.bnd ev x dflt = some (l : Int) := by
  unfold xBnd at e
  split at e
  · simp only [Option.some.injEq, Prod.mk.injEq] at e
    obtain ⟨rfl, rfl⟩ := e
    rfl
  · split at e
    · rename_i y n hn
      simp only [Option.some.injEq, Prod.mk.injEq] at e
      obtain ⟨rfl, rfl⟩ := e
      unfold xAny at hn
      split at hn
      · rename_i hy
        simp only [Option.some.injEq] at hn
        subst hn
        simp only [sOp.bnd, hy]
        rw [Int.toNat_of_nonneg ho.1]
      · cases hn
    · cases e

def xMk (P : Program) (e : TypeId) : Bool := decide (((P.info? e).map (·.bytes)).getD 0 ≤ 128)

def pick2 (t : Bool) (x y : SV) : SV := if t then x else y
/-- What an operation yields. -/
def xS (P : Program) (ev : Operand → SV) (rt : Nat → SV) (o : Oper) (h : HH) : Option (SV × List Prop) :=
  match o.op with
  | .move x => if noTup (ev x) then some (ev x, []) else none
  | .pick c a b => (match ev c, h.b with
    | .p (.bool t), some t0 => if noTup (pick2 t0 (ev a) (ev b)) = true then some (pick2 t0 (ev a) (ev b), [t = t0]) else none
    | _, _ => none)
  | .binOp op t x y _ => xBin P op t (ev x) (ev y) (xPure P ev o h)
  | .unOp .neg _ x => (match ev x with
    | .p (.int k n) => some (.p (.int k (k.wrap (0 - n))), [])
    | _ => none)
  | .unOp .not _ x => (match ev x with
    | .p (.bool b) => some (.p (.bool (!b)), [])
    | _ => none)
  | .convert .. => xPure P ev o h
  | .load t a => xLoad P rt t (ev a) h
  | .fieldAddr t a k => (match fldO P t k, ev a with
    | some off, .fadr cs => some (.fadr (cs.drop off), [])
    | some off, .addr r q => some (.addr r (bumpP q off), [])
    | _, _ => none)
  | .indexAddr t x i => xIdx P rt t (ev x) (ev i) h
  | .extract x k => (match ev x with
    | .tup l => (match l[k]? with
      | some y => if isDR y then some (y, []) else none
      | none => none)
    | _ => none)
  | .alloc t => (match zeroC P t with
    | some cs => some (.box cs, [])
    | none => none)
  | .makeSlice t l c => (match xIntOf (ev l), xIntOf (ev c), slE P t with
    | some n, some n', some (e, _) => (match zeroC P e with
      | some z => if xMk P e then some (.ov false [.sl (some e) (List.replicate n.toNat z)], [n' = n, 0 ≤ n, n ≤ 1099511627776]) else none
      | none => none)
    | _, _, _ => none)
  | .buildSlice t n parts => (match slE P t with
    | some (e, sz) => (match sOp.partsOf ev sz parts.toList 0 with
      | some rows => if parts.size = n ∧ n ≤ 65536 ∧ sz ≤ 16 ∧ (P.info? e).any (·.zero.isSome) = true then some (.ov false [.sl (some e) rows], []) else none
      | none => none)
    | none => none)
  | .slice t x lo hi none => (match ev x with
    | .d false [.sl none rows] => (match slE P t, xBnd ev lo 0, xBnd ev hi rows.length with
      | some (_, sz), some (l, o1), some (hh, o2) => some (.d false [.sl none ((rows.take hh).drop l)], (l ≤ hh) :: (hh ≤ rows.length) :: (∀ row ∈ rows, row.length = sz) :: (o1 ++ o2))
      | _, _, _ => none)
    | _ => xPure P ev o h)
  | .call c => (match c.callee with
    | .builtin .len => (match c.args.toList, c.argTypes.toList with
      | [x], [t] => xLen P rt t (ev x) h
      | _, _ => none)
    | .builtin .min => (match c.args.toList with
      | [x, y] => (match ev x, ev y with
        | .p (.int k a), .p (.int k' b) => if k = k' then some (.p (.int k (if b < a then b else a)), []) else none
        | _, _ => none)
      | _ => none)
    | .builtin .max => (match c.args.toList with
      | [x, y] => (match ev x, ev y with
        | .p (.int k a), .p (.int k' b) => if k = k' then some (.p (.int k (if a < b then b else a)), []) else none
        | _, _ => none)
      | _ => none)
    | .value fn => (match sOp.fnOf (ev fn), toArgs rt (c.args.toList.map ev), h.call with
      | some (f, caps), some as0, some (as, vals, true) => if sOp.noPtr as then some (resSV vals, [as0 = as, Meets P f (as ++ caps) { vals := vals }, vals.all simpleR = true]) else none
      | _, _, _ => none)
    | _ => none)
  | .build t parts => (match sOp.buildC P ev t parts.toList with
    | some cs => some (mkD true cs, [])
    | none => none)
  | .makeFunc (.func f) first caps => if first.size = 0 then (match sOp.capsOf (caps.toList.map ev) with
    | some as => some (.d false [.fn f as], [])
    | none => none) else none
  | .field .. | .index .. => xPure P ev o h
  | _ => none

theorem toList_one {α : Type} {a : Array α} {x : α} (h : a.toList = [x]) : a = #[x] := by
  cases a; simp_all
theorem xS_ok {ev : Operand → SV} {rt : Nat → SV} {o : Oper} {h : HH} {y : SV} {obs : List Prop} {K : SV → Prop} (e : xS P ev rt o h = some (y, obs)) (ho : allP obs) (hk : K y) : sOp P ev rt o K := by
  unfold xS at e
  split at e
  · rename_i x hop
    split at e
    · rename_i hn
      simp only [Option.some.injEq, Prod.mk.injEq] at e
      obtain ⟨rfl, rfl⟩ := e
      simp only [sOp, hop]; exact ⟨hn, hk⟩
    · cases e
  · rename_i c a b hop
    split at e
    · rename_i t t0 h1 h2
      split at e
      · rename_i hn
        simp only [Option.some.injEq, Prod.mk.injEq] at e
        obtain ⟨rfl, rfl⟩ := e
        obtain rfl := ho.1
        simp only [sOp, hop]; exact ⟨t, h1, hn, hk⟩
      · cases e
    · cases e
  · rename_i op t x z t2 hop
    simp only [sOp, hop]
    exact xBin_ok (fun z obs h1 h2 h3 => xPure_ok h1 h2 h3) e ho hk
  · rename_i t x hop
    split at e
    · rename_i k n hx
      simp only [Option.some.injEq, Prod.mk.injEq] at e
      obtain ⟨rfl, rfl⟩ := e
      simp only [sOp, hop]; exact ⟨k, n, hx, hk⟩
    · cases e
  · rename_i t x hop
    split at e
    · rename_i b hx
      simp only [Option.some.injEq, Prod.mk.injEq] at e
      obtain ⟨rfl, rfl⟩ := e
      simp only [sOp, hop]; exact ⟨b, hx, hk⟩
    · cases e
  · rename_i hop
    simp only [sOp, hop]
    exact xPure_ok e ho hk
  · rename_i t a hop
    simp only [sOp, hop]
    exact xLoad_ok e ho hk
  · rename_i t a k hop
    simp only [sOp, hop]
    split at e
    · rename_i off cs h1 h2
      simp only [Option.some.injEq, Prod.mk.injEq] at e
      obtain ⟨rfl, rfl⟩ := e
      exact ⟨off, h1, by rw [h2]; exact hk⟩
    · rename_i off r q h1 h2
      simp only [Option.some.injEq, Prod.mk.injEq] at e
      obtain ⟨rfl, rfl⟩ := e
      exact ⟨off, h1, by rw [h2]; exact hk⟩
    · cases e
  · rename_i t x i hop
    simp only [sOp, hop]
    exact xIdx_ok e ho hk
  · rename_i x k hop
    simp only [sOp, hop]
    split at e
    · rename_i l hl
      split at e
      · rename_i z hz
        split at e
        · rename_i hd
          simp only [Option.some.injEq, Prod.mk.injEq] at e
          obtain ⟨rfl, rfl⟩ := e
          exact ⟨l, z, hl, hz, hd, hk⟩
        · cases e
      · cases e
    · cases e
  · rename_i t hop
    simp only [sOp, hop]
    split at e
    · rename_i cs hcs
      simp only [Option.some.injEq, Prod.mk.injEq] at e
      obtain ⟨rfl, rfl⟩ := e
      exact ⟨cs, hcs, hk⟩
    · cases e
  · rename_i t l c hop
    simp only [sOp, hop]
    split at e
    · rename_i n n' e' sz h1 h2 hE
      split at e
      · rename_i z hz
        split at e
        · rename_i hm
          simp only [Option.some.injEq, Prod.mk.injEq] at e
          obtain ⟨rfl, rfl⟩ := e
          obtain ⟨h3, h4, h5, _⟩ := ho
          subst h3
          have hn : ∀ {x : SV}, xIntOf x = some n' → x = .p (.int .i64 ((n'.toNat : Nat) : Int)) := fun {x} hx => by
            unfold xIntOf at hx
            split at hx
            · simp only [Option.some.injEq] at hx
              subst hx
              rw [Int.toNat_of_nonneg h4]
            · cases hx
          exact ⟨n'.toNat, hn h1, hn h2, by omega, e', sz, hE, z, hz, by simpa [xMk] using hm, hk⟩
        · cases e
      · cases e
    · cases e
  · rename_i t n parts hop
    simp only [sOp, hop]
    split at e
    · rename_i e' sz hE
      split at e
      · rename_i rows hr
        split at e
        · rename_i hc
          simp only [Option.some.injEq, Prod.mk.injEq] at e
          obtain ⟨rfl, rfl⟩ := e
          exact ⟨e', sz, hE, rows, hc.1, hc.2.1, hc.2.2.1, hc.2.2.2, hr, hk⟩
        · cases e
      · cases e
    · cases e
  · rename_i t x lo hi hop
    simp only [sOp, hop]
    split at e
    · rename_i rows hx
      rw [hx]
      split at e
      · rename_i e' sz l o1 hh o2 hE h1 h2
        simp only [Option.some.injEq, Prod.mk.injEq] at e
        obtain ⟨rfl, rfl⟩ := e
        obtain ⟨h3, h4, h5, h6⟩ := ho
        rw [allP_append] at h6
        exact ⟨e', sz, hE, l, hh, xBnd_ok h1 h6.1, xBnd_ok h2 h6.2, h3, h4, h5, hk⟩
      · cases e
    · rename_i hx
      split
      · exact absurd (by assumption) (hx _)
      · exact xPure_ok e ho hk
  · rename_i c hop
    simp only [sOp, hop]
    split at e
    · rename_i hc
      simp only [hc]
      split at e
      · rename_i x t ha ht
        exact ⟨x, t, toList_one ha, toList_one ht, xLen_ok e ho hk⟩
      · cases e
    · rename_i hc
      simp only [hc]
      split at e
      · rename_i x z ha
        split at e
        · rename_i k a k' b h1 h2
          split at e
          · rename_i hkk
            subst hkk
            simp only [Option.some.injEq, Prod.mk.injEq] at e
            obtain ⟨rfl, rfl⟩ := e
            exact ⟨x, z, k, a, b, ha, h1, h2, hk⟩
          · cases e
        · cases e
      · cases e
    · rename_i hc
      simp only [hc]
      split at e
      · rename_i x z ha
        split at e
        · rename_i k a k' b h1 h2
          split at e
          · rename_i hkk
            subst hkk
            simp only [Option.some.injEq, Prod.mk.injEq] at e
            obtain ⟨rfl, rfl⟩ := e
            exact ⟨x, z, k, a, b, ha, h1, h2, hk⟩
          · cases e
        · cases e
      · cases e
    · rename_i fn hc
      simp only [hc]
      split at e
      · rename_i f caps as0 as vals h1 h2 h3
        split at e
        · rename_i hp
          simp only [Option.some.injEq, Prod.mk.injEq] at e
          obtain ⟨rfl, rfl⟩ := e
          obtain ⟨h4, h5, h6, _⟩ := ho
          subst h4
          exact ⟨f, caps, as0, { vals := vals }, h1, h2, hp, h5, rfl, h6, hk⟩
        · cases e
      · cases e
    · cases e
  · rename_i t parts hop
    simp only [sOp, hop]
    split at e
    · rename_i cs hcs
      simp only [Option.some.injEq, Prod.mk.injEq] at e
      obtain ⟨rfl, rfl⟩ := e
      exact ⟨cs, hcs, hk⟩
    · cases e
  · rename_i f first caps hop
    simp only [sOp, hop]
    split at e
    · rename_i h0
      split at e
      · rename_i as has
        simp only [Option.some.injEq, Prod.mk.injEq] at e
        obtain ⟨rfl, rfl⟩ := e
        exact ⟨h0, as, has, hk⟩
      · cases e
    · cases e
  · rename_i hop
    simp only [sOp, hop]
    exact xPure_ok e ho hk
  · rename_i hop
    simp only [sOp, hop]
    exact xPure_ok e ho hk
  · cases e
end Go.PV

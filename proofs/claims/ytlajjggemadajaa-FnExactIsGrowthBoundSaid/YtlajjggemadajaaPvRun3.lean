/-
  A walk over pure values: operations that act, reckoned; regions.
  Conditions: none.
-/
import Derived.Test.YtlajjggemadajaaPvRun2
set_option linter.all false
namespace Go.PV
variable {P : Program} {N : Nat}

def nWant (g : Bool) (cs : List C) : Option Nat := if g then some cs.length else none
def xAsg (P : Program) (σ : St) (o : Oper) (d : Nat) (x : Operand) : Option (St × List Prop) :=
  match x with
  | .const (.slice none 0 0) => (match slE P o.type with
    | some (e, _) => some (put σ d (.ov false [.sl (some e) []]), [])
    | none => none)
  | .const v => some (put σ d (.p v), [])
  | .func f => some (put σ d (.p (.func (.func f) #[] #[])), [])
  | .global _ => none
  | .tmp t => (match σ t with
    | .ov _ _ => if t = d then none else some (trans σ t d, [])
    | .box _ => if t = d then none else some (put σ d (.addr t [(0, 0)]), [])
    | .ref r q n => if r = d then (if q = [(0, 0)] ∧ n = none then (match σ r with
          | .ov false [_] => some (σ, [])
          | _ => none) else none)
        else if q = [(0, 0)] then (match σ r with
          | .ov g cs => if n = nWant g cs then some (trans σ r d, []) else none
          | .d g cs => if n = nWant g cs then some (put σ d (.d g cs), []) else none
          | _ => none)
        else some (put σ d (.ref r q n), [])
    | .tup _ => none
    | .addr r q => if r = d then none else some (put σ d (.addr r q), [])
    | y => some (put σ d y, []))
theorem xAsg_ok {σ σ' : St} {o : Oper} {d : Nat} {x : Operand} {obs : List Prop} {K : St → Prop} (e : xAsg P σ o d x = some (σ', obs)) (hk : K σ') : asgK P σ o d x K := by
  unfold xAsg at e
  split at e
  · split at e
    · rename_i e' sz hE
      simp only [Option.some.injEq, Prod.mk.injEq] at e
      obtain ⟨rfl, rfl⟩ := e
      exact ⟨e', sz, hE, hk⟩
    · cases e
  · rename_i v hv
    simp only [Option.some.injEq, Prod.mk.injEq] at e
    obtain ⟨rfl, rfl⟩ := e
    unfold asgK
    split
    · rename_i heq
      simp only [Operand.const.injEq] at heq
      exact absurd heq (hv)
    · rename_i v' _ heq
      cases heq
      exact hk
    · rename_i heq; cases heq
    · rename_i heq; cases heq
    · rename_i heq; cases heq
  · simp only [Option.some.injEq, Prod.mk.injEq] at e
    obtain ⟨rfl, rfl⟩ := e
    exact hk
  · cases e
  · rename_i t
    simp only [asgK]
    split at e
    · rename_i g cs ht
      split at e
      · cases e
      · rename_i hne
        simp only [Option.some.injEq, Prod.mk.injEq] at e
        obtain ⟨rfl, rfl⟩ := e
        simp only [ht]; exact ⟨hne, hk⟩
    · rename_i cs ht
      split at e
      · cases e
      · rename_i hne
        simp only [Option.some.injEq, Prod.mk.injEq] at e
        obtain ⟨rfl, rfl⟩ := e
        simp only [ht]; exact ⟨hne, hk⟩
    · rename_i r q n ht
      simp only [ht]
      split at e
      · rename_i hr
        rw [if_pos hr]
        split at e
        · rename_i hq
          split at e
          · rename_i c hσ
            simp only [Option.some.injEq, Prod.mk.injEq] at e
            obtain ⟨rfl, rfl⟩ := e
            simp only [hσ]; exact ⟨hq.1, hq.2, trivial, hk⟩
          · cases e
        · cases e
      · rename_i hr
        rw [if_neg hr]
        split at e
        · rename_i hq
          rw [if_pos hq]
          split at e
          · rename_i g cs hσ
            split at e
            · rename_i hn
              simp only [Option.some.injEq, Prod.mk.injEq] at e
              obtain ⟨rfl, rfl⟩ := e
              simp only [hσ]; exact ⟨hn, hk⟩
            · cases e
          · rename_i g cs hσ
            split at e
            · rename_i hn
              simp only [Option.some.injEq, Prod.mk.injEq] at e
              obtain ⟨rfl, rfl⟩ := e
              simp only [hσ]; exact ⟨hn, hk⟩
            · cases e
          · cases e
        · rename_i hq
          rw [if_neg hq]
          simp only [Option.some.injEq, Prod.mk.injEq] at e
          obtain ⟨rfl, rfl⟩ := e
          exact hk
    · cases e
    · rename_i r q ht
      split at e
      · cases e
      · rename_i hne
        simp only [Option.some.injEq, Prod.mk.injEq] at e
        obtain ⟨rfl, rfl⟩ := e
        simp only [ht]; exact ⟨hne, hk⟩
    · rename_i h1 h2 h3 h4 h5
      simp only [Option.some.injEq, Prod.mk.injEq] at e
      obtain ⟨rfl, rfl⟩ := e
      split
      · exact absurd (by assumption) (h1 _ _)
      · exact absurd (by assumption) (h2 _)
      · exact absurd (by assumption) (h3 _ _ _)
      · exact absurd (by assumption) (h4 _)
      · exact absurd (by assumption) (h5 _ _)
      · exact hk

def xOld (σ : St) (r : Nat) (q : Path) (h : HH) : Option (List C × List Prop) := match h.row with
  | some cs => some (cs, [getRow (rows1 (σ r)) q = some cs])
  | none => match getRow (rows1 (σ r)) q with
    | some cs => some (cs, [])
    | none => none
theorem xOld_ok {σ : St} {r : Nat} {q : Path} {h : HH} {cs : List C} {obs : List Prop} (e : xOld σ r q h = some (cs, obs)) (ho : allP obs) : getRow (rows1 (σ r)) q = some cs := by
  unfold xOld at e
  split at e
  · simp only [Option.some.injEq, Prod.mk.injEq] at e
    obtain ⟨rfl, rfl⟩ := e
    exact ho.1
  · split at e
    · rename_i h2
      simp only [Option.some.injEq, Prod.mk.injEq] at e
      obtain ⟨rfl, rfl⟩ := e
      exact h2
    · cases e
def xStore (P : Program) (σ : St) (o : Oper) (t : TypeId) (a x : SV) (h : HH) : Option (St × List Prop) :=
  match o.dst, tyC P t, a, mvCells σ x with
  | none, some (_, n), .addr r q, some (cs, mv) => (match xOld σ r q h with
    | some (old, obs) => if 0 < n ∧ isOwnR (σ r) = true ∧ n ≤ old.length ∧ cs.length = n ∧ mv ≠ some r then
        (if ((raws (old.take n)).isSome && (raws cs).isSome) = true then some (stScal σ r q cs, obs) else some (stStruct (goneO σ mv) r q cs, obs)) else none
    | none => none)
  | _, _, _, _ => none
theorem xStore_ok {σ σ' : St} {o : Oper} {t : TypeId} {a x : SV} {h : HH} {obs : List Prop} {K : St → Prop} (e : xStore P σ o t a x h = some (σ', obs)) (ho : allP obs) (hk : K σ') : stK P σ o t a x K := by
  unfold xStore at e
  split at e
  · rename_i g n r q cs mv hd hT hm
    split at e
    · rename_i old obs' hold
      split at e
      · rename_i hc
        obtain ⟨h1, h2, h3, h4, h5⟩ := hc
        split at e
        · rename_i hb
          simp only [Option.some.injEq, Prod.mk.injEq] at e
          obtain ⟨rfl, rfl⟩ := e
          exact ⟨hd, g, n, r, q, old, cs, mv, hT, h1, h2, rfl, xOld_ok hold ho, h3, hm, h4, h5, by rw [if_pos hb]; exact hk⟩
        · rename_i hb
          simp only [Option.some.injEq, Prod.mk.injEq] at e
          obtain ⟨rfl, rfl⟩ := e
          exact ⟨hd, g, n, r, q, old, cs, mv, hT, h1, h2, rfl, xOld_ok hold ho, h3, hm, h4, h5, by rw [if_neg hb]; exact hk⟩
      · cases e
    · cases e
  · cases e

/-- What is appended: its elements; the place that they leave. -/
def xAdd (σ : St) (x : SV) (h : HH) : Option (List (List C) × Option Nat × List Prop) := match xSl σ x h with
  | some (none, rows, obs) => some (rows, none, obs)
  | some (some _, rows, obs) => (match x with
    | .ref r [(0, 0)] none => (match σ r with
      | .ov false [.sl (some _) _] => some (rows, some r, obs)
      | _ => none)
    | _ => none)
  | none => none
theorem xAdd_ok {σ : St} {x : SV} {h : HH} {rows : List (List C)} {mv : Option Nat} {obs : List Prop} (e : xAdd σ x h = some (rows, mv, obs)) (ho : allP obs) : addRows σ x = some (rows, mv) := by
  unfold xAdd at e
  split at e
  · rename_i rows' obs' h1
    simp only [Option.some.injEq, Prod.mk.injEq] at e
    obtain ⟨rfl, rfl, rfl⟩ := e
    simp [addRows, xSl_ok h1 ho]
  · rename_i t rows' obs' h1
    split at e
    · rename_i r
      split at e
      · rename_i t' rows2 h2
        simp only [Option.some.injEq, Prod.mk.injEq] at e
        obtain ⟨rfl, rfl, rfl⟩ := e
        simp [addRows, xSl_ok h1 ho, h2]
      · cases e
    · cases e
  · cases e
def xApp (P : Program) (σ : St) (o : Oper) (t : TypeId) (s x : SV) (h : HH) : Option (St × List Prop) :=
  match slE P t, xAdd σ x h with
  | some (e, sz), some (rows2, mv, obs) => if apE P e = true then (match s with
    | .d false [.sl none []] => some (putO o.dst (.ov false [.sl (some e) rows2]) (goneO σ mv), (rows2.length ≤ 1099511627776) :: (∀ row ∈ rows2, row.length = sz) :: obs)
    | .ref r [(0, 0)] none => if mv = some r then none else (match σ r with
      | .ov false [.sl (some e') rows] => if e' = e then some (putO o.dst (.ov false [.sl (some e) (rows ++ rows2)]) (gone (goneO σ mv) r), (rows.length + rows2.length ≤ 1099511627776) :: (∀ row ∈ rows2, row.length = sz) :: obs) else none
      | _ => none)
    | _ => none) else none
  | _, _ => none
theorem xApp_ok {σ σ' : St} {o : Oper} {t : TypeId} {s x : SV} {h : HH} {obs : List Prop} {K : St → Prop} (e : xApp P σ o t s x h = some (σ', obs)) (ho : allP obs) (hk : K σ') : apK P σ o t s x K := by
  unfold xApp at e
  split at e
  · rename_i e' sz rows2 mv obs' hE hA
    split at e
    · rename_i hap
      split at e
      · simp only [Option.some.injEq, Prod.mk.injEq] at e
        obtain ⟨rfl, rfl⟩ := e
        exact ⟨e', sz, rows2, mv, hE, hap, xAdd_ok hA ho.2.2, ho.2.1, ho.1, hk⟩
      · rename_i r
        split at e
        · cases e
        · rename_i hmv
          split at e
          · rename_i e2 rows hσ
            split at e
            · rename_i he
              simp only [Option.some.injEq, Prod.mk.injEq] at e
              obtain ⟨rfl, rfl⟩ := e
              refine ⟨e', sz, rows2, mv, hE, hap, xAdd_ok hA ho.2.2, ho.2.1, hmv, ?_⟩
              simp only [hσ]
              exact ⟨he, ho.1, hk⟩
            · cases e
          · cases e
      · cases e
    · cases e
  · cases e

def xCall (P : Program) (σ : St) (o : Oper) (fn : Operand) (args : List Operand) (h : HH) : Option (St × List Prop) :=
  match sOp.fnOf (evS σ fn), toArgs σ (args.map (evS σ)), h.call with
  | some (f, caps), some as0, some (as, vals, b) => if sOp.noPtr as = true then
      some (putO o.dst (resSV vals) (if b then σ else frzAll ((args.map (evS σ)).flatMap rootOf) σ), [as0 = as, Meets P f (as ++ caps) { vals := vals }, vals.all simpleR = b]) else none
  | _, _, _ => none
theorem xCall_ok {σ σ' : St} {o : Oper} {fn : Operand} {args : List Operand} {h : HH} {obs : List Prop} {K : St → Prop} (e : xCall P σ o fn args h = some (σ', obs)) (ho : allP obs) (hk : K σ') : callK P σ o fn args K := by
  unfold xCall at e
  split at e
  · rename_i f caps as0 as vals b h1 h2 h3
    split at e
    · rename_i hp
      simp only [Option.some.injEq, Prod.mk.injEq] at e
      obtain ⟨rfl, rfl⟩ := e
      obtain ⟨h4, h5, h6, _⟩ := ho
      subst h4
      exact ⟨f, caps, as0, { vals := vals }, h1, h2, hp, h5, rfl, by rw [h6]; exact hk⟩
    · cases e
  · cases e

/-- An operation. -/
def xOp0 (P : Program) (o : Oper) (σ : St) (h : HH) : Option (St × List Prop) :=
  match o.op with
  | .assign x => (match o.dst with | some d => xAsg P σ o d x | none => none)
  | .store t a x => xStore P σ o t (evS σ a) (evS σ x) h
  | .box t x => (match tyC P t, mvCells σ (evS σ x) with
    | some (_, n), some (cs, mv) => if cs.length = n then some (putO o.dst (.box cs) (goneO σ mv), []) else none
    | _, _ => none)
  | .call { callee := .builtin .append, args := args, argTypes := ts } => (match args.toList, ts.toList with
    | [s, x], [t, t'] => if t = t' then xApp P σ o t (apSrc σ s) (evS σ x) h else none
    | _, _ => none)
  | .call { callee := .value fn, args := args, argTypes := _ } => xCall P σ o fn args.toList h
  | .move (.tmp t) => (match σ t with
    | .tup _ => (match o.dst with
      | some d => if t = d then none else some (trans σ t d, [])
      | none => none)
    | _ => (match xS P (evS σ) σ o h with
      | some (x, obs) => some (putO o.dst x σ, obs)
      | none => none))
  | .extract (.tmp t) k => (match σ t with
    | .tup l => (match l[k]? with
      | some (.ov g cs) => some (putO o.dst (.ov g cs) (upd σ t (.tup (l.set k .u))), [])
      | some y => if isDR y = true then some (putO o.dst y σ, []) else none
      | none => none)
    | _ => none)
  | .buildSlice t n parts => (match xS P (evS σ) σ o h with
    | some (x, obs) => some (putO o.dst x σ, obs)
    | none => (match slE P t, parts.toList with
      | some (e, sz), [(0, x)] => (match mvCells σ (evS σ x) with
        | some (cs, some r) => if apE P e = true ∧ n = 1 ∧ cs.length = sz ∧ 0 < sz ∧ sz ≤ 16 then some (putO o.dst (.ov false [.sl (some e) [cs]]) (gone σ r), []) else none
        | _ => none)
      | _, _ => none))
  | _ => (match xS P (evS σ) σ o h with
    | some (x, obs) => some (putO o.dst x σ, obs)
    | none => none)
theorem xOp0_ok {σ σ' : St} {o : Oper} {h : HH} {obs : List Prop} {K : St → Prop} (e : xOp0 P o σ h = some (σ', obs)) (ho : allP obs) (hk : K σ') : pvOp P o σ K := by
  have gen : ∀ {x obs}, xS P (evS σ) σ o h = some (x, obs) → allP obs → K (putO o.dst x σ) → sOp P (evS σ) σ o (fun x => K (putO o.dst x σ)) := fun h1 h2 h3 => xS_ok (K := fun x => K (putO o.dst x σ)) h1 h2 h3
  unfold xOp0 at e
  split at e
  · rename_i x hop
    split at e
    · rename_i d hd
      simp only [pvOp, hop, hd]
      exact xAsg_ok e hk
    · cases e
  · rename_i t a x hop
    simp only [pvOp, hop]
    exact xStore_ok e ho hk
  · rename_i t x hop
    simp only [pvOp, hop]
    split at e
    · rename_i g n cs mv h1 h2
      split at e
      · rename_i hn
        simp only [Option.some.injEq, Prod.mk.injEq] at e
        obtain ⟨rfl, rfl⟩ := e
        exact ⟨g, n, cs, mv, h1, h2, hn, hk⟩
      · cases e
    · cases e
  · rename_i args ts hop
    simp only [pvOp, hop]
    split at e
    · rename_i s x t t' h1 h2
      split at e
      · rename_i ht
        subst ht
        exact ⟨s, x, t, h1, h2, xApp_ok e ho hk⟩
      · cases e
    · cases e
  · rename_i fn args ts hop
    simp only [pvOp, hop]
    exact xCall_ok e ho hk
  · rename_i t hop
    simp only [pvOp, hop]
    split at e
    · rename_i l hl
      split at e
      · rename_i d hd
        split at e
        · cases e
        · rename_i hne
          simp only [Option.some.injEq, Prod.mk.injEq] at e
          obtain ⟨rfl, rfl⟩ := e
          rw [hl]
          exact ⟨d, hd, hne, hk⟩
      · cases e
    · rename_i hno
      split at e
      · rename_i x obs' hx
        simp only [Option.some.injEq, Prod.mk.injEq] at e
        obtain ⟨rfl, rfl⟩ := e
        have := gen hx ho hk
        split
        · exact absurd (by assumption) (hno _)
        · exact this
      · cases e
  · rename_i t k hop
    simp only [pvOp, hop]
    split at e
    · rename_i l hl
      split at e
      · rename_i g cs hy
        simp only [Option.some.injEq, Prod.mk.injEq] at e
        obtain ⟨rfl, rfl⟩ := e
        exact ⟨l, _, hl, hy, hk⟩
      · rename_i y hy hno
        split at e
        · rename_i hd
          simp only [Option.some.injEq, Prod.mk.injEq] at e
          obtain ⟨rfl, rfl⟩ := e
          refine ⟨l, y, hl, hno, ?_⟩
          split
          · exact absurd rfl (hy _ _)
          · exact ⟨hd, hk⟩
        · cases e
      · cases e
    · cases e
  · rename_i t n parts hop
    simp only [pvOp, hop]
    split at e
    · rename_i x obs' hx
      simp only [Option.some.injEq, Prod.mk.injEq] at e
      obtain ⟨rfl, rfl⟩ := e
      exact .inl (gen hx ho hk)
    · split at e
      · rename_i e' sz x hE hp
        split at e
        · rename_i cs r hm
          split at e
          · rename_i hc
            simp only [Option.some.injEq, Prod.mk.injEq] at e
            obtain ⟨rfl, rfl⟩ := e
            exact .inr ⟨e', sz, x, cs, r, hE, hc.1, hp, hc.2.1, hm, hc.2.2.1, hc.2.2.2.1, hc.2.2.2.2, hk⟩
          · cases e
        · cases e
      · cases e
  · rename_i h1 h2 h3 h4 h5 h6 h7 h8
    split at e
    · rename_i x obs' hx
      simp only [Option.some.injEq, Prod.mk.injEq] at e
      obtain ⟨rfl, rfl⟩ := e
      have := gen hx ho hk
      unfold pvOp
      split
      · exact absurd (by assumption) (h1 _)
      · exact absurd (by assumption) (h2 _ _ _)
      · exact absurd (by assumption) (h3 _ _)
      · exact absurd (by assumption) (h4 _ _)
      · exact absurd (by assumption) (h5 _ _ _)
      · exact absurd (by assumption) (h6 _)
      · exact absurd (by assumption) (h7 _ _)
      · exact absurd (by assumption) (h8 _ _ _)
      · exact this
    · cases e

def xFix (σ : St) (h : HH) : St × List Prop := match h.fix with
  | some (k, x) => (fun s => if s = k then x else σ s, [σ k = x])
  | none => (σ, [])
theorem xFix_ok {σ : St} {h : HH} (ho : allP (xFix σ h).2) : (xFix σ h).1 = σ := by
  unfold xFix at ho ⊢
  split
  · rename_i k x hk
    simp only [hk] at ho
    funext s
    show (if s = k then x else σ s) = σ s
    split
    · rename_i hs; rw [hs]; exact ho.1.symm
    · rfl
  · rfl

def hintAt (hs : List (Nat × HH)) (k : Nat) : HH := match hs.lookup k with
  | some h => h
  | none => {}
/-- Which way a guard sends. -/
def xGuard (ops : Array Oper) (o : Oper) (σ : St) (h : HH) : Option (Bool × List Prop) := match o.guard with
  | none => some (true, [])
  | some (j, want) => match (ops[j]?).bind (·.dst) with
    | some d => (match σ d, h.g with
      | .p (.bool b), some t => some (t == want, [b = t])
      | .p (.tuple vs), _ => if vs.size = 0 then some (false, []) else none
      | _, _ => none)
    | none => none
theorem xGuard_ok {ops : Array Oper} {o : Oper} {σ : St} {h : HH} {t : Bool} {obs : List Prop} {run skip : Prop} (e : xGuard ops o σ h = some (t, obs)) (ho : allP obs) (hk : if t then run else skip) : gOp ops o σ run skip := by
  unfold xGuard at e
  unfold gOp
  split at e
  · rename_i hg
    simp only [Option.some.injEq, Prod.mk.injEq] at e
    obtain ⟨rfl, rfl⟩ := e
    simp only [hg]; exact hk
  · rename_i j want hg
    simp only [hg]
    split at e
    · rename_i d hd
      refine ⟨d, hd, ?_⟩
      split at e
      · rename_i b t' h1 h2
        simp only [Option.some.injEq, Prod.mk.injEq] at e
        obtain ⟨rfl, rfl⟩ := e
        simp only [h1]
        rw [ho.1]
        by_cases hw : t' = want
        · subst hw; simpa using hk
        · rw [if_neg hw]
          have : (t' == want) = false := by simpa using hw
          simpa [this] using hk
      · rename_i vs h1
        split at e
        · rename_i hv
          simp only [Option.some.injEq, Prod.mk.injEq] at e
          obtain ⟨rfl, rfl⟩ := e
          simp only [h1]
          exact ⟨hv, hk⟩
        · cases e
      · cases e
    · cases e

def xL (P : Program) (ops : Array Oper) (hs : List (Nat × HH)) : Nat → List Oper → St → Option (St × List Prop)
  | _, [], σ => some (σ, [])
  | k, o :: l, σ => match xGuard ops o σ (hintAt hs k) with
    | some (true, o1) => (match xOp0 P o σ (hintAt hs k) with
      | some (σ1, o2) => (match xL P ops hs (k + 1) l (xFix σ1 (hintAt hs k)).1 with
        | some (σ2, o3) => some (σ2, o1 ++ (o2 ++ ((xFix σ1 (hintAt hs k)).2 ++ o3)))
        | none => none)
      | none => none)
    | some (false, o1) => (match xL P ops hs (k + 1) l (putO o.dst (.p (.tuple #[])) σ) with
      | some (σ2, o3) => some (σ2, o1 ++ o3)
      | none => none)
    | none => none
theorem xL_ok {ops : Array Oper} {hs : List (Nat × HH)} {K : St → Prop} : ∀ (l : List Oper) (k : Nat) (σ σ' : St) (obs : List Prop), xL P ops hs k l σ = some (σ', obs) → allP obs → K σ' → pvL P ops l σ K
  | [], k, σ, σ', obs, e, ho, hk => by
    simp only [xL, Option.some.injEq, Prod.mk.injEq] at e
    obtain ⟨rfl, rfl⟩ := e
    exact hk
  | o :: l, k, σ, σ', obs, e, ho, hk => by
    simp only [xL] at e
    split at e
    · rename_i o1 hg
      split at e
      · rename_i σ1 o2 h1
        split at e
        · rename_i σ2 o3 h2
          simp only [Option.some.injEq, Prod.mk.injEq] at e
          obtain ⟨rfl, rfl⟩ := e
          rw [allP_append, allP_append, allP_append] at ho
          refine xGuard_ok hg ho.1 ?_
          rw [if_pos rfl]
          refine xOp0_ok h1 ho.2.1 ?_
          rw [xFix_ok ho.2.2.1] at h2
          exact xL_ok l (k + 1) _ _ _ h2 ho.2.2.2 hk
        · cases e
      · cases e
    · rename_i o1 hg
      split at e
      · rename_i σ2 o3 h2
        simp only [Option.some.injEq, Prod.mk.injEq] at e
        obtain ⟨rfl, rfl⟩ := e
        rw [allP_append] at ho
        refine xGuard_ok hg ho.1 ?_
        simp only [Bool.false_eq_true, if_false]
        exact xL_ok l (k + 1) _ _ _ h2 ho.2 hk
      · cases e
    · cases e

/-- A store into a new box, where the order is open. -/
def xDSt (P : Program) (rt : Nat → SV) (o : Oper) (σ : St) (d : Nat) : Option (St × List Prop) :=
  match o.op with
  | .store t (.tmp _) x => (match o.guard, o.dst, rt d, tyC P t, σ d, evS σ x with
    | none, none, .tup [], some (_, n), .box old, .p v =>
      if (decide (0 < n) && old.length == n && (raws old).isSome && v.cells.toList.all scal && v.cells.size == n) = true then some (upd σ d (.box (cellsV v)), []) else none
    | _, _, _, _, _, _ => none)
  | _ => none
theorem xDSt_ok {rt : Nat → SV} {o : Oper} {σ σ' : St} {d : Nat} {obs : List Prop} {K : St → Prop} (hd : stOf o = some d) (e : xDSt P rt o σ d = some (σ', obs)) (hk : K σ') : ∃ d y, dStore P rt o σ d y ∧ K (upd σ d y) := by
  unfold xDSt at e
  split at e
  · rename_i t d' x hop
    have hdd : d' = d := by
      unfold stOf at hd
      rw [hop] at hd
      simpa using hd
    subst hdd
    split at e
    · rename_i _ g n old v h1 h2 h3 h4 h5 h6
      split at e
      · rename_i hc
        simp only [Bool.and_eq_true, decide_eq_true_eq, beq_iff_eq] at hc
        obtain ⟨⟨⟨⟨c1, c2⟩, c3⟩, c4⟩, c5⟩ := hc
        simp only [Option.some.injEq, Prod.mk.injEq] at e
        obtain ⟨rfl, rfl⟩ := e
        exact ⟨d', _, ⟨h1, h2, h3, t, x, _, n, old, v, hop, h4, c1, h5, c2, c3, h6, c4, c5, rfl⟩, hk⟩
      · cases e
    · cases e
  · cases e
def xDOp (P : Program) (rt : Nat → SV) (o : Oper) (σ : St) (h : HH) : Option (St × List Prop) :=
  match stOf o with
  | some d => xDSt P rt o σ d
  | none => (match o.dst with
    | some d => if isRoot (σ d) = true then none else (match o.op with
      | .assign x => (match evS σ x with
        | .p v => some (upd σ d (.p v), [])
        | _ => none)
      | _ => (match xS P (evS σ) (rtL rt o σ) o h with
        | some (x, obs) => some (upd σ d x, obs)
        | none => none))
    | none => none)
theorem xDOp_ok {rt : Nat → SV} {o : Oper} {σ σ' : St} {h : HH} {obs : List Prop} {K : St → Prop} (e : xDOp P rt o σ h = some (σ', obs)) (ho : allP obs) (hk : K σ') : dOp P rt o σ K := by
  unfold xDOp at e
  split at e
  · rename_i d hd
    exact .inr (xDSt_ok hd e hk)
  · rename_i hst
    split at e
    · rename_i d hd
      split at e
      · cases e
      · rename_i hr
        refine .inl ⟨d, hd, hst, by simpa using hr, ?_⟩
        split at e
        · rename_i x hop
          split at e
          · rename_i v hv
            simp only [Option.some.injEq, Prod.mk.injEq] at e
            obtain ⟨rfl, rfl⟩ := e
            simp only [hop]
            exact ⟨v, hv, hk⟩
          · cases e
        · rename_i hno
          split at e
          · rename_i x obs' hx
            simp only [Option.some.injEq, Prod.mk.injEq] at e
            obtain ⟨rfl, rfl⟩ := e
            have := xS_ok (K := fun x => K (upd σ d x)) hx ho hk
            split
            · exact absurd (by assumption) (hno _)
            · exact this
          · cases e
    · cases e
def xD (P : Program) (ops : Array Oper) (rt : Nat → SV) (hs : List (Nat × HH)) : Nat → List Oper → St → Option (St × List Prop)
  | _, [], σ => some (σ, [])
  | k, o :: l, σ => match xGuard ops o σ (hintAt hs k) with
    | some (true, o1) => (match xDOp P rt o σ (hintAt hs k) with
      | some (σ1, o2) => (match xD P ops rt hs (k + 1) l (xFix σ1 (hintAt hs k)).1 with
        | some (σ2, o3) => some (σ2, o1 ++ (o2 ++ ((xFix σ1 (hintAt hs k)).2 ++ o3)))
        | none => none)
      | none => none)
    | some (false, o1) => (match o.dst with
      | some d => if (isRoot (σ d) || (stOf o).isSome) = true then none else (match xD P ops rt hs (k + 1) l (upd σ d (.p (.tuple #[]))) with
        | some (σ2, o3) => some (σ2, o1 ++ o3)
        | none => none)
      | none => none)
    | none => none
theorem xD_ok {ops : Array Oper} {rt : Nat → SV} {hs : List (Nat × HH)} {K : St → Prop} : ∀ (l : List Oper) (k : Nat) (σ σ' : St) (obs : List Prop), xD P ops rt hs k l σ = some (σ', obs) → allP obs → K σ' → pvD P ops rt l σ K
  | [], k, σ, σ', obs, e, ho, hk => by
    simp only [xD, Option.some.injEq, Prod.mk.injEq] at e
    obtain ⟨rfl, rfl⟩ := e
    exact hk
  | o :: l, k, σ, σ', obs, e, ho, hk => by
    simp only [xD] at e
    split at e
    · rename_i o1 hg
      split at e
      · rename_i σ1 o2 h1
        split at e
        · rename_i σ2 o3 h2
          simp only [Option.some.injEq, Prod.mk.injEq] at e
          obtain ⟨rfl, rfl⟩ := e
          rw [allP_append, allP_append, allP_append] at ho
          refine xGuard_ok hg ho.1 ?_
          rw [if_pos rfl]
          refine xDOp_ok h1 ho.2.1 ?_
          rw [xFix_ok ho.2.2.1] at h2
          exact xD_ok l (k + 1) _ _ _ h2 ho.2.2.2 hk
        · cases e
      · cases e
    · rename_i o1 hg
      split at e
      · rename_i d hd
        split at e
        · cases e
        · rename_i hr
          split at e
          · rename_i σ2 o3 h2
            simp only [Option.some.injEq, Prod.mk.injEq] at e
            obtain ⟨rfl, rfl⟩ := e
            rw [allP_append] at ho
            refine xGuard_ok hg ho.1 ?_
            simp only [Bool.false_eq_true, if_false]
            have hr' : isRoot (σ d) = false ∧ stOf o = none := by
              cases h5 : isRoot (σ d) <;> cases h6 : stOf o <;> simp_all
            exact ⟨d, hd, hr'.2, hr'.1, xD_ok l (k + 1) _ _ _ h2 ho.2 hk⟩
          · cases e
      · cases e
    · cases e
end Go.PV

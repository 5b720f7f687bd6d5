/-
  A walk over pure values: calls are sound; operations that only yield are sound.
  Conditions: none.
-/
import Derived.Test.YtlajjggemadajaaPvN
set_option linter.all false
namespace Go.PV
variable {P : Program} {N : Nat} {w0 : World} {A : Nat → Prop} {I : List Nat}

/-- Behind a call: the labels. -/
def labC (L : Lab) (w : World) (N : Nat) (Lr : Lab) : Lab := fun b => if b < w.heap.size then L b else match Lr b with
  | some (s, q) => if s = 0 then some (N, q) else none
  | none => none

theorem RV_move {Z Z' : Nat → Prop} {L L' : Lab} {w : World} {s s' i : Nat} {v : Value} {r : RV} {tm : Nat → Value} {σ : St} {B : Nat} (h : RVat P Z L w s i v r)
    (hz : simpleR r = true ∨ ∀ b, Z b → Z' b) (hl : ∀ b q, L b = some (s, (i, B) :: q) → True) (hl' : ∀ b j q, L b = some (s, (i, j) :: q) → L' b = some (s', (i, j) :: q)) : RVat P Z' L' w s' i v r := by
  cases r with
  | p x => exact h
  | d g cs =>
    rcases hz with hz | hz
    · simp [simpleR] at hz
    · exact FrzV.mono h fun b hb => ⟨hz b hb, rfl⟩
  | ov g cs =>
    refine ⟨h.1, fun j c hj => ?_⟩
    rcases hz with hz | hz
    · exact (h.2 j c hj).move_own [(i, j)] (wnR_mem hz (List.mem_of_getElem? hj)) fun b q hb => ⟨by simpa using hl' b j q (by simpa using hb), rfl⟩
    · exact (h.2 j c hj).move [(i, j)] (fun b hb => ⟨hz b hb, rfl⟩) fun b q hb => ⟨by simpa using hl' b j q (by simpa using hb), rfl⟩

theorem res_rel {Z : Nat → Prop} {L : Lab} {w : World} {tm : Nat → Value} {σ : St} {s : Nat} {v : Value} {l : List RV} (h : ResAt P Z L w s v l) : RelS P Z L w tm σ s v (resSV l) := by
  have tup : (∃ arr : Array Value, v = .tuple arr ∧ arr.size = l.length ∧ ∀ j r, l[j]? = some r → RVat P Z L w s j (arr.getD j undef) r) → RelS P Z L w tm σ s v (.tup (l.map RV.sv)) := by
    rintro ⟨arr, h1, h2, h3⟩
    refine ⟨arr, h1, by simpa using h2, fun j y hj => ?_⟩
    rw [List.getElem?_map] at hj
    cases hr : l[j]? with
    | none => simp [hr] at hj
    | some r =>
      simp [hr] at hj
      subst hj
      have := h3 j r hr
      cases r <;> exact this
  match l, h, tup with
  | [r], h, _ => cases r <;> exact h
  | [], h, tup => exact tup h
  | _ :: _ :: _, h, tup => exact tup h

/-- **Calls are sound.** -/
theorem call_ok {σ : St} {a : Act} {w : World} {L : Lab} (hR : Rel P N N w0 A I σ a w L) {rt : Nat → SV} (hrt : ∀ r, rt r = σ r ∨ rt r = .u) {fn : Operand} {args : List Operand} {f : FuncId} {caps as : List Arg} {res : Res}
    (hf : sOp.fnOf (evS σ fn) = some (f, caps)) (ha : toArgs rt (args.map (evS σ)) = some as) (hp : sOp.noPtr as = true) (hm : Meets P f (as ++ caps) res) (ho : res.outs = []) {fz : Bool} (hfz : fz = true ∨ res.vals.all simpleR = true) :
    ∃ vs, a.eval fn = .func (.func f) #[] vs ∧ Calls P f (args.toArray.map a.eval ++ vs) w fun e w' => ∃ v L1, e = .returned v ∧
      Rel P N (N + 1) w0 A I (if fz then frzAll ((args.map (evS σ)).flatMap rootOf) σ else σ) a w' L1 ∧
      RelS P (Zof w0 A L1 w') L1 w' (tmOf a) (if fz then frzAll ((args.map (evS σ)).flatMap rootOf) σ else σ) N v (resSV res.vals) := by
  let R := (args.map (evS σ)).flatMap rootOf
  obtain ⟨vs, hv, hcaps⟩ := fnOf_ok (R := R) hR hf
  obtain ⟨hargs, hnt⟩ := toArgs_ok (R := R) hR hrt args as ha hp (fun r h => h)
  refine ⟨vs, hv, ?_⟩
  have hlow : ∀ b, Reads w0 A L w R b → b < w.heap.size ∧ b ∉ ([] : List Nat) := by
    rintro b (h | ⟨r, _, q, _, h⟩)
    · exact ⟨h.2.1, by simp⟩
    · exact ⟨(hR.lab b _ h).1, by simp⟩
  have hc := hm.2 w (Reads w0 A L w R) [] (args.toArray.map a.eval ++ vs) hlow (by simp) (by simp) (by
    have := (hargs.append hcaps).rep
    simpa using this)
  refine hc.mono ?_
  rintro e w' ⟨v, Lr, rfl, hpost⟩
  -- the state that the call leaves behind
  have hst : ∃ Lf, Rel P N N w0 A I (if fz then frzAll R σ else σ) a w Lf ∧ (fz = true → ∀ b, Reads w0 A L w R b → Zof w0 A Lf w b) := by
    cases fz with
    | false => exact ⟨L, hR, fun h => by cases h⟩
    | true =>
      obtain ⟨L', h1, h2, h3⟩ := frzL_keep hR R hnt
      refine ⟨L', h1, fun _ b hb => ?_⟩
      rcases hb with h | ⟨r, hr, q, hq, h⟩
      · exact h2 b h
      · exact h3 r hr q b hq h
  obtain ⟨Lf, hRf, hzf⟩ := hst
  have hG : Grow N Lf w (labC Lf w N Lr) w' := by
    refine ⟨hpost.ev.os, hpost.ev.tape, hpost.ev.output, hpost.ev.size, fun b h => hpost.ev.block b h (by simp), fun b h => by simp [labC, h], fun b h l hl => ?_, ?_⟩
    · simp only [labC, if_neg (by omega : ¬ b < w.heap.size)] at hl
      split at hl
      · rename_i s q hb
        split at hl
        · obtain rfl := Option.some.inj hl
          exact ⟨rfl, (hpost.lab b _ hb).1⟩
        · cases hl
      · cases hl
    · intro b b' l h1 h2
      have hN : ∀ b l, b < w.heap.size → Lf b = some l → l.1 < N := fun b l _ h => (hRf.lab b l h).2.2
      simp only [labC] at h1 h2
      split at h1 <;> split at h2
      · exact hRf.inj _ _ _ h1 h2
      · rename_i hb _
        have := hN b l hb h1
        split at h2
        · split at h2
          · obtain rfl := Option.some.inj h2; simp at this
          · cases h2
        · cases h2
      · rename_i hb
        have := hN b' l hb h2
        split at h1
        · split at h1
          · obtain rfl := Option.some.inj h1; simp at this
          · cases h1
        · cases h1
      · split at h1
        · rename_i s q hb
          split at h1
          · obtain rfl := Option.some.inj h1
            rename_i hs
            split at h2
            · rename_i s' q' hb'
              split at h2
              · rename_i hs'
                simp at h2
                subst h2 hs hs'
                exact hpost.inj _ _ _ hb hb'
              · cases h2
            · cases h2
          · cases h1
        · cases h1
  refine ⟨v, _, rfl, hRf.grow hG, res_rel ?_⟩
  have hmove : ∀ i v r, r ∈ res.vals → RVat P (fun b => Lr b = none ∧ b < w'.heap.size ∧ (Reads w0 A L w R b ∨ w.heap.size ≤ b)) Lr w' 0 i v r →
      RVat P (Zof w0 A (labC Lf w N Lr) w') (labC Lf w N Lr) w' N i v r := by
    intro i v r hr h
    refine RV_move (B := 0) (tm := tmOf a) (σ := σ) h ?_ (fun _ _ _ => trivial) fun b j q hb => ?_
    · rcases hfz with hfz | hall
      · right
        rintro b ⟨h1, h2, h3⟩
        have hsz := hR.ev.size
        rcases Nat.lt_or_ge b w.heap.size with hlt | hge
        · rcases h3 with h3 | h3
          · have := hzf hfz b h3
            exact ⟨by simp [labC, hlt, this.1], h2, this.2.2⟩
          · omega
        · exact ⟨by simp [labC, show ¬ b < w.heap.size by omega, h1], h2, .inr (by omega)⟩
      · exact .inl (List.all_eq_true.1 hall r hr)
    · have hge : w.heap.size ≤ b := by
        rcases (hpost.lab b _ hb).2 with h | h
        · exact h
        · simp at h
      simp [labC, show ¬ b < w.heap.size by omega, hb]
  have hval := hpost.val
  match hl : res.vals, hval with
  | [r], hval => exact hmove 0 v r (by rw [hl]; simp) hval
  | [], hval => exact hval.imp fun arr h => ⟨h.1, h.2.1, fun j r hj => by simp at hj⟩
  | r1 :: r2 :: l, hval =>
    exact hval.imp fun arr h => ⟨h.1, h.2.1, fun j r hj => hmove j _ r (by rw [hl]; exact List.mem_of_getElem? hj) (h.2.2 j r hj)⟩

theorem exec_call {a : Act} {o : Oper} {w : World} {fn : Operand} {args : Array Operand} {ts : Array TypeId} {f : FuncId} {vs : Array Value} (ho : o.op = .call { callee := .value fn, args := args, argTypes := ts })
    (hf : a.eval fn = .func (.func f) #[] vs) (hc : callable P f = true) : (execOp a.eval o).run P w = .ok (.enter f (args.map a.eval ++ vs)) w := by
  unfold callable at hc
  cases hfn : P.funcs[f]? with
  | none => simp [hfn] at hc
  | some fd =>
    simp [hfn] at hc
    have h1 : fd.body ≠ none := by intro h; simp [h] at hc
    simp [execOp, ho, resolve, hf, Deferred.ofValue, invoke, callFunc, hfn, h1, hc.2]

theorem wp_call {a : Act} {o : Oper} {w : World} {next : Act → World → Prop} {Q : Exit → Act → World → Prop} {fn : Operand} {args : Array Operand} {ts : Array TypeId} {f : FuncId} {vs : Array Value}
    (ho : o.op = .call { callee := .value fn, args := args, argTypes := ts }) (hf : a.eval fn = .func (.func f) #[] vs) (hc : callable P f = true)
    (h : Calls P f (args.map a.eval ++ vs) w fun e w' => ∃ v, e = .returned v ∧ next (a.put o.dst v) w') : o.wp P a w next Q := by
  unfold Oper.wp
  rw [exec_call ho hf hc]
  simp only [Oper.upon]
  refine h.mono ?_
  rintro e w' ⟨v, rfl, hn⟩
  exact hn

/-! ### plain reckoning -/
theorem int_ok {w : World} {op : BinOp} {t : TypeId} {x y : Operand} {k : IntKind} {a b : Int} {F : Prop} {K : SV → Prop} (h : intK op k a b F K) :
    F ∨ ∃ v, K (.p v) ∧ (do eqGuard op t x y (.int k a) (.int k b); binOp op t (.int k a) (.int k b) : Sem Value).run P w = .ok v w := by
  cases op <;> first
    | exact .inl h
    | exact .inr ⟨_, h, by simp [eqGuard, binOp, Op.intArith, Op.intCmp]⟩
    | exact .inr ⟨_, h.2, by simp [eqGuard, binOp, Op.intDiv, h.1]⟩
theorem bool_ok {w : World} {op : BinOp} {t : TypeId} {x y : Operand} {a b : Bool} {F : Prop} {K : SV → Prop} (h : boolK P op t a b F K) :
    F ∨ ∃ v, K (.p v) ∧ (do eqGuard op t x y (.bool a) (.bool b); binOp op t (.bool a) (.bool b) : Sem Value).run P w = .ok v w := by
  have he : P.underlying t = some .bool → (Op.equal t (.bool a) (.bool b)).run P w = .ok (a == b) w := fun h0 => by
    show (Op.equalIn (9999 + 1) t (.bool a) (.bool b)).run P w = _
    unfold Op.equalIn
    rw [Sem.run_bind, run_underlying h0]
    rfl
  cases op <;> first
    | exact .inl h
    | exact .inr ⟨_, h.2, by simp [eqGuard, binOp, he h.1]⟩
theorem str_ok {w : World} {op : BinOp} {t : TypeId} {x y : Operand} {a b : ByteArray} {F : Prop} {K : SV → Prop} (h : strK op a b F K) :
    F ∨ ∃ v, K (.p v) ∧ (do eqGuard op t x y (.string a) (.string b); binOp op t (.string a) (.string b) : Sem Value).run P w = .ok v w := by
  cases op with
  | eql => exact .inr ⟨_, h, by simp [eqGuard, binOp, Op.stringOp]⟩
  | neq => exact .inr ⟨_, h, by simp [eqGuard, binOp, Op.stringOp]⟩
  | add =>
    have h1 : ¬ (((a.size + b.size : Nat) : Int) > IntKind.i64.max) := by
      have := h.1
      simp [IntKind.max, IntKind.signed, IntKind.bits]
      omega
    refine .inr ⟨_, h.2, ?_⟩
    unfold eqGuard binOp Op.stringOp
    simp only [h1]
    simp
  | _ => exact .inl h
theorem bin_ok {w : World} {op : BinOp} {t : TypeId} {x y : Operand} {ev : Operand → SV} {a : Act} (hev : ∀ z v, ev z = .p v → a.eval z = v) {F : Prop} {K : SV → Prop} (h : binK P op t (ev x) (ev y) F K) :
    F ∨ ∃ v, K (.p v) ∧ (do eqGuard op t x y (a.eval x) (a.eval y); binOp op t (a.eval x) (a.eval y) : Sem Value).run P w = .ok v w := by
  unfold binK at h
  split at h
  · rename_i hx hy
    rw [hev _ _ hx, hev _ _ hy]
    obtain ⟨rfl, h⟩ := h
    exact int_ok h
  · rename_i hx hy
    rw [hev _ _ hx, hev _ _ hy]
    exact bool_ok h
  · rename_i hx hy
    rw [hev _ _ hx, hev _ _ hy]
    exact str_ok h
  · exact .inl h
end Go.PV

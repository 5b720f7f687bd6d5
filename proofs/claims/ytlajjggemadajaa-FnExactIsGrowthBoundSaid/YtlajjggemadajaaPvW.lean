/-
  A walk over pure values: every operation is sound; regions.
  Conditions: none.
-/
import Derived.Test.YtlajjggemadajaaPvV
set_option linter.all false
namespace Go.PV
variable {P : Program} {N : Nat} {w0 : World} {A : Nat → Prop} {I : List Nat}

def toN1 (N : Nat) : Path → Option (Nat × Path)
  | [] => none
  | x :: q => some (N, (0, 0) :: x :: q)

theorem build1_ok {σ : St} {a : Act} {w : World} {L : Lab} (hR : Rel P N N w0 A I σ a w L) {t e : TypeId} {sz r : Nat} {x : Operand} {cs : List C} {parts : Array (Nat × Operand)} (hE : slE P t = some (e, sz)) (hb : apE P e = true)
    (hp : parts.toList = [(0, x)]) (hm : mvCells σ (evS σ x) = some (cs, some r)) (hl : cs.length = sz) (h0 : 0 < sz) (h16 : sz ≤ 16) :
    ∃ v w' L1, (Instr.buildSlice t 1 (parts.map fun (i, x) => (i, a.eval x))).run P w = .ok v w' ∧ Rel P N (N + 1) w0 A I (gone σ r) a w' L1 ∧ RelS P (Zof w0 A L1 w') L1 w' (tmOf a) (gone σ r) N v (.ov false [.sl (some e) [cs]]) := by
  obtain ⟨i, hu, hi, hs, hes⟩ := slE_spec hE
  obtain ⟨i', z, hi', hz, hby, hzs⟩ := apE_spec hb
  rw [hi] at hi'
  obtain rfl := Option.some.inj hi'
  have hx : noTup (evS σ x) = true := by cases hx : evS σ x <;> simp_all [noTup, mvCells]
  obtain ⟨hsz, hv⟩ := mv_ok hR (evS_ok hR 0 x hx) hm
  rcases hv with ⟨h, _⟩ | ⟨r', g, h, hr, htv, hf⟩
  · cases h
  · obtain rfl := Option.some.inj h
    have hparts : parts = #[(0, x)] := by rw [← hp]
    subst hparts
    have hcz : (a.eval x).cells.size = sz := by omega
    -- what is laid
    have hex : ∃ cells : Array Value, Instr.fill (fun i => some (i * sz, sz)) ((Array.range (1 * sz)).map (z.cells[· % z.cells.size]!)) [(0, a.eval x)] = some cells ∧ cells.size = sz ∧ ∀ j, j < sz → cells.getD j undef = (a.eval x).cells.getD j undef := by
      have h1 : (decide ((a.eval x).cells.size ≠ sz) || decide (0 * sz + (a.eval x).cells.size > ((Array.range (1 * sz)).map (z.cells[· % z.cells.size]!)).size)) = false := by
        simp only [Bool.or_eq_false_iff, decide_eq_false_iff_not]
        simp; omega
      simp only [Instr.fill]
      rw [h1]
      simp only [Bool.false_eq_true, if_false]
      have hfold : ∀ arr : Array Value, (a.eval x).cells.zipIdx.foldl (fun cs (c, j) => cs.setIfInBounds (0 * sz + j) c) arr = ((a.eval x).cells.toList.zipIdx 0).foldl (fun (cs : Array Value) (x : Value × Nat) => cs.setIfInBounds (0 * sz + x.2) x.1) arr := fun arr => by
        rw [← Array.foldl_toList, Array.toList_zipIdx]
      obtain ⟨e1, e2⟩ := foldl_zip (0 * sz) (a.eval x).cells.toList 0 ((Array.range (1 * sz)).map (z.cells[· % z.cells.size]!)) (by simp; omega)
      refine ⟨_, rfl, ?_, fun j hj => ?_⟩
      · rw [hfold, e1]; simp
      · rw [hfold, Array.getD_eq_getD_getElem?, e2, if_pos (by simp; omega)]
        simp
    obtain ⟨cells, hc1, hc2, hc3⟩ := hex
    have hrun : (Instr.buildSlice t 1 (#[(0, x)].map fun (i, x) => (i, a.eval x))).run P w = .ok (.slice (some ⟨w.heap.size, 0, none⟩) 1 1) (w.alloc (.cells cells e)) := by
      have hne : ¬ (1 * sz = 0) := by omega
      have hbig : ¬ (16777216 < sz) := by omega
      have hne2 : ¬ sz = 0 := by omega
      simp only [Nat.one_mul] at hc1
      simp [Instr.buildSlice, run_underlying hu, sizeOf, typeInfo, hi, hs, hne2, hbig, zeroValue, hz, hc1, newRow]
    have h1 := hR.take (M' := N + 1) (r := r) (f := toN1 N) (by omega) rfl fun q l h => by
      cases q with
      | nil => cases h
      | cons y q =>
        simp [toN1] at h
        subst h
        refine ⟨by simp, fun b => .inl fun hb => ?_, fun q' h' => ?_⟩
        · have := (hR.lab b _ hb).2.2; simp at this
        · cases q' with
          | nil => cases h'
          | cons y' q' => simp [toN1] at h'; simp [h']
    have h2 := h1.alloc2 cells e [(0, 0)] (fun b hb => by
      rcases mapL_some hb with ⟨q, _, hq⟩ | ⟨hb, _⟩
      · cases q <;> simp [toN1] at hq
      · have := (hR.lab b _ hb).2.2; simp at this)
    refine ⟨_, _, _, hrun, h2, ⟨rfl, rfl⟩, fun j c hj => ?_⟩
    cases j with
    | succ j => simp at hj
    | zero =>
      simp at hj
      subst hj
      refine Rep.own (rows := [cs]) (by simp [lab1]) (heap_alloc_at _ _) (by simp) (by simp [maxLen]) (by rw [hc2, hes]; simp) (by simp; omega) fun i row o c h3 h4 => ?_
      cases i with
      | succ i => simp at h3
      | zero =>
        simp at h3
        subst h3
        have ho : o < sz := by have := (List.getElem?_eq_some_iff.1 h4).1; omega
        simp only [Nat.zero_mul, Nat.zero_add]
        rw [hc3 o ho]
        refine (hf o c h4).move _ (fun b ⟨h5, h6, h7⟩ => ⟨⟨by simp [lab1, mapL, h5]; omega, by simp; omega, h7⟩, heap_alloc_old w _ b h6⟩) fun b q hb => ?_
        have := (hR.lab b _ hb).1
        refine ⟨?_, heap_alloc_old w _ b this⟩
        simp only [List.singleton_append] at hb
        simp [lab1, mapL, hb, toN1]
        omega

theorem apSrc_nil {σ : St} {s : Operand} (h : apSrc σ s = .d false [.sl none []]) : s = .const (.slice none 0 0) := by
  cases s with
  | const v =>
    simp only [apSrc, evS] at h
    split at h
    · rfl
    · cases h
  | tmp z =>
    simp only [apSrc] at h
    cases hz : σ z <;> simp [hz, isD, evS] at h
  | _ => simp [apSrc] at h
theorem apSrc_ref {σ : St} {s : Operand} {r : Nat} {q : Path} {n : Option Nat} (h : apSrc σ s = .ref r q n) : evS σ s = .ref r q n := by
  cases s with
  | const v => exact h
  | tmp z =>
    simp only [apSrc] at h
    split at h
    · cases h
    · exact h
  | _ => simp [apSrc] at h

theorem exec_append {a : Act} {o : Oper} {w w' : World} {s x : Operand} {t : TypeId} {v : Value} (ho : o.op = .call { callee := .builtin .append, args := #[s, x], argTypes := #[t, t] })
    (h : (Builtin.append_ #[t, t] o.type #[a.eval s, a.eval x]).run P w = .ok v w') : (execOp a.eval o).run P w = .ok (.value v) w' := by
  simp [execOp, ho, resolve, invoke, builtin, h]

theorem pvOp_sound {σ : St} {a : Act} {w : World} {L : Lab} (hR : Rel P N N w0 A I σ a w L) {o : Oper} (hd : ∀ d, o.dst = some d → d < N) {K : St → Prop} {next : Act → World → Prop} {Q : Exit → Act → World → Prop} (h : pvOp P o σ K)
    (hn : ∀ a' w' σ' L', K σ' → Rel P N N w0 A I σ' a' w' L' → next a' w') : o.wp P a w next Q := by
  have plain : ∀ {σ1 : St} {v : Value} {w' : World} {L1 : Lab} {sv : SV}, (execOp a.eval o).run P w = .ok (.value v) w' → K (putO o.dst sv σ1) → Rel P N (N + 1) w0 A I σ1 a w' L1 → RelS P (Zof w0 A L1 w') L1 w' (tmOf a) σ1 N v sv → o.wp P a w next Q :=
    fun {σ1 v w' L1 sv} h1 h2 h3 h4 => wp_val h1 (by
      obtain ⟨L', h5⟩ := putO_ok h3 h4 o.dst hd
      exact hn _ _ _ _ h2 h5)
  have dflt : sOp P (evS σ) σ o (fun x => K (putO o.dst x σ)) → o.wp P a w next Q := fun h => sOp_sound hR (fun _ => .inl rfl) h fun v w' L1 sv h1 h2 h3 => by
    obtain ⟨L', h5⟩ := putO_ok h2 h3 o.dst hd
    exact hn _ _ _ _ h1 h5
  cases hop : o.op with
  | assign x =>
    simp only [pvOp, hop] at h
    cases hdst : o.dst with
    | none => rw [hdst] at h; exact h.elim
    | some d =>
      rw [hdst] at h
      obtain ⟨σ', L', h1, h2⟩ := asg_ok hR (hd d hdst) h
      refine wp_val (v := a.eval x) (w' := w) (by simp [execOp, hop]) ?_
      rw [hdst]
      exact hn _ _ _ _ h1 h2
  | store t ea ex =>
    simp only [pvOp, hop] at h
    exact store_ok hR hop h fun w' σ' L' h1 h2 => hn a w' σ' L' h1 h2
  | box t x =>
    simp only [pvOp, hop] at h
    obtain ⟨g, n, cs, mv, _, h1, _, h2⟩ := h
    obtain ⟨v, w', L1, h3, h4, h5⟩ := box_ok (t := t) hR h1
    exact plain (by simp [execOp, hop, h3]) h2 h4 h5
  | move x =>
    cases x with
    | tmp t =>
      simp only [pvOp, hop] at h
      cases ht : σ t with
      | tup l =>
        simp only [ht] at h
        obtain ⟨d, h1, h2, h3⟩ := h
        obtain ⟨L', h4⟩ := transT_ok hR ht (hd d h1)
        refine wp_val (v := a.eval (.tmp t)) (w' := w) (by simp [execOp, hop]) ?_
        rw [h1]
        exact hn _ _ _ _ h3 h4
      | _ => simp only [ht] at h; exact dflt h
    | _ =>
      simp only [pvOp, hop] at h
      exact dflt h
  | extract x k =>
    cases x with
    | tmp t =>
      simp only [pvOp, hop] at h
      obtain ⟨l, y, h1, h2, h3⟩ := h
      cases y with
      | ov g cs =>
        simp only at h3
        obtain ⟨v, L1, h4, h5, h6⟩ := extract_ok hR h1 h2
        refine plain ?_ h3 h5 h6
        simp only [execOp, hop]
        rw [show a.eval (.tmp t) = tmOf a t from rfl, Sem.run_bind, h4]
        rfl
      | _ =>
        simp only at h3
        refine dflt ?_
        simp only [sOp, hop]
        refine ⟨l, _, by simp [evS, h1], h2, h3.1, h3.2⟩
    | _ =>
      simp only [pvOp, hop] at h
      exact dflt h
  | buildSlice t n parts =>
    simp only [pvOp, hop] at h
    rcases h with h | ⟨e, sz, x, cs, r, h1, h2, h3, h4, h5, h6, h7, h8, h9⟩
    · exact dflt h
    · subst h4
      obtain ⟨v, w', L1, h10, h11, h12⟩ := build1_ok hR h1 h2 h3 h5 h6 h7 h8
      refine plain ?_ h9 h11 h12
      simp only [execOp, hop]
      rw [Sem.run_bind, h10]
      rfl
  | call c =>
    obtain ⟨callee, args, ts⟩ := c
    cases callee with
    | value fn =>
      simp only [pvOp, hop] at h
      obtain ⟨f, caps, as, res, h1, h2, h3, h4, h5, h6⟩ := h
      have hfz : (!(res.vals.all simpleR)) = true ∨ res.vals.all simpleR = true := by cases res.vals.all simpleR <;> simp
      obtain ⟨vs, h8, h9⟩ := call_ok (fz := !(res.vals.all simpleR)) hR (fun _ => .inl rfl) h1 h2 h3 h4 h5 hfz
      refine wp_call hop h8 h4.1 ?_
      have : args.toList.toArray = args := by simp
      rw [this] at h9
      refine h9.mono ?_
      rintro e w' ⟨v, L1, rfl, h10, h11⟩
      refine ⟨v, rfl, ?_⟩
      obtain ⟨L', h12⟩ := putO_ok h10 h11 o.dst hd
      refine hn _ _ _ _ ?_ h12
      cases hs : res.vals.all simpleR <;> rw [hs] at h6 <;> simpa using h6
    | builtin b =>
      cases b with
      | append =>
        simp only [pvOp, hop] at h
        obtain ⟨s, x, t, h1, h2, e, sz, rows2, mv, h3, h4, h5, h6, h7⟩ := h
        have hargs : args = #[s, x] := by rw [← h1]
        have hts : ts = #[t, t] := by rw [← h2]
        subst hargs hts
        split at h7
        · rename_i hs
          obtain ⟨h8, h9⟩ := h7
          obtain rfl := apSrc_nil hs
          obtain ⟨v, w', L1, h10, h11, h12⟩ := append_nil_ok (ty := o.type) hR h3 h4 h5 h6 h8
          exact plain (exec_append hop h10) h9 h11 h12
        · rename_i r hs
          obtain ⟨h8, h9⟩ := h7
          split at h9
          · rename_i e' rows hσr
            obtain ⟨rfl, h10, h11⟩ := h9
            obtain ⟨v, w', L1, h12, h13, h14⟩ := append_own_ok (ty := o.type) hR h3 h4 h5 h6 hσr h8 h10
            have hz := apSrc_ref hs
            have hev := evS_ok hR 0 s (by rw [hz]; rfl)
            rw [hz] at hev
            have := whole_ref hR hev (.inl hσr) rfl
            rw [← this] at h12
            exact plain (exec_append hop h12) h11 h13 h14
          · exact h9.elim
        · exact h7.elim
      | _ =>
        simp only [pvOp, hop] at h
        exact dflt h
    | invoke r m =>
      simp only [pvOp, hop] at h
      exact dflt h
  | _ =>
    simp only [pvOp, hop] at h
    exact dflt h
end Go.PV

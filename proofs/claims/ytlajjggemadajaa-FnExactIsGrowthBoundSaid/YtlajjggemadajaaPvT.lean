/-
  A walk over pure values: stores are sound, joined.
  Conditions: none.
-/
import Derived.Test.YtlajjggemadajaaPvS
set_option linter.all false
namespace Go.PV
variable {P : Program} {N : Nat} {w0 : World} {A : Nat → Prop} {I : List Nat}

theorem setL_single {cs0 cs old : List C} {q0 : Path} {i o : Nat} (hg : getRow [cs0] (q0 ++ [(i, o)]) = some old) (hle : cs.length ≤ old.length) (hpos : 0 < cs.length) :
    ∃ cs1, setL [cs0] (q0 ++ [(i, o)]) cs = [cs1] ∧ cs1.length = cs0.length := by
  cases q0 with
  | nil =>
    obtain ⟨row, h1, h2⟩ := getRow_one hg
    rw [List.nil_append, setL_one]
    cases i with
    | succ i => simp at h1
    | zero =>
      simp at h1
      subst h1 h2
      refine ⟨_, rfl, splice_len ?_⟩
      simp at hle
      omega
  | cons x q0 =>
    obtain ⟨i1, o1⟩ := x
    obtain ⟨y, q', hq'⟩ : ∃ x q', q0 ++ [(i, o)] = x :: q' := by
      cases q0 with
      | nil => exact ⟨_, _, rfl⟩
      | cons x q => exact ⟨_, _, rfl⟩
    rw [List.cons_append, hq'] at hg ⊢
    rw [setL_more]
    obtain ⟨row1, e, rows', h1, h2, h3⟩ := getRow_cons hg
    cases i1 with
    | succ i => simp at h1
    | zero => exact ⟨_, rfl, by simp⟩

theorem root_set {σ σ' : St} {a : Act} {w w' : World} {L L' : Lab} {Z' : Nat → Prop} {tm' : Nat → Value} (hR : Rel P N N w0 A I σ a w L) {r i o : Nat} {q0 : Path} {cs old : List C} {vs : Nat → Value} (hown : isOwnR (σ r) = true)
    (S : SetUp P (Zof w0 A L w) L w Z' L' w' r q0 i o cs vs) (B : NewBlock P L w w' r q0 i o cs.length vs) (hg : getRow (rows1 (σ r)) (q0 ++ [(i, o)]) = some old) (hle : cs.length ≤ old.length) (hpos : 0 < cs.length)
    (hbx : q0 = [] → isBox (σ r) = true) : RelS P Z' L' w' tm' σ' r (tmOf a r) (setCs (σ r) (q0 ++ [(i, o)]) cs) := by
  have hs := hR.slot r
  have one : ∀ {cs0 : List C} {i : Nat} {row : List C}, ([cs0] : List (List C))[i]? = some row → i = 0 ∧ row = cs0 := fun {cs0 i row} h => by
    cases i with
    | zero => simp at h; exact ⟨rfl, h.symm⟩
    | succ i => simp at h
  cases hr : σ r with
  | ov g cs0 =>
    rw [hr] at hs hg hbx
    simp only [rows1] at hg
    have hq : q0 ≠ [] := fun h => by have := hbx h; simp [isBox] at this
    obtain ⟨cs1, h1, h2⟩ := setL_single hg hle hpos
    have hk : Kids P (Zof w0 A L w) L w r [] (fun _ o => (tmOf a r).cells.getD o undef) [cs0] := fun i row o c h3 h4 => by
      obtain ⟨rfl, rfl⟩ := one h3
      exact hs.2 o c h4
    have key := set_kids q0 [] [cs0] _ old (by simpa using S) (by simpa using B) hq hk hg hle hpos
    simp only [setCs, h1, List.headD]
    rw [h1] at key
    exact ⟨by rw [h2]; exact hs.1, fun j c hj => key 0 cs1 j c rfl hj⟩
  | box cs0 =>
    rw [hr] at hs hg
    simp only [rows1] at hg
    obtain ⟨b, hv, hl, arr, e, hh, hsz, hk0⟩ := hs
    obtain ⟨cs1, h1, h2⟩ := setL_single hg hle hpos
    have hk : Kids P (Zof w0 A L w) L w r [] (fun _ o => arr.getD o undef) [cs0] := fun i row o c h3 h4 => by
      obtain ⟨rfl, rfl⟩ := one h3
      exact hk0 o c h4
    simp only [setCs, h1, List.headD]
    have hl' : L' b = some (r, []) := S.keep b _ hl (not_under_len (by simp))
    by_cases hq : q0 = []
    · subst hq
      obtain ⟨row, h3, h4⟩ := getRow_one hg
      obtain ⟨rfl, rfl⟩ := one h3
      obtain ⟨arr', ha1, ha2, ha3⟩ := B b arr e hl hh
      have key := set_base S hk (rd' := fun _ o => arr'.getD o undef) h3 (by rw [h4] at hle; simp at hle; omega) fun i' row' o' c h5 h6 => by
        obtain ⟨rfl, rfl⟩ := one h5
        rw [ha3]
        simp
      rw [List.nil_append] at h1
      rw [h1] at key
      exact ⟨b, hv, hl', arr', e, ha1, by rw [ha2, hsz, h2], fun j c hj => key 0 cs1 j c rfl hj⟩
    · have key := set_kids q0 [] [cs0] _ old (by simpa using S) (by simpa using B) hq hk hg hle hpos
      rw [h1] at key
      have hh' : w'.heap[b]? = w.heap[b]? := S.heap b _ hl (not_under_len (by simp)) (fun h => hq h.symm)
      exact ⟨b, hv, hl', arr, e, hh'.trans hh, by rw [h2]; exact hsz, fun j c hj => key 0 cs1 j c rfl hj⟩
  | _ => rw [hr] at hown; simp [isOwnR] at hown

theorem setCs_root {x : SV} {q : Path} {cs : List C} (h : isOwnR x = true) : isRoot (setCs x q cs) = true ∧ isBox (setCs x q cs) = isBox x := by
  cases x <;> simp_all [isOwnR, setCs, isRoot, isBox]
theorem isOwnR_root {x : SV} (h : isOwnR x = true) : isRoot x = true := by cases x <;> simp_all [isOwnR, isRoot]

theorem killAgg_or (r : Nat) (x : SV) : killAgg r x = .u ∨ (killAgg r x = x ∧ ∀ q n, x = .ref r q n → n = none) := by
  cases x with
  | ref r' q n =>
    cases n with
    | none => right; exact ⟨rfl, fun q n h => by simp at h; exact h.2.2.symm⟩
    | some n =>
      by_cases h : r' = r
      · left; simp [killAgg, h]
      · right; exact ⟨by simp [killAgg, h], fun q n hx => by simp at hx; exact absurd hx.1 h⟩
  | _ => right; exact ⟨rfl, fun q n h => by cases h⟩
theorem killBx_or (r : Nat) (x : SV) : killBx r x = .u ∨ (killBx r x = x ∧ (refOf x ≠ some r ∨ ∃ y, x = .addr r [y])) := by
  cases x with
  | ref r' q n =>
    by_cases h : r' = r
    · left; simp [killBx, h]
    · right; exact ⟨by simp [killBx, h], .inl (by simp [refOf, h])⟩
  | addr r' q =>
    by_cases h : r' = r
    · subst h
      rcases q with _ | ⟨y, _ | ⟨z, q⟩⟩
      · left; simp [killBx]
      · right; exact ⟨by simp [killBx], .inr ⟨y, rfl⟩⟩
      · left; simp [killBx]
    · right; exact ⟨by simp [killBx, h], .inl (by simp [refOf, h])⟩
  | _ => right; exact ⟨rfl, .inl (by simp [refOf])⟩
theorem killAgg_root {r : Nat} {x : SV} (h : isRoot x = true) : killAgg r x = x := by cases x <;> simp_all [killAgg, isRoot]
theorem killBx_root {r : Nat} {x : SV} (h : isRoot x = true) : killBx r x = x := by cases x <;> simp_all [killBx, isRoot]

theorem raws_mem {cs : List C} {vs : List Value} (h : raws cs = some vs) {c : C} (hc : c ∈ cs) : ∃ v, c = .raw v := by
  rw [raws_get h] at hc
  obtain ⟨v, _, rfl⟩ := List.mem_map.1 hc
  exact ⟨v, rfl⟩
theorem Rep.raw_scal {Z : Nat → Prop} {L : Lab} {w : World} {s : Nat} {p : Path} {v v' : Value} (h : Rep P Z L w s p v (.raw v')) : scal v = true := by
  cases h with
  | frz h => cases h with | raw h => exact h

theorem store_ok {σ : St} {a : Act} {w : World} {L : Lab} (hR : Rel P N N w0 A I σ a w L) {o : Oper} {t : TypeId} {ea ex : Operand} {K : St → Prop} {next : Act → World → Prop} {Q : Exit → Act → World → Prop} (hop : o.op = .store t ea ex)
    (h : stK P σ o t (evS σ ea) (evS σ ex) K) (hn : ∀ w' σ' L', K σ' → Rel P N N w0 A I σ' a w' L' → next a w') : o.wp P a w next Q := by
  obtain ⟨hd, g, n, r, q, old, cs, mv, ht, hpos, hown, hea, hg, hle, hmv, hlen, hne, hK⟩ := h
  have h1 := evS_ok hR 0 ea (by rw [hea]; rfl)
  rw [hea] at h1
  obtain ⟨q0, i, oo, b, arr, e, rows, row, rfl, hnode, hrow, hold, hva⟩ := addr_cells hR h1 hg
  have hx : noTup (evS σ ex) = true := by cases hx : evS σ ex <;> simp_all [noTup, mvCells]
  have h2 := evS_ok hR 0 ex hx
  obtain ⟨hsz, hvals⟩ := mv_ok hR h2 hmv
  have hb0 : q0 = [] → isBox (σ r) = true := by
    obtain ⟨_, q1, i1, o1, b1, _, _, hq, hbx, _⟩ := h1
    obtain ⟨rfl, _⟩ := List.append_inj' hq rfl
    exact hbx
  have hrl : oo + n ≤ row.length := by rw [hold] at hle; simp at hle; omega
  have hin : i * esz P e + oo + n ≤ arr.size := by have := hnode.inb i row (oo + (n - 1)) hrow (by omega); omega
  have hone : ∀ x ∈ (a.eval ex).cells.toList, x.oneCell' = true := by
    intro x hx
    obtain ⟨j, hj⟩ := List.mem_iff_getElem?.1 hx
    have hjl : j < cs.length := by have := (List.getElem?_eq_some_iff.1 hj).1; simp at this; omega
    have hc := List.getElem?_eq_getElem hjl
    have hv : (a.eval ex).cells.getD j undef = x := by simp at hj; simp [hj]
    rcases hvals with ⟨_, hf⟩ | ⟨_, _, _, _, _, hf⟩
    · have := (hf j _ hc).oneCell; rwa [hv] at this
    · have := (hf j _ hc).oneCell; rwa [hv] at this
  have hvn : (a.eval ex).cells.size = n := by omega
  have hrun := run_storeAt (P := P) ht hnode.heap hvn hone hin
  obtain ⟨ha2, ha3⟩ := splice_arr (arr := arr) (vs := (a.eval ex).cells) (off := i * esz P e + oo) (by omega)
  rw [hvn] at ha2 ha3
  generalize hA' : (arr.toList.take (i * esz P e + oo) ++ (a.eval ex).cells.toList ++ arr.toList.drop (i * esz P e + oo + n)).toArray = arr' at hrun ha2 ha3
  have hexec : (execOp a.eval o).run P w = .ok .skip (w.setRow b arr') := by
    simp only [execOp, hop, hva]
    rw [Sem.run_bind, hrun]
    rfl
  have hput : a.put o.dst undef = a := by rw [hd]; rfl
  have fin : ∀ σ' L', K σ' → Rel P N N w0 A I σ' a (w.setRow b arr') L' → o.wp P a w next Q := by
    intro σ' L' hk hr
    unfold Oper.wp
    rw [hexec, Oper.upon_skip, hput]
    exact hn _ _ _ hk hr
  have hheap : ∀ b', b' ≠ b → (w.setRow b arr').heap[b']? = w.heap[b']? := fun b' hb' => setRow_other w b b' arr' hb'
  have hheapb : (w.setRow b arr').heap[b]? = some (.cells arr' e (0, 0)) := setRow_heap w b arr arr' e (0, 0) hnode.heap
  have hbl : b < w.heap.size := (hR.lab b _ hnode.lab).1
  have hev : Ev I w0 (w.setRow b arr') := by
    refine ⟨hR.ev.os, hR.ev.tape, hR.ev.output, by simpa using hR.ev.size, fun b' h3 h4 => ?_⟩
    have hbb : b' ≠ b := by
      rintro rfl
      rcases (hR.lab b' _ hnode.lab).2.1 with h5 | ⟨h5, _⟩
      · omega
      · exact h4 h5
    exact (hheap b' hbb).trans (hR.ev.block b' h3 h4)
  have hzb : ∀ b', Zof w0 A L w b' → b' ≠ b := by rintro b' ⟨h3, _⟩ rfl; rw [hnode.lab] at h3; cases h3
  have B : NewBlock P L w (w.setRow b arr') r q0 i oo cs.length (fun j => (a.eval ex).cells.getD j undef) := by
    intro b2 arr2 e2 h3 h4
    obtain rfl := hR.inj _ _ _ h3 hnode.lab
    rw [hnode.heap] at h4
    simp at h4
    obtain ⟨rfl, rfl⟩ := h4
    refine ⟨arr', hheapb, ha2, fun k => ?_⟩
    rw [ha3, hlen]
  have hg' : cs.length ≤ old.length := by omega
  by_cases hsc : ((raws (old.take n)).isSome && (raws cs).isSome) = true
  · rw [if_pos hsc] at hK
    simp only [Bool.and_eq_true] at hsc
    obtain ⟨vo, hvo⟩ := Option.isSome_iff_exists.1 hsc.1
    obtain ⟨vc, hvc⟩ := Option.isSome_iff_exists.1 hsc.2
    have hz : ∀ b', Zof w0 A L w b' → Zof w0 A L (w.setRow b arr') b' ∧ (w.setRow b arr').heap[b']? = w.heap[b']? := fun b' h3 =>
      ⟨⟨h3.1, by simpa using h3.2.1, h3.2.2⟩, hheap b' (hzb b' h3)⟩
    have S : SetUp P (Zof w0 A L w) L w (Zof w0 A L (w.setRow b arr')) L (w.setRow b arr') r q0 i oo cs (fun j => (a.eval ex).cells.getD j undef) := by
      refine ⟨hz, fun b' q' h3 _ => h3, fun b' q' h3 _ h5 => hheap b' ?_, fun j c hj => ?_⟩
      · rintro rfl
        rw [hnode.lab] at h3
        simp at h3
        exact h5 h3.symm
      · obtain ⟨v, rfl⟩ := raws_mem hvc (List.mem_of_getElem? hj)
        rcases hvals with ⟨_, hf⟩ | ⟨_, _, _, _, _, hf⟩
        · exact .frz ((hf j _ hj).mono hz)
        · have h3 := hf j _ hj
          have h4 := h3.raw_eq
          rw [h4]
          exact .frz (.raw (h4 ▸ h3.raw_scal))
    have hroot := fun σ' tm' => root_set (σ' := σ') (tm' := tm') hR hown S B hg hg' (by omega) hb0
    refine fin _ L hK ⟨hR.dfr, hR.siz, hev, hR.inj, fun b' l h3 => by simpa using hR.lab b' l h3, fun s hs => ?_, hR.hA, fun s => ?_⟩
    · have : s ≠ r := by rintro rfl; have := isOwnR_root hown; rw [hR.out s hs] at this; simp [isRoot] at this
      simp [stScal, this, hR.out s hs, killAgg]
    · by_cases hsr : s = r
      · subst hsr
        have : stScal σ s (q0 ++ [(i, oo)]) cs s = setCs (σ s) (q0 ++ [(i, oo)]) cs := by simp [stScal]
        rw [this]
        exact hroot _ _
      · have e1 : stScal σ r (q0 ++ [(i, oo)]) cs s = killAgg r (σ s) := by simp [stScal, hsr]
        rw [e1]
        have rootk : ∀ x, isRoot (σ x) = true → isRoot (stScal σ r (q0 ++ [(i, oo)]) cs x) = true ∧ isBox (stScal σ r (q0 ++ [(i, oo)]) cs x) = isBox (σ x) := by
          intro x hx
          by_cases hxr : x = r
          · subst hxr; simp only [stScal]; exact setCs_root hown
          · simp only [stScal, if_neg hxr, killAgg_root hx]; exact ⟨hx, trivial⟩
        have hlabk : ∀ s', s' ≠ r → ∀ b' q', L b' = some (s', q') → L b' = some (s', q') ∧ (w.setRow b arr').heap[b']? = w.heap[b']? := fun s' h3 b' q' h4 => ⟨h4, hheap b' (by
          rintro rfl
          rw [hnode.lab] at h4
          simp at h4
          exact h3 h4.1.symm)⟩
        rcases killAgg_or r (σ s) with h3 | ⟨h3, h4⟩
        · rw [h3]; trivial
        · rw [h3]
          have h0 := hR.slot s
          by_cases href : refOf (σ s) = some r
          · cases hss : σ s with
            | ref r' q' n' =>
              rw [hss] at href h0
              simp [refOf] at href
              subst href
              obtain rfl := h4 q' n' (by rw [hss])
              obtain ⟨h5, h6⟩ := h0
              refine ⟨(rootk r' h5).1, ?_⟩
              rcases h6 with ⟨h7, h8, h9⟩ | ⟨q1, i1, o1, b1, arr1, e1', h7, h8, h9, h10, h11, h12⟩
              · exact .inl ⟨by rw [(rootk r' h5).2]; exact h7, h8, h9⟩
              · right
                by_cases hb1 : b1 = b
                · subst hb1
                  rw [hnode.heap] at h10
                  simp at h10
                  obtain ⟨rfl, rfl⟩ := h10
                  refine ⟨q1, i1, o1, b1, arr', e, h7, fun h => by rw [(rootk r' h5).2]; exact h8 h, h9, hheapb, ?_, h12⟩
                  have hk := ha3 (i1 * esz P e + o1)
                  have hlt : i1 * esz P e + o1 < arr.size := (Array.getElem?_eq_some_iff.1 h11).1
                  have hnin : ¬ (i * esz P e + oo ≤ i1 * esz P e + o1 ∧ i1 * esz P e + o1 < i * esz P e + oo + n) := by
                    rintro ⟨h13, h14⟩
                    have hj : (i1 * esz P e + o1) - (i * esz P e + oo) < n := by omega
                    have hjr : oo + ((i1 * esz P e + o1) - (i * esz P e + oo)) < row.length := by omega
                    have hcell := (hnode.cell hrow (List.getElem?_eq_getElem hjr)).2
                    have hmem : row[oo + ((i1 * esz P e + o1) - (i * esz P e + oo))] ∈ old.take n := by
                      rw [hold]
                      refine List.mem_of_getElem? (i := (i1 * esz P e + o1) - (i * esz P e + oo)) ?_
                      rw [List.getElem?_take, if_pos hj, List.getElem?_drop, List.getElem?_eq_getElem hjr]
                    obtain ⟨v, hv⟩ := raws_mem hvo hmem
                    rw [hv] at hcell
                    have hscal := hcell.raw_scal
                    rw [show i * esz P e + (oo + ((i1 * esz P e + o1) - (i * esz P e + oo))) = i1 * esz P e + o1 from by omega] at hscal
                    rw [Array.getD_eq_getD_getElem?, h11] at hscal
                    simp only [Option.getD_some] at hscal
                    rw [h12] at hscal
                    cases hscal
                  rw [if_neg hnin] at hk
                  have hlt' : i1 * esz P e + o1 < arr'.size := by omega
                  simp only [Array.getD_eq_getD_getElem?, h11, Option.getD_some] at hk
                  rw [Array.getElem?_eq_getElem hlt'] at hk ⊢
                  simpa using hk
                · exact ⟨q1, i1, o1, b1, arr1, e1', h7, fun h => by rw [(rootk r' h5).2]; exact h8 h, h9, (hheap b1 hb1).trans h10, h11, h12⟩
            | addr r' q' =>
              rw [hss] at href h0
              simp [refOf] at href
              subst href
              obtain ⟨h5, q1, i1, o1, b1, arr1, e1', h7, h8, h9, h10, h11⟩ := h0
              by_cases hb1 : b1 = b
              · subst hb1
                rw [hnode.heap] at h10
                simp at h10
                obtain ⟨rfl, rfl⟩ := h10
                exact ⟨(rootk r' h5).1, q1, i1, o1, b1, arr', e, h7, fun h => by rw [(rootk r' h5).2]; exact h8 h, h9, hheapb, h11⟩
              · exact ⟨(rootk r' h5).1, q1, i1, o1, b1, arr1, e1', h7, fun h => by rw [(rootk r' h5).2]; exact h8 h, h9, (hheap b1 hb1).trans h10, h11⟩
            | _ => rw [hss] at href; simp [refOf] at href
          · refine h0.keep hz (fun b' q' _ h5 => hlabk s hsr b' q' h5) fun x hxx hxr => ?_
            have hxr' : x ≠ r := fun h => href (h ▸ hxx)
            exact ⟨hlabk x hxr', rfl, (rootk x hxr).1, (rootk x hxr).2⟩
  · rw [if_neg hsc] at hK
    have hmvr : ∀ s, mv = some s → s ≠ r := fun s h3 h4 => hne (h4 ▸ h3)
    have hmvlt : ∀ s, mv = some s → isRoot (σ s) = true := fun s h3 => by
      rcases hvals with ⟨h4, _⟩ | ⟨s', g', h4, h5, _⟩
      · rw [h4] at h3; cases h3
      · rw [h4] at h3; obtain rfl := Option.some.inj h3; rcases h5 with h5 | h5 <;> rw [h5] <;> rfl
    let L' := stLab L r q0 i oo cs.length mv
    have hzk : ∀ b', Zof w0 A L w b' → Zof w0 A L' (w.setRow b arr') b' ∧ (w.setRow b arr').heap[b']? = w.heap[b']? := fun b' h3 =>
      ⟨⟨by simp [L', stLab, h3.1], by simpa using h3.2.1, h3.2.2⟩, hheap b' (hzb b' h3)⟩
    have hkeep : ∀ s q' b', L b' = some (s, q') → mv ≠ some s → ¬ (s = r ∧ under q0 i oo cs.length q') → L' b' = some (s, q') := fun s q' b' h3 h4 h5 => stLab_keep h3 h4 h5
    have hrne : mv ≠ some r := hne
    have S : SetUp P (Zof w0 A L w) L w (Zof w0 A L' (w.setRow b arr')) L' (w.setRow b arr') r q0 i oo cs (fun j => (a.eval ex).cells.getD j undef) := by
      refine ⟨hzk, fun b' q' h3 h4 => hkeep r q' b' h3 hrne (fun h => h4 h.2), fun b' q' h3 _ h5 => hheap b' ?_, fun j c hj => ?_⟩
      · rintro rfl
        rw [hnode.lab] at h3
        simp at h3
        exact h5 h3.symm
      · rcases hvals with ⟨_, hf⟩ | ⟨s, g', hms, hss, _, hf⟩
        · exact .frz ((hf j _ hj).mono hzk)
        · refine (hf j _ hj).move _ hzk fun b' q' h3 => ⟨?_, hheap b' ?_⟩
          · have hjl : j < cs.length := (List.getElem?_eq_some_iff.1 hj).1
            show stLab L r q0 i oo cs.length mv b' = _
            simp only [List.singleton_append] at h3
            simp [stLab, h3, hms, hjl]
          · rintro rfl
            rw [hnode.lab] at h3
            simp at h3
            exact hmvr s hms h3.1.symm
    have hroot := fun σ' tm' => root_set (σ' := σ') (tm' := tm') hR hown S B hg hg' (by omega) hb0
    -- the state in which what moved is gone
    have hgone : ∀ s, s ≠ r → goneO σ mv s = .u ∨ (goneO σ mv s = σ s ∧ mv ≠ some s ∧ ∀ x, refOf (σ s) = some x → mv ≠ some x) := by
      intro s hs
      cases mv with
      | none => exact .inr ⟨rfl, by simp, fun _ _ => by simp⟩
      | some m =>
        simp only [goneO, gone]
        by_cases hsm : s = m
        · left; rw [if_pos hsm]
        · rw [if_neg hsm]
          rcases killSV_or m (σ s) with ⟨h3, h4⟩ | h3
          · right; exact ⟨h3, by simp; exact fun h => hsm h.symm, fun x hx => by simp; rintro rfl; exact h4 hx⟩
          · left; exact h3
    have hgr : goneO σ mv r = σ r := by
      cases mv with
      | none => rfl
      | some m =>
        have : r ≠ m := fun h => hne (by rw [h])
        simp [goneO, gone, this, killSV_root (isOwnR_root hown)]
    refine fin _ L' hK ⟨hR.dfr, hR.siz, hev, stLab_inj hR.inj, fun b' l h3 => ?_, fun s hs => ?_, hR.hA, fun s => ?_⟩
    · rcases stLab_some h3 with ⟨s, j, q', h4, h5, h6, rfl⟩ | ⟨h4, h5, h6⟩
      · have := hR.lab b' _ h5
        refine ⟨by simpa using this.1, .inl ?_, (hR.lab b _ hnode.lab).2.2⟩
        rcases this.2.1 with h7 | ⟨_, h7⟩
        · exact h7
        · simp at h7
      · simpa using hR.lab b' l h4
    · have hsr : s ≠ r := by rintro rfl; have := isOwnR_root hown; rw [hR.out s hs] at this; simp [isRoot] at this
      simp only [stStruct, if_neg hsr]
      rcases hgone s hsr with h3 | ⟨h3, _⟩
      · rw [h3]; rfl
      · rw [h3, hR.out s hs]; rfl
    · by_cases hsr : s = r
      · subst hsr
        have : stStruct (goneO σ mv) s (q0 ++ [(i, oo)]) cs s = setCs (σ s) (q0 ++ [(i, oo)]) cs := by simp [stStruct, hgr]
        rw [this]
        exact hroot _ _
      · have e1 : stStruct (goneO σ mv) r (q0 ++ [(i, oo)]) cs s = killBx r (goneO σ mv s) := by simp [stStruct, hsr]
        rw [e1]
        rcases hgone s hsr with h3 | ⟨h3, h4, h5⟩
        · rw [h3]; trivial
        · rw [h3]
          have rootk : ∀ x, mv ≠ some x → isRoot (σ x) = true → isRoot (stStruct (goneO σ mv) r (q0 ++ [(i, oo)]) cs x) = true ∧ isBox (stStruct (goneO σ mv) r (q0 ++ [(i, oo)]) cs x) = isBox (σ x) := by
            intro x hxm hx
            by_cases hxr : x = r
            · subst hxr; simp only [stStruct, hgr]; exact setCs_root hown
            · have : goneO σ mv x = σ x := by
                cases mv with
                | none => rfl
                | some m =>
                  have : x ≠ m := fun h => hxm (by rw [h])
                  simp [goneO, gone, this, killSV_root hx]
              simp only [stStruct, if_neg hxr, this, killBx_root hx]
              exact ⟨hx, trivial⟩
          have hlabk : ∀ s', s' ≠ r → mv ≠ some s' → ∀ b' q', L b' = some (s', q') → L' b' = some (s', q') ∧ (w.setRow b arr').heap[b']? = w.heap[b']? := fun s' h6 h7 b' q' h8 => ⟨hkeep s' q' b' h8 h7 (fun h => h6 h.1), hheap b' (by
            rintro rfl
            rw [hnode.lab] at h8
            simp at h8
            exact h6 h8.1.symm)⟩
          rcases killBx_or r (σ s) with h6 | ⟨h6, h7⟩
          · rw [h6]; trivial
          · rw [h6]
            have h0 := hR.slot s
            rcases h7 with h7 | ⟨y, h7⟩
            · refine h0.keep hzk (fun b' q' _ h8 => hlabk s hsr h4 b' q' h8) fun x hxx hxr => ?_
              have hxr' : x ≠ r := fun h => h7 (h ▸ hxx)
              have hxm := h5 x hxx
              exact ⟨hlabk x hxr' hxm, rfl, (rootk x hxm hxr).1, (rootk x hxm hxr).2⟩
            · rw [h7] at h0 ⊢
              obtain ⟨h8, q1, i1, o1, b1, arr1, e1', h9, h10, h11, h12, h13⟩ := h0
              have hq1 : q1 = [] := by
                have := congrArg List.length h9
                simp at this
                exact this
              subst hq1
              have hl1 : L' b1 = some (r, []) := hkeep r [] b1 h11 hrne (fun h => not_under_len (by simp) h.2)
              refine ⟨(rootk r hrne h8).1, [], i1, o1, b1, ?_⟩
              by_cases hb1 : b1 = b
              · subst hb1
                rw [hnode.heap] at h12
                simp at h12
                obtain ⟨rfl, rfl⟩ := h12
                exact ⟨arr', e, h9, fun h => by rw [(rootk r hrne h8).2]; exact h10 h, hl1, hheapb, h13⟩
              · exact ⟨arr1, e1', h9, fun h => by rw [(rootk r hrne h8).2]; exact h10 h, hl1, (hheap b1 hb1).trans h12, h13⟩
end Go.PV

/-
  A walk over pure values: structs, literals of slices, cuts of slices, closures.
  Conditions: none.
-/
import Derived.Test.YtlajjggemadajaaPvK
set_option linter.all false
namespace Go.PV
variable {P : Program} {N : Nat} {w0 : World} {A : Nat → Prop} {I : List Nat}

/-- Frozen cells, one by one. -/
def PW (Z : Nat → Prop) (w : World) (arr : Array Value) (cs : List C) : Prop := arr.size = cs.length ∧ ∀ (j : Nat) (c : C), cs[j]? = some c → Frz Z w (arr.getD j undef) c

theorem cellsF_ok {Z : Nat → Prop} {L : Lab} {w : World} {tm : Nat → Value} {σ : St} {s : Nat} {tv : Value} {sv : SV} {g : Bool} {cs : List C} (h : RelS P Z L w tm σ s tv sv) (hc : sOp.cellsF sv = some (g, cs)) :
    PW Z w tv.cells cs ∧ VShape g tv cs.length := by
  cases sv with
  | p v =>
    have h : tv = v := h
    subst h
    simp only [sOp.cellsF] at hc
    split at hc
    · rename_i hs
      simp at hc
      obtain ⟨rfl, rfl⟩ := hc
      refine ⟨⟨by simp [cellsV], fun j c hj => ?_⟩, ?_⟩
      · simp only [cellsV, List.getElem?_map] at hj
        cases hv : tv.cells.toList[j]? with
        | none => simp [hv] at hj
        | some x =>
          simp [hv] at hj
          subst hj
          have hx := (List.all_eq_true.1 hs) x (List.mem_of_getElem? hv)
          have : tv.cells.getD j undef = x := by simp at hv; simp [hv]
          rw [this]
          exact .raw hx
      · cases tv <;> simp_all [VShape, cellsV, Value.cells, aggB]
    · cases hc
  | d g' cs' =>
    simp [sOp.cellsF] at hc
    obtain ⟨rfl, rfl⟩ := hc
    refine ⟨⟨?_, h.2⟩, h.1⟩
    have h1 := h.1
    unfold VShape at h1
    split at h1
    · obtain ⟨arr, rfl, h2⟩ := h1; exact h2
    · rw [h1.1, h1.2]; rfl
  | fadr cs' =>
    simp [sOp.cellsF] at hc
    obtain ⟨rfl, rfl⟩ := hc
    have h := fadr_pt h
    refine ⟨⟨?_, h.2⟩, h.1⟩
    have h1 := h.1
    unfold VShape at h1
    simp only [Bool.false_eq_true, if_false] at h1
    rw [h1.1]; rfl
  | _ => simp [sOp.cellsF] at hc

theorem foldl_zip (off : Nat) : ∀ (l : List Value) (k : Nat) (arr : Array Value), off + k + l.length ≤ arr.size →
    ((l.zipIdx k).foldl (fun (cs : Array Value) (x : Value × Nat) => cs.setIfInBounds (off + x.2) x.1) arr).size = arr.size ∧
    ∀ j, ((l.zipIdx k).foldl (fun (cs : Array Value) (x : Value × Nat) => cs.setIfInBounds (off + x.2) x.1) arr)[j]? = if off + k ≤ j ∧ j < off + k + l.length then l[j - (off + k)]? else arr[j]?
  | [], k, arr, _ => by simp; intro j h1 h2; omega
  | v :: l, k, arr, h => by
    simp only [List.zipIdx_cons, List.foldl_cons]
    simp only [List.length_cons] at h
    obtain ⟨h1, h2⟩ := foldl_zip off l (k + 1) (arr.setIfInBounds (off + k) v) (by simp; omega)
    refine ⟨by simpa using h1, fun j => ?_⟩
    rw [h2 j]
    by_cases hj : j = off + k
    · subst hj
      rw [if_neg (by omega), if_pos (by simp)]
      have hlt : off + k < arr.size := by omega
      simp [hlt]
    · by_cases hin : off + (k + 1) ≤ j ∧ j < off + (k + 1) + l.length
      · rw [if_pos hin, if_pos (by simp; omega)]
        rw [show j - (off + k) = (j - (off + (k + 1))) + 1 from by omega]
        simp
      · rw [if_neg hin, if_neg (by simp; omega)]
        rw [Array.getElem?_setIfInBounds, if_neg (by omega)]

theorem fill_step {Z : Nat → Prop} {w : World} {arr vs : Array Value} {cs cs' : List C} {off : Nat} (h1 : PW Z w arr cs) (h2 : PW Z w vs cs') (hle : off + cs'.length ≤ cs.length) :
    PW Z w (vs.zipIdx.foldl (fun cs (c, j) => cs.setIfInBounds (off + j) c) arr) (cs.take off ++ cs' ++ cs.drop (off + cs'.length)) := by
  have hsz : off + 0 + vs.toList.length ≤ arr.size := by simp; have := h1.1; have := h2.1; omega
  obtain ⟨e1, e2⟩ := foldl_zip off vs.toList 0 arr hsz
  have hfold : vs.zipIdx.foldl (fun cs (c, j) => cs.setIfInBounds (off + j) c) arr = (vs.toList.zipIdx 0).foldl (fun (cs : Array Value) (x : Value × Nat) => cs.setIfInBounds (off + x.2) x.1) arr := by
    rw [← Array.foldl_toList, Array.toList_zipIdx]
  rw [hfold]
  refine ⟨?_, fun j c hj => ?_⟩
  · rw [e1, h1.1]; simp; omega
  · have hget := e2 j
    simp only [Nat.add_zero, Array.length_toList] at hget
    rw [Array.getD_eq_getD_getElem?, hget]
    have hv : vs.size = cs'.length := h2.1
    by_cases hlt : j < off
    · rw [if_neg (by omega)]
      rw [List.append_assoc, List.getElem?_append_left (by simp; omega), List.getElem?_take, if_pos hlt] at hj
      have := h1.2 j c hj
      rwa [Array.getD_eq_getD_getElem?] at this
    · by_cases hin : j < off + cs'.length
      · rw [if_pos (by omega)]
        rw [List.getElem?_append_left (by simp; omega), List.getElem?_append_right (by simp; omega)] at hj
        simp only [List.length_take] at hj
        rw [show min off cs.length = off from by omega] at hj
        have := h2.2 _ c hj
        rw [Array.getD_eq_getD_getElem?] at this
        simpa using this
      · rw [if_neg (by omega)]
        rw [List.getElem?_append_right (by simp; omega)] at hj
        simp only [List.length_append, List.length_take, List.getElem?_drop] at hj
        rw [show off + cs'.length + (j - (min off cs.length + cs'.length)) = j from by omega] at hj
        have := h1.2 j c hj
        rwa [Array.getD_eq_getD_getElem?] at this

theorem noTup_of_cellsF {x : SV} {y : Bool × List C} (h : sOp.cellsF x = some y) : noTup x = true := by cases x <;> simp_all [sOp.cellsF, noTup]

theorem fillC_ok {σ : St} {a : Act} {w : World} {L : Lab} (hR : Rel P N N w0 A I σ a w L) {place : Nat → Option (Nat × Nat)} : ∀ (l : List (Nat × Operand)) (z cs : List C) (arr : Array Value),
    PW (Zof w0 A L w) w arr z → sOp.fillC place (evS σ) z l = some cs → ∃ arr', Instr.fill place arr (l.map fun (i, x) => (i, a.eval x)) = some arr' ∧ PW (Zof w0 A L w) w arr' cs
  | [], z, cs, arr, h, hf => by simp [sOp.fillC] at hf; subst hf; exact ⟨arr, rfl, h⟩
  | (k, x) :: l, z, cs, arr, h, hf => by
    simp only [sOp.fillC] at hf
    split at hf
    · rename_i off n g cs1 hp hc
      split at hf
      · rename_i hcond
        have hx := (cellsF_ok (evS_ok hR 0 x (noTup_of_cellsF hc)) hc).1
        simp only [List.map_cons, Instr.fill, hp]
        have h1 : (decide ((a.eval x).cells.size ≠ n) || decide (off + (a.eval x).cells.size > arr.size)) = false := by
          have := hx.1; have := h.1
          simp only [Bool.or_eq_false_iff, decide_eq_false_iff_not]
          omega
        rw [h1]
        simp only [Bool.false_eq_true, if_false]
        have := fill_step h hx (by omega : off + cs1.length ≤ z.length)
        rw [hcond.1] at this
        exact fillC_ok hR l _ cs _ this hf
      · cases hf
    · cases hf

theorem mapM_info (fs : List Field) (h : fs.all (fun f => (P.info? f.type).isSome) = true) :
    fs.mapM (fun f => (P.info? f.type).map fun i => (f.offset, i.size)) = some (fs.map fun f => (f.offset, ((P.info? f.type).map (·.size)).getD 0)) := by
  induction fs with
  | nil => rfl
  | cons f fs ih =>
    simp only [List.all_cons, Bool.and_eq_true] at h
    obtain ⟨i, hi⟩ := Option.isSome_iff_exists.1 h.1
    simp [List.mapM_cons, ih h.2, hi]

theorem build_ok {σ : St} {a : Act} {w : World} {L : Lab} (hR : Rel P N N w0 A I σ a w L) {t : TypeId} {parts : Array (Nat × Operand)} {cs : List C} (h : sOp.buildC P (evS σ) t parts.toList = some cs) :
    ∃ v, (Instr.build t (parts.map fun (i, x) => (i, a.eval x))).run P w = .ok v w ∧ ∀ s, RelS P (Zof w0 A L w) L w (tmOf a) σ s v (mkD true cs) := by
  unfold sOp.buildC at h
  split at h
  · rename_i z fs hz hu
    split at h
    · cases h
    · rename_i hall
      simp only [Bool.not_eq_true', Bool.not_eq_false] at hall
      obtain ⟨i, zv, hi, hzv, hzs, hl, hr⟩ := zeroC_spec hz
      have hpw : PW (Zof w0 A L w) w zv.cells (eraR z) := by
        refine ⟨by rw [eraR_map, List.length_map]; omega, fun j c hj => ?_⟩
        rw [eraR_map, List.getElem?_map] at hj
        cases hzj : z[j]? with
        | none => simp [hzj] at hj
        | some c0 =>
          simp [hzj] at hj
          subst hj
          exact (hr (Zof w0 A L w) (fun _ => none) w 0 j c0 [] hzj).freeze (fun b h => ⟨h, rfl⟩) (fun b q h => by cases h)
      obtain ⟨arr, hf, hp⟩ := fillC_ok hR _ _ _ _ hpw h
      refine ⟨.agg arr, run_build w t _ arr ?_, fun s => ?_⟩
      · unfold Program.built
        rw [hi, hu]
        simp only [hzv]
        rw [mapM_info _ hall]
        simp only []
        rw [← hf]
        have : (fun x => (List.map (fun f : Field => (f.offset, ((P.info? f.type).map (·.size)).getD 0)) fs.toList).toArray[x]?) = fun (k : Nat) => (fs[k]?).map fun f : Field => (f.offset, ((P.info? f.type).map (·.size)).getD 0) := by
          funext k
          simp
        rw [this]
        simp
      · have := mkD_ok (P := P) (Z := Zof w0 A L w) (L := L) (w := w) (tm := tmOf a) (σ := σ) (s := s) (g := true) (cs := cs) (vs := arr.toList) (by simpa using hp.1) (by simp) (fun j c hj => by
          have := hp.2 j c hj
          rw [Array.getD_eq_getD_getElem?] at this
          simpa using this)
        simpa [mkV] using this
  · cases h

theorem capsOf_ok {σ : St} {a : Act} {w : World} {L : Lab} (hR : Rel P N N w0 A I σ a w L) : ∀ (l : List Operand) (as : List (Bool × List C)), sOp.capsOf (l.map (evS σ)) = some as →
    (l.map a.eval).length = as.length ∧ ∀ i g cs, as[i]? = some (g, cs) → VShape g ((l.map a.eval).getD i undef) cs.length ∧ PW (Zof w0 A L w) w ((l.map a.eval).getD i undef).cells cs
  | [], as, h => by simp [sOp.capsOf] at h; subst h; simp
  | x :: l, as, h => by
    simp only [List.map_cons, sOp.capsOf] at h
    split at h
    · rename_i y r hy hr
      simp at h
      subst h
      obtain ⟨h1, h2⟩ := capsOf_ok hR l r hr
      refine ⟨by simpa using h1, fun i g cs hi => ?_⟩
      cases i with
      | zero =>
        simp at hi
        subst hi
        have := cellsF_ok (evS_ok hR 0 x (noTup_of_cellsF hy)) hy
        simpa using ⟨this.2, this.1⟩
      | succ i => simpa using h2 i g cs (by simpa using hi)
    · cases h

theorem makeFunc_ok {σ : St} {a : Act} {w : World} {L : Lab} (hR : Rel P N N w0 A I σ a w L) {f : FuncId} {caps : Array Operand} {as : List (Bool × List C)} (h : sOp.capsOf (caps.toList.map (evS σ)) = some as) (s : Nat) :
    RelS P (Zof w0 A L w) L w (tmOf a) σ s (.func (.func f) #[] (caps.map a.eval)) (.d false [.fn f as]) := by
  obtain ⟨h1, h2⟩ := capsOf_ok hR _ _ h
  refine ⟨⟨rfl, rfl⟩, fun j c hj => ?_⟩
  cases j with
  | succ j => simp at hj
  | zero =>
    simp at hj
    subst hj
    have hg : ∀ i, (caps.map a.eval).getD i undef = (caps.toList.map a.eval).getD i undef := fun i => by simp
    refine .fn (by simpa using h1) (fun i g cs hi => ?_) (fun i g cs j c hi hj => ?_)
    · rw [hg]; exact (h2 i g cs hi).1
    · rw [hg]; exact (h2 i g cs hi).2.2 j c hj

theorem Frz.sl_inv {Z : Nat → Prop} {w : World} {tv : Value} {rows : List (List C)} (h : Frz Z w tv (.sl none rows)) :
    (rows = [] ∧ ∃ ad cap, tv = .slice ad 0 cap) ∨ ∃ (b off cap sz : Nat) (vs : Nat → Nat → Value), tv = .slice (some ⟨b, off, none⟩) rows.length cap ∧ rows.length ≤ cap ∧ Z b ∧ (∀ row ∈ rows, row.length = sz) ∧
      (∀ (i : Nat) (row : List C) (o : Nat) (c : C), rows[i]? = some row → row[o]? = some c → w.cell? ⟨b, off + i * sz + o, none⟩ = some (vs i o)) ∧
      (∀ (i : Nat) (row : List C) (o : Nat) (c : C), rows[i]? = some row → row[o]? = some c → Frz Z w (vs i o) c) := by
  cases h with
  | nil => exact .inl ⟨rfl, _, _, rfl⟩
  | sl vs hn hz hs hc hr => exact .inr ⟨_, _, _, _, vs, rfl, hn, hz, hs, hc, hr⟩

theorem slice_ok {σ : St} {a : Act} {w : World} {L : Lab} (hR : Rel P N N w0 A I σ a w L) {t e : TypeId} {sz l h : Nat} {x : Operand} {lo hi : Option Operand} {rows : List (List C)} (hx : evS σ x = .d false [.sl none rows])
    (hE : slE P t = some (e, sz)) (hl : sOp.bnd (evS σ) lo 0 = some (l : Int)) (hh : sOp.bnd (evS σ) hi rows.length = some (h : Int)) (h1 : l ≤ h) (h2 : h ≤ rows.length) (hrow : ∀ row ∈ rows, row.length = sz) :
    ∃ v, (Instr.sliceAt t (a.eval x) (lo.map a.eval) (hi.map a.eval) none).run P w = .ok v w ∧ ∀ s, RelS P (Zof w0 A L w) L w (tmOf a) σ s v (.d false [.sl none ((rows.take h).drop l)]) := by
  obtain ⟨inf, hu, hinf, hsz, hes⟩ := slE_spec hE
  have hev := evS_ok hR 0 x (by rw [hx]; rfl)
  rw [hx] at hev
  have hf := hev.2 0 _ rfl
  have hc : (a.eval x).cells = #[a.eval x] := hev.1.1
  rw [hc] at hf
  simp at hf
  have hcap : ∃ ad cap, a.eval x = .slice ad rows.length cap ∧ rows.length ≤ cap := by
    generalize a.eval x = tv at hf
    cases hf with
    | nil => exact ⟨_, _, rfl, Nat.zero_le _⟩
    | sl vs hn => exact ⟨_, _, rfl, hn⟩
  obtain ⟨ad, cap, hv, hle⟩ := hcap
  have hbl : ∀ (o : Option Operand) (dflt n : Nat) (y : Nat) (cd : BoundsCode), sOp.bnd (evS σ) o dflt = some (n : Int) → n ≤ y →
      (o = none ∧ n = dflt) ∨ ∃ z v, o = some z ∧ a.eval z = v ∧ (Instr.sliceBound v y cd).run P w = .ok n w := by
    intro o dflt n y cd ho hn
    cases o with
    | none => simp [sOp.bnd] at ho; exact .inl ⟨rfl, by omega⟩
    | some z =>
      right
      simp only [sOp.bnd] at ho
      split at ho
      · rename_i k m hz
        simp at ho
        subst ho
        refine ⟨z, _, rfl, rfl, ?_⟩
        rw [evS_p hR hz]
        have : (n : Int) ≤ (y : Int) := by omega
        simp [Instr.sliceBound, asIntOf, this]
      · cases ho
  have hbounds : (Instr.sliceBounds true rows.length cap (lo.map a.eval) (hi.map a.eval) none).run P w = .ok (l, h, cap) w := by
    rcases hbl hi rows.length h cap .sliceAcap hh (by omega) with ⟨rfl, rfl⟩ | ⟨zh, vh, rfl, hvh, hrh⟩ <;> rcases hbl lo 0 l _ .sliceB hl h1 with ⟨rfl, rfl⟩ | ⟨zl, vl, rfl, hvl, hrl⟩
    · simp [Instr.sliceBounds]
    · simp [Instr.sliceBounds, hvl, hrl]
    · simp [Instr.sliceBounds, hvh, hrh]
    · simp [Instr.sliceBounds, hvh, hrh, hvl, hrl]
  refine ⟨.slice (if cap = l then ad else ad.map (·.add (l * sz))) (h - l) (cap - l), ?_, fun s => ⟨⟨rfl, rfl⟩, fun j c hj => ?_⟩⟩
  · simp [Instr.sliceAt, run_underlying hu, Instr.slice, hv, hbounds, sizeOf, typeInfo, hinf, hsz]
  · cases j with
    | succ j => simp at hj
    | zero =>
      simp at hj
      subst hj
      simp only [Value.cells]
      show Frz _ w (.slice (if cap = l then ad else ad.map (·.add (l * sz))) (h - l) (cap - l)) _
      have hlen : ((rows.take h).drop l).length = h - l := by simp; omega
      by_cases hz : h - l = 0
      · have : (rows.take h).drop l = [] := List.eq_nil_of_length_eq_zero (by omega)
        rw [this, hz]
        exact .nil
      · have hne : cap ≠ l := by omega
        rw [if_neg hne]
        rcases hf.sl_inv with ⟨rfl, _⟩ | ⟨b, off, cap', sz', vs, hv', hn, hzb, hs, hcell, hr⟩
        · simp at h2; omega
        · rw [hv] at hv'
          simp only [Value.slice.injEq] at hv'
          obtain ⟨rfl, _, rfl⟩ := hv'
          have hs' : sz' = sz := by
            cases rows with
            | nil => simp at h2; omega
            | cons r rs => have e1 := hs r (by simp); have e2 := hrow r (by simp); omega
          subst hs'
          simp only [Option.map_some, Addr.add_lit]
          have hget : ∀ (i : Nat) (row : List C), ((rows.take h).drop l)[i]? = some row → rows[l + i]? = some row := fun i row hi => (take_get (drop_get hi)).2
          have key : Frz (Zof w0 A L w) w (.slice (some ⟨b, off + l * sz', none⟩) ((rows.take h).drop l).length (cap - l)) (.sl none ((rows.take h).drop l)) := by
            refine .sl (sz := sz') (fun i o => vs (l + i) o) (by rw [hlen]; omega) hzb (fun row hr' => ?_) (fun i row o c h3 h4 => ?_) (fun i row o c h3 h4 => hr (l + i) row o c (hget i row h3) h4)
            · exact hs row (List.mem_of_mem_take (List.mem_of_mem_drop hr'))
            · have := hcell (l + i) row o c (hget i row h3) h4
              rw [show off + l * sz' + i * sz' + o = off + (l + i) * sz' + o from by rw [Nat.add_mul]; omega]
              exact this
          rw [hlen] at key
          exact key
end Go.PV

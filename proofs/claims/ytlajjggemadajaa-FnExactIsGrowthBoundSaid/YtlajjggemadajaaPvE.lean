/-
  A walk over pure values: the relation between a state and the model's; code.
  Conditions: none.
-/
import Derived.Test.YtlajjggemadajaaPvD
set_option linter.all false
namespace Go.PV

def RelS (P : Program) (Z : Nat → Prop) (L : Lab) (w : World) (tm : Nat → Value) (σ : St) (s : Nat) (tv : Value) : SV → Prop
  | .u => True
  | .p v => tv = v
  | .d g cs => FrzV Z w g tv cs
  | .ov g cs => RepV P Z L w s 0 g tv cs
  | .box cs => ∃ b, tv = .pointer (some ⟨b, 0, none⟩) ∧ BoxAt P Z L w s b cs
  | .ref r q n => isRoot (σ r) = true ∧ ((isBox (σ r) = false ∧ q = [(0, 0)] ∧ (match n with | none => tv = (tm r).cells.getD 0 undef | some k => tv = tm r ∧ VShape true tv k)) ∨
      ∃ (q0 : Path) (i o b : Nat) (arr : Array Value) (e : TypeId), q = q0 ++ [(i, o)] ∧ (q0 = [] → isBox (σ r) = true) ∧ L b = some (r, q0) ∧ w.heap[b]? = some (.cells arr e (0, 0)) ∧
        (match n with | none => arr[i * esz P e + o]? = some tv ∧ scal tv = false | some k => tv = .agg (arr.extract (i * esz P e + o) (i * esz P e + o + k))))
  | .addr r q => isRoot (σ r) = true ∧ ∃ (q0 : Path) (i o b : Nat) (arr : Array Value) (e : TypeId), q = q0 ++ [(i, o)] ∧ (q0 = [] → isBox (σ r) = true) ∧ L b = some (r, q0) ∧ w.heap[b]? = some (.cells arr e (0, 0)) ∧ tv = .pointer (some ⟨b, i * esz P e + o, none⟩)
  | .fadr cs => ∃ b off, Z b ∧ tv = .pointer (some ⟨b, off, none⟩) ∧ ∀ (j : Nat) (c : C), cs[j]? = some c → ∃ v, w.cell? ⟨b, off + j, none⟩ = some v ∧ Frz Z w v c
  | .tup l => ∃ arr : Array Value, tv = .tuple arr ∧ arr.size = l.length ∧ ∀ (j : Nat) (y : SV), l[j]? = some y → (match y with
    | .p v => arr.getD j undef = v
    | .d g cs => FrzV Z w g (arr.getD j undef) cs
    | .ov g cs => RepV P Z L w s j g (arr.getD j undef) cs
    | _ => True)

def Zof (w0 : World) (A : Nat → Prop) (L : Lab) (w : World) : Nat → Prop := fun b => L b = none ∧ b < w.heap.size ∧ (A b ∨ w0.heap.size ≤ b)

structure Rel (P : Program) (N M : Nat) (w0 : World) (A : Nat → Prop) (I : List Nat) (σ : St) (a : Act) (w : World) (L : Lab) : Prop where
  dfr : a.defers = []
  siz : a.tmps.size = N
  ev : Ev I w0 w
  inj : ∀ b b' l, L b = some l → L b' = some l → b = b'
  lab : ∀ b l, L b = some l → b < w.heap.size ∧ (w0.heap.size ≤ b ∨ (b ∈ I ∧ l.2 = [])) ∧ l.1 < M
  out : ∀ s, N ≤ s → σ s = .u
  hA : ∀ b, A b → b < w0.heap.size ∧ b ∉ I
  slot : ∀ s, RelS P (Zof w0 A L w) L w (fun s => a.tmps.getD s undef) σ s (a.tmps.getD s undef) (σ s)

def opsB (N : Nat) (ops : List Oper) : Bool := ops.all fun o => match o.dst with | some d => decide (d < N) | none => true
def codeB (N : Nat) : Code → Bool
  | .region _ ops _ => opsB N ops.toList
  | .seq a b => codeB N a && codeB N b
  | .cond _ a b => codeB N a && codeB N b
  | .block _ c => codeB N c
  | .loop c => codeB N c
  | _ => true

def lift (P : Program) (N : Nat) (w0 : World) (A : Nat → Prop) (I : List Nat) (Q : Ex → St → Prop) : Exit → Act → World → Prop
  | .normal, a, w => ∃ σ L, Rel P N N w0 A I σ a w L ∧ Q .normal σ
  | .exit id, a, w => ∃ σ L, Rel P N N w0 A I σ a w L ∧ Q (.exit id) σ
  | .ret, a, w => ∃ σ L, Rel P N N w0 A I σ a w L ∧ Q .ret σ
  | _, _, _ => False

/-- **From every state that σ tells of, the code ends as Q says.** -/
def Ok (P : Program) (N : Nat) (c : Code) (σ : St) (Q : Ex → St → Prop) : Prop :=
  codeB N c = true → ∀ w0 A a w L, Rel P N N w0 A [] σ a w L → c.wp P (lift P N w0 A [] Q) a w

def blockQ (id : Nat) (Q : Ex → St → Prop) : Ex → St → Prop := fun e σ' => match e with
  | .exit i => if i = id then Q .normal σ' else Q (.exit i) σ'
  | e => Q e σ'
def seqQ (K : St → Prop) (Q : Ex → St → Prop) : Ex → St → Prop := fun e σ' => match e with
  | .normal => K σ'
  | e => Q e σ'
def pvC (P : Program) (N : Nat) : Code → St → (Ex → St → Prop) → Prop
  | .skip, σ, Q => Q .normal σ
  | .region _ ops false, σ, Q => pvL P ops ops.toList σ (Q .normal)
  | .region _ ops true, σ, Q => P.follows .mixedOrders = true ∧ ∃ n, drawB ops n = true ∧ hid (stSl ops n) σ ∧
      pvD P ops (rtOf (stSl ops n) σ) (ops.toList.take n) σ (fun σ' => pvL P ops (ops.toList.drop n) σ' (Q .normal))
  | .seq a b, σ, Q => pvC P N a σ (seqQ (fun σ' => pvC P N b σ' Q) Q)
  | .cond c a b, σ, Q => ∃ t, evS σ c = .p (.bool t) ∧ (if t then pvC P N a σ Q else pvC P N b σ Q)
  | .block id c, σ, Q => pvC P N c σ (blockQ id Q)
  | .loop c, σ, Q => Ok P N (.loop c) σ Q
  | .exit id, σ, Q => Q (.exit id) σ
  | .ret, σ, Q => Q .ret σ
  | _, _, _ => False

def refOk (keys : List Nat) : SV → Bool
  | .ref r _ _ | .addr r _ => keys.contains r
  | _ => true
/-- The state has what the list names, and the list is whole. -/
def agree (l : List (Nat × SV)) (σ : St) : Prop := l.all (fun x => refOk (l.map (·.1)) x.2) = true ∧ ∀ x ∈ l, σ x.1 = x.2

/-- What a function hands back, and where it stood. -/
def retV (P : Program) (σ : St) : ResultVar → Option (RV × Nat)
  | .tmp t => match σ t with
    | .p v => some (.p v, t)
    | .d g cs => some (.d g cs, t)
    | .ov g cs => some (.ov g cs, t)
    | .ref r [(0, 0)] n => (match σ r with
      | .ov g cs => if n = (if g then some cs.length else none) then some (.ov g cs, r) else none
      | _ => none)
    | _ => none
  | .cell t ty => match σ t, tyC P ty with
    | .box cs, some (g, n) => if cs.length = n ∧ (g = false → n = 1) then (match raws cs with
      | some vs => some (.p (mkV g vs), t)
      | none => some (.ov g cs, t)) else none
    | _, _ => none
def retVs (P : Program) (σ : St) : List ResultVar → Option (List (RV × Nat))
  | [] => some []
  | r :: l => match retV P σ r, retVs P σ l with
    | some x, some xs => some (x :: xs)
    | _, _ => none
def isOvR : RV → Bool
  | .ov .. => true
  | _ => false
/-- No place is handed back twice. -/
def ovOk : List (RV × Nat) → Bool
  | [] => true
  | (r, s) :: l => (!isOvR r || l.all fun y => !isOvR y.1 || y.2 != s) && ovOk l
def outsOf (σ : St) : List (Nat × Arg) → Option (List (List C))
  | [] => some []
  | (k, .ptr _) :: l => match σ k, outsOf σ l with
    | .box cs, some r => some (cs :: r)
    | _, _ => none
  | _ :: l => outsOf σ l
def argSV : Arg → SV
  | .v v => .p v
  | .d g cs => .d g cs
  | .ptr cs => .box cs
def st0 (args : List Arg) : St := ofL ((List.range args.length).zip (args.map argSV))

def endQ (P : Program) (fn : Func) (args : List Arg) (res : Res) : Ex → St → Prop
  | .exit _, _ => False
  | _, σ => (∃ l, retVs P σ fn.results.toList = some l ∧ ovOk l = true ∧ l.map (·.1) = res.vals) ∧ outsOf σ ((List.range args.length).zip args) = some res.outs

end Go.PV

/-
  A walk over pure values: contracts, operations, code.
  Conditions: none.
-/
import Derived.Test.YtlajjggemadajaaPvB
set_option linter.all false
namespace Go.PV

/-- What was there stands as it was, but for some blocks. -/
structure Ev (I : List Nat) (w w' : World) : Prop where
  os : w'.os = w.os
  tape : w'.tape = w.tape
  output : w'.output = w.output
  size : w.heap.size ≤ w'.heap.size
  block : ∀ b, b < w.heap.size → b ∉ I → w'.heap[b]? = w.heap[b]?

def ArgsRep (A : Nat → Prop) (w : World) : List Nat → List Value → List Arg → Prop
  | [], [], [] => True
  | I, v :: vs, .v x :: as => v = x ∧ ArgsRep A w I vs as
  | I, v :: vs, .d g cs :: as => FrzV A w g v cs ∧ ArgsRep A w I vs as
  | b :: I, v :: vs, .ptr cs :: as => (v = .pointer (some ⟨b, 0, none⟩) ∧ ∃ (arr : Array Value) (e : TypeId), w.heap[b]? = some (.cells arr e (0, 0)) ∧ arr.size = cs.length ∧
      ∀ j c, cs[j]? = some c → Frz A w (arr.getD j undef) c) ∧ ArgsRep A w I vs as
  | _, _, _ => False

def RVat (P : Program) (Z : Nat → Prop) (L : Lab) (w : World) (s i : Nat) (v : Value) : RV → Prop
  | .p x => v = x
  | .d g cs => FrzV Z w g v cs
  | .ov g cs => RepV P Z L w s i g v cs
def ResAt (P : Program) (Z : Nat → Prop) (L : Lab) (w : World) (s : Nat) (v : Value) : List RV → Prop
  | [r] => RVat P Z L w s 0 v r
  | l => ∃ arr : Array Value, v = .tuple arr ∧ arr.size = l.length ∧ ∀ j r, l[j]? = some r → RVat P Z L w s j (arr.getD j undef) r

/-- Behind a call. -/
structure Post (P : Program) (A : Nat → Prop) (w : World) (I : List Nat) (w' : World) (L : Lab) (v : Value) (res : Res) : Prop where
  ev : Ev I w w'
  inj : ∀ b b' l, L b = some l → L b' = some l → b = b'
  lab : ∀ b l, L b = some l → b < w'.heap.size ∧ (w.heap.size ≤ b ∨ b ∈ I)
  val : ResAt P (fun b => L b = none ∧ b < w'.heap.size ∧ (A b ∨ w.heap.size ≤ b)) L w' 0 v res.vals
  outn : res.outs.length = I.length
  outs : ∀ k b cs, I[k]? = some b → res.outs[k]? = some cs → BoxAt P (fun b => L b = none ∧ b < w'.heap.size ∧ (A b ∨ w.heap.size ≤ b)) L w' (k + 1) b cs

def callable (P : Program) (f : FuncId) : Bool := match P.funcs[f]? with
  | some fn => fn.body.isSome && fn.name != "runtime.NumGoroutine"
  | none => false
/-- **A contract**: called with these arguments the function hands back this. -/
def Meets (P : Program) (f : FuncId) (args : List Arg) (res : Res) : Prop :=
  callable P f = true ∧ ∀ (w : World) (A : Nat → Prop) (I : List Nat) (vals : Array Value),
    (∀ b, A b → b < w.heap.size ∧ b ∉ I) → (∀ b ∈ I, b < w.heap.size) → I.Nodup → ArgsRep A w I vals.toList args →
    Calls P f vals w (fun e w' => ∃ v L, e = .returned v ∧ Post P A w I w' L v res)

/-! ### Operations that only yield -/

/-- A pure operation, by the model's own reckoning. -/
def PureRun (P : Program) (ev : Operand → SV) (o : Oper) (v : Value) : Prop :=
  ∃ ρ : Operand → Value, (∀ x ∈ o.op.operands, ev x = .p (ρ x)) ∧ ∀ w, (execOp ρ o).run P w = .ok (.value v) w

def intK (op : BinOp) (k : IntKind) (a b : Int) (F : Prop) (K : SV → Prop) : Prop :=
  match op with
  | .add => K (.p (.int k (k.wrap (a + b))))
  | .sub => K (.p (.int k (k.wrap (a - b))))
  | .mul => K (.p (.int k (k.wrap (a * b))))
  | .quo => b ≠ 0 ∧ K (.p (.int k (k.wrap (a.tdiv b))))
  | .rem => b ≠ 0 ∧ K (.p (.int k (a.tmod b)))
  | .eql => K (.p (.bool (a == b)))
  | .neq => K (.p (.bool (a != b)))
  | .lss => K (.p (.bool (decide (a < b))))
  | .leq => K (.p (.bool (decide (a ≤ b))))
  | .gtr => K (.p (.bool (decide (a > b))))
  | .geq => K (.p (.bool (decide (a ≥ b))))
  | _ => F
def boolK (P : Program) (op : BinOp) (t : TypeId) (a b : Bool) (F : Prop) (K : SV → Prop) : Prop :=
  match op with
  | .eql => P.underlying t = some .bool ∧ K (.p (.bool (a == b)))
  | .neq => P.underlying t = some .bool ∧ K (.p (.bool (!(a == b))))
  | _ => F
def strK (op : BinOp) (a b : ByteArray) (F : Prop) (K : SV → Prop) : Prop :=
  match op with
  | .eql => K (.p (.bool (a.toList == b.toList)))
  | .neq => K (.p (.bool (!(a.toList == b.toList))))
  | .add => a.size + b.size ≤ 1099511627776 ∧ K (.p (.string (a ++ b)))
  | _ => F
def binK (P : Program) (op : BinOp) (t : TypeId) (x y : SV) (F : Prop) (K : SV → Prop) : Prop :=
  match x, y with
  | .p (.int k a), .p (.int k' b) => k = k' ∧ intK op k a b F K
  | .p (.bool a), .p (.bool b) => boolK P op t a b F K
  | .p (.string a), .p (.string b) => strK op a b F K
  | _, _ => F

mutual
/-- Owned throughout. -/
def wnC : C → Bool
  | .raw _ => true
  | .sl o rows => o.isSome && wnL rows
  | _ => false
def wnR : List C → Bool
  | [] => true
  | c :: r => wnC c && wnR r
def wnL : List (List C) → Bool
  | [] => true
  | r :: l => wnR r && wnL l
end
/-- A result that shares nothing with what came in. -/
def simpleR : RV → Bool
  | .p _ => true
  | .d .. => false
  | .ov _ cs => wnR cs

def bumpP (q : Path) (k : Nat) : Path := match q.getLast? with
  | some (i, o) => q.dropLast ++ [(i, o + k)]
  | none => []

def nd : List C → Bool
  | [] => true
  | .dead :: _ => false
  | _ :: l => nd l
def loadK (P : Program) (rt : Nat → SV) (t : TypeId) (x : SV) (K : SV → Prop) : Prop :=
  ∃ g n, tyC P t = some (g, n) ∧ (g = false → n = 1) ∧
  match x with
  | .fadr cs => n ≤ cs.length ∧ K (mkD g (cs.take n))
  | .addr r q => ∃ cs, getRow (rows1 (rt r)) q = some cs ∧ n ≤ cs.length ∧
      K (match raws (cs.take n) with
        | some vs => .p (mkV g vs)
        | none => if frR (cs.take n) then .d g (cs.take n) else if nd (cs.take n) then .ref r q (if g then some n else none) else .u)
  | _ => False

/-- A slice's data: owned (elements of what) or not; its elements. -/
def slOf (rt : Nat → SV) (x : SV) : Option (Option TypeId × List (List C)) := match deref rt x with
  | some (false, [.sl o rows]) => some (o, rows)
  | _ => none

def idxK (P : Program) (rt : Nat → SV) (t : TypeId) (x i : SV) (K : SV → Prop) : Prop :=
  match i with
  | .p (.int _ n) => 0 ≤ n ∧ ∃ e sz o rows row, slE P t = some (e, sz) ∧ slOf rt x = some (o, rows) ∧ rows[n.toNat]? = some row ∧ row.length = sz ∧
    (match o, x with
     | none, _ => K (.fadr row)
     | some _, .ref r q none => K (.addr r (q ++ [(n.toNat, 0)]))
     | _, _ => False)
  | _ => False

def isDR : SV → Bool
  | .d .. | .p _ => true
  | _ => false

def aggB : Value → Bool
  | .agg _ => true
  | _ => false
def noTup : SV → Bool
  | .tup l => l.all isDR
  | _ => true

def lenK (P : Program) (rt : Nat → SV) (t : TypeId) (x : SV) (K : SV → Prop) : Prop := match x with
  | .p (.string s) => P.underlying t = some .string ∧ K (.p (.int .i64 s.size))
  | y => ∃ o rows, slOf rt y = some (o, rows) ∧ (slE P t).isSome = true ∧ K (.p (.int .i64 rows.length))

def sOp (P : Program) (ev : Operand → SV) (rt : Nat → SV) (o : Oper) (K : SV → Prop) : Prop :=
  match o.op with
  | .move x => noTup (ev x) = true ∧ K (ev x)
  | .pick c a b => ∃ t, ev c = .p (.bool t) ∧ noTup (if t then ev a else ev b) = true ∧ K (if t then ev a else ev b)
  | .binOp op t x y _ => binK P op t (ev x) (ev y) (∃ v, PureRun P ev o v ∧ K (.p v)) K
  | .unOp .neg _ x => ∃ k n, ev x = .p (.int k n) ∧ K (.p (.int k (k.wrap (0 - n))))
  | .unOp .not _ x => ∃ b, ev x = .p (.bool b) ∧ K (.p (.bool (!b)))
  | .convert .. => ∃ v, PureRun P ev o v ∧ K (.p v)
  | .load t a => loadK P rt t (ev a) K
  | .fieldAddr t a k => ∃ off, fldO P t k = some off ∧ (match ev a with
    | .fadr cs => K (.fadr (cs.drop off))
    | .addr r q => K (.addr r (bumpP q off))
    | _ => False)
  | .indexAddr t x i => idxK P rt t (ev x) (ev i) K
  | .extract x k => ∃ l y, ev x = .tup l ∧ l[k]? = some y ∧ isDR y = true ∧ K y
  | .alloc t => ∃ cs, zeroC P t = some cs ∧ K (.box cs)
  | .makeSlice t l c => ∃ n : Nat, ev l = .p (.int .i64 n) ∧ ev c = .p (.int .i64 n) ∧ n ≤ 1099511627776 ∧ ∃ e sz, slE P t = some (e, sz) ∧ ∃ z, zeroC P e = some z ∧
      ((P.info? e).map (·.bytes)).getD 0 ≤ 128 ∧ K (.ov false [.sl (some e) (List.replicate n z)])
  | .buildSlice t n parts => ∃ e sz, slE P t = some (e, sz) ∧ ∃ rows, parts.size = n ∧ n ≤ 65536 ∧ sz ≤ 16 ∧
      (P.info? e).any (·.zero.isSome) ∧ partsOf ev sz parts.toList 0 = some rows ∧ K (.ov false [.sl (some e) rows])
  | .slice t x lo hi none => (match ev x with
    | .d false [.sl none rows] => ∃ e sz, slE P t = some (e, sz) ∧ ∃ l h : Nat, bnd ev lo 0 = some (l : Int) ∧ bnd ev hi rows.length = some (h : Int) ∧ l ≤ h ∧ h ≤ rows.length ∧
        (∀ row ∈ rows, row.length = sz) ∧ K (.d false [.sl none ((rows.take h).drop l)])
    | _ => ∃ v, PureRun P ev o v ∧ K (.p v))
  | .call c => (match c.callee with
    | .builtin .len => ∃ x t, c.args = #[x] ∧ c.argTypes = #[t] ∧ lenK P rt t (ev x) K
    | .builtin .min => ∃ x y k a b, c.args.toList = [x, y] ∧ ev x = .p (.int k a) ∧ ev y = .p (.int k b) ∧ K (.p (.int k (if b < a then b else a)))
    | .builtin .max => ∃ x y k a b, c.args.toList = [x, y] ∧ ev x = .p (.int k a) ∧ ev y = .p (.int k b) ∧ K (.p (.int k (if a < b then b else a)))
    | .value fn => ∃ f caps as res, fnOf (ev fn) = some (f, caps) ∧ toArgs rt (c.args.toList.map ev) = some as ∧ noPtr as = true ∧
        Meets P f (as ++ caps) res ∧ res.outs = [] ∧ res.vals.all simpleR = true ∧ K (resSV res.vals)
    | _ => ∃ v, PureRun P ev o v ∧ K (.p v))
  | .build t parts => ∃ cs, buildC P ev t parts.toList = some cs ∧ K (mkD true cs)
  | .makeFunc (.func f) first caps => first.size = 0 ∧ ∃ as, capsOf (caps.toList.map ev) = some as ∧ K (.d false [.fn f as])
  | .field .. | .index .. => ∃ v, PureRun P ev o v ∧ K (.p v)
  | _ => False
where
  cellsF : SV → Option (Bool × List C)
    | .p v => if v.cells.toList.all scal then some (aggB v, cellsV v) else none
    | .d g cs => some (g, cs)
    | .fadr cs => some (false, [.pt cs])
    | _ => none
  partsOf (ev : Operand → SV) (sz : Nat) : List (Nat × Operand) → Nat → Option (List (List C))
    | [], _ => some []
    | (i, x) :: l, k => match cellsF (ev x), partsOf ev sz l (k + 1) with
      | some (_, cs), some rows => if i = k ∧ cs.length = sz then some (cs :: rows) else none
      | _, _ => none
  bnd (ev : Operand → SV) (x : Option Operand) (dflt : Nat) : Option Int := match x with
    | none => some dflt
    | some y => match ev y with
      | .p (.int _ n) => some n
      | _ => none
  fnOf : SV → Option (FuncId × List Arg)
    | .p (.func (.func f) fs cs) => if fs.size = 0 ∧ cs.size = 0 then some (f, []) else none
    | .d false [.fn f caps] => some (f, caps.map fun (g, cs) => mkA g cs)
    | _ => none
  notPtr : Arg → Bool
    | .ptr _ => false
    | _ => true
  noPtr (as : List Arg) : Bool := as.all notPtr
  capsOf : List SV → Option (List (Bool × List C))
    | [] => some []
    | x :: l => match cellsF x, capsOf l with
      | some y, some r => some (y :: r)
      | _, _ => none
  buildC (P : Program) (ev : Operand → SV) (t : TypeId) (parts : List (Nat × Operand)) : Option (List C) :=
    match zeroC P t, P.underlying t with
    | some z, some (.struct fs) => if !(fs.toList.all fun f => (P.info? f.type).isSome) then none else fillC (fun k => (fs[k]?).map fun f => (f.offset, ((P.info? f.type).map (·.size)).getD 0)) ev (eraR z) parts
    | _, _ => none
  fillC (place : Nat → Option (Nat × Nat)) (ev : Operand → SV) (z : List C) : List (Nat × Operand) → Option (List C)
    | [] => some z
    | (k, x) :: l => match place k, cellsF (ev x) with
      | some (off, n), some (_, cs) => if cs.length = n ∧ off + n ≤ z.length then fillC place ev (z.take off ++ cs ++ z.drop (off + n)) l else none
      | _, _ => none
end Go.PV

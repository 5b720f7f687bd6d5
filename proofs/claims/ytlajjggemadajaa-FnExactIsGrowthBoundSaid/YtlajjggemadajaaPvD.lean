/-
  A walk over pure values: operations that act; code.
  Conditions: none.
-/
import Derived.Test.YtlajjggemadajaaPvC
set_option linter.all false
namespace Go.PV

/-- What is owned at r becomes frozen. -/
def frzSV : SV → SV
  | .ov g cs => .d g (eraR cs)
  | .box cs => .box (eraR cs)
  | x => x
def killD (r : Nat) : SV → SV
  | .ref r' q n => if r' = r then (if q = [(0, 0)] then .ref r' q n else .u) else .ref r' q n
  | .addr r' q => if r' = r then (match q with | [_] => .addr r' q | _ => .u) else .addr r' q
  | x => x
/-- The box's content is another. -/
def killBx (r : Nat) : SV → SV
  | .ref r' q n => if r' = r then .u else .ref r' q n
  | .addr r' q => if r' = r then (match q with | [_] => .addr r' q | _ => .u) else .addr r' q
  | x => x
def isTup : SV → Bool
  | .tup _ => true
  | _ => false
def frz (r : Nat) (σ : St) : St := if isTup (σ r) then σ else fun s => if s = r then frzSV (σ s) else killD r (σ s)
def frzAll : List Nat → St → St
  | [], σ => σ
  | r :: l, σ => frzAll l (frz r σ)
/-- What is owned at r is gone. -/
def gone (σ : St) (r : Nat) : St := fun s => if s = r then .u else killSV r (σ s)
/-- What is owned at r goes to d. -/
def trans (σ : St) (r d : Nat) : St := put (gone σ r) d (σ r)
def killAgg (r : Nat) : SV → SV
  | .ref r' q (some n) => if r' = r then .u else .ref r' q (some n)
  | x => x
def setCs (x : SV) (q : Path) (cs : List C) : SV := match x with
  | .ov g cs0 => .ov g ((setL [cs0] q cs).headD [])
  | .box cs0 => .box ((setL [cs0] q cs).headD [])
  | x => x
def stScal (σ : St) (r : Nat) (q : Path) (cs : List C) : St := fun s => if s = r then setCs (σ r) q cs else killAgg r (σ s)
def stStruct (σ : St) (r : Nat) (q : Path) (cs : List C) : St := fun s => if s = r then setCs (σ r) q cs else killBx r (σ s)

def rootOf : SV → List Nat
  | .ref r _ _ => [r]
  | _ => []
def ptrOf : SV → List Nat
  | .addr r [(0, 0)] => [r]
  | _ => []
def setOuts : List Nat → List (List C) → St → St
  | r :: rs, cs :: l, σ => setOuts rs l (fun s => if s = r then .box cs else killBx r (σ s))
  | _, _, σ => σ

def asgK (P : Program) (σ : St) (o : Oper) (d : Nat) (x : Operand) (K : St → Prop) : Prop :=
  match x with
  | .const (.slice none 0 0) => ∃ e sz, slE P o.type = some (e, sz) ∧ K (put σ d (.ov false [.sl (some e) []]))
  | .const v => K (put σ d (.p v))
  | .func f => K (put σ d (.p (.func (.func f) #[] #[])))
  | .global _ => False
  | .tmp t => (match σ t with
    | .ov _ _ => t ≠ d ∧ K (trans σ t d)
    | .box _ => t ≠ d ∧ K (put σ d (.addr t [(0, 0)]))
    | .ref r q n => if r = d then q = [(0, 0)] ∧ n = none ∧ (match σ r with | .ov false [_] => True | _ => False) ∧ K σ else
        (if q = [(0, 0)] then (match σ r with
          | .ov g cs => n = (if g then some cs.length else none) ∧ K (trans σ r d)
          | .d g cs => n = (if g then some cs.length else none) ∧ K (put σ d (.d g cs))
          | _ => False)
        else K (put σ d (.ref r q n)))
    | .tup _ => False
    | .addr r q => r ≠ d ∧ K (put σ d (.addr r q))
    | y => K (put σ d y))

/-- A value's cells as they are laid into memory; and the place that they leave. -/
def mvCells (σ : St) : SV → Option (List C × Option Nat)
  | .p v => if v.cells.toList.all scal then some (cellsV v, none) else none
  | .d _ cs => some (cs, none)
  | .ref r [(0, 0)] n => match σ r with
    | .ov g cs => if n = (if g then some cs.length else none) then some (cs, some r) else none
    | .d g cs => if n = (if g then some cs.length else none) then some (cs, none) else none
    | .box cs => if n = some cs.length ∨ (n = none ∧ cs.length = 1) then some (cs, some r) else none
    | _ => none
  | _ => none
def goneO (σ : St) : Option Nat → St
  | some r => gone σ r
  | none => σ

def isOwnR : SV → Bool
  | .ov .. | .box _ => true
  | _ => false
def stK (P : Program) (σ : St) (o : Oper) (t : TypeId) (a x : SV) (K : St → Prop) : Prop :=
  o.dst = none ∧ ∃ g n r q old cs mv, tyC P t = some (g, n) ∧ 0 < n ∧ isOwnR (σ r) = true ∧ a = .addr r q ∧ getRow (rows1 (σ r)) q = some old ∧ n ≤ old.length ∧ mvCells σ x = some (cs, mv) ∧ cs.length = n ∧ mv ≠ some r ∧
    (if (raws (old.take n)).isSome && (raws cs).isSome then K (stScal σ r q cs) else K (stStruct (goneO σ mv) r q cs))

def isD : SV → Bool
  | .d .. => true
  | _ => false
/-- What an append adds: its elements; the place that they leave. -/
def addRows (σ : St) (x : SV) : Option (List (List C) × Option Nat) := match slOf σ x with
  | some (none, rows) => some (rows, none)
  | some (some _, rows) => (match x with
    | .ref r [(0, 0)] none => (match σ r with
      | .ov false [.sl (some _) _] => some (rows, some r)
      | _ => none)
    | _ => none)
  | none => none

/-- What is appended to: nothing yet, or a slice of the function's own. -/
def apSrc (σ : St) : Operand → SV
  | .const v => evS σ (.const v)
  | .tmp z => if isD (σ z) then .u else evS σ (.tmp z)
  | _ => .u
def apE (P : Program) (e : TypeId) : Bool := match P.info? e with
  | some i => decide (i.bytes ≤ 128) && (match i.zero with
    | some z => z.cells.size == i.size
    | none => false)
  | none => false
def apK (P : Program) (σ : St) (o : Oper) (t : TypeId) (s x : SV) (K : St → Prop) : Prop :=
  ∃ e sz rows2 mv, slE P t = some (e, sz) ∧ apE P e = true ∧ addRows σ x = some (rows2, mv) ∧ (∀ row ∈ rows2, row.length = sz) ∧
  match s with
  | .d false [.sl none []] => rows2.length ≤ 1099511627776 ∧ K (putO o.dst (.ov false [.sl (some e) rows2]) (goneO σ mv))
  | .ref r [(0, 0)] none => mv ≠ some r ∧ (match σ r with
    | .ov false [.sl (some e') rows] => e' = e ∧ rows.length + rows2.length ≤ 1099511627776 ∧ K (putO o.dst (.ov false [.sl (some e) (rows ++ rows2)]) (gone (goneO σ mv) r))
    | _ => False)
  | _ => False

def callK (P : Program) (σ : St) (o : Oper) (fn : Operand) (args : List Operand) (K : St → Prop) : Prop :=
  ∃ f caps as res, sOp.fnOf (evS σ fn) = some (f, caps) ∧ toArgs σ (args.map (evS σ)) = some as ∧ sOp.noPtr as = true ∧
    Meets P f (as ++ caps) res ∧ res.outs = [] ∧
    K (putO o.dst (resSV res.vals) (if res.vals.all simpleR then σ else frzAll ((args.map (evS σ)).flatMap rootOf) σ))

def pvOp (P : Program) (o : Oper) (σ : St) (K : St → Prop) : Prop :=
  match o.op with
  | .assign x => match o.dst with | some d => asgK P σ o d x K | none => False
  | .store t a x => stK P σ o t (evS σ a) (evS σ x) K
  | .box t x => ∃ g n cs mv, tyC P t = some (g, n) ∧ mvCells σ (evS σ x) = some (cs, mv) ∧ cs.length = n ∧ K (putO o.dst (.box cs) (goneO σ mv))
  | .call { callee := .builtin .append, args := args, argTypes := ts } => ∃ s x t, args.toList = [s, x] ∧ ts.toList = [t, t] ∧ apK P σ o t (apSrc σ s) (evS σ x) K
  | .call { callee := .value fn, args := args, argTypes := _ } => callK P σ o fn args.toList K
  | .move (.tmp t) => (match σ t with
    | .tup _ => ∃ d, o.dst = some d ∧ t ≠ d ∧ K (trans σ t d)
    | _ => sOp P (evS σ) σ o (fun x => K (putO o.dst x σ)))
  | .extract (.tmp t) k => ∃ l y, σ t = .tup l ∧ l[k]? = some y ∧ (match y with
    | .ov g cs => K (putO o.dst (.ov g cs) (upd σ t (.tup (l.set k .u))))
    | y => isDR y = true ∧ K (putO o.dst y σ))
  | .buildSlice t n parts => sOp P (evS σ) σ o (fun x => K (putO o.dst x σ)) ∨
      ∃ e sz x cs r, slE P t = some (e, sz) ∧ apE P e = true ∧ parts.toList = [(0, x)] ∧ n = 1 ∧ mvCells σ (evS σ x) = some (cs, some r) ∧ cs.length = sz ∧ 0 < sz ∧ sz ≤ 16 ∧ K (putO o.dst (.ov false [.sl (some e) [cs]]) (gone σ r))
  | _ => sOp P (evS σ) σ o (fun x => K (putO o.dst x σ))

/-- An operation under its guard. -/
def gOp (ops : Array Oper) (o : Oper) (σ : St) (run : Prop) (skip : Prop) : Prop :=
  match o.guard with
  | none => run
  | some (j, want) => ∃ d, (ops[j]?).bind (·.dst) = some d ∧ (match σ d with
    | .p (.bool b) => if b = want then run else skip
    | .p (.tuple vs) => vs.size = 0 ∧ skip
    | _ => False)
def pvL (P : Program) (ops : Array Oper) : List Oper → St → (St → Prop) → Prop
  | [], σ, K => K σ
  | o :: l, σ, K => gOp ops o σ (pvOp P o σ fun σ' => pvL P ops l σ' K) (pvL P ops l (putO o.dst (.p (.tuple #[])) σ) K)

/-- An operation where the order is open. -/
def stOf (o : Oper) : Option Nat := match o.op with
  | .store _ (.tmp d) _ => some d
  | _ => none
/-- The slot that an operation turns: of a store into a new box, the box's. -/
def dstE (o : Oper) : Option Nat := match stOf o with
  | some d => some d
  | none => o.dst
def isTm (r : Nat) : Operand → Bool
  | .tmp t => t == r
  | _ => false
/-- What an operation may read where the order is open: what the roots were, and the roots that it names, as they stand; of the boxes that are stored into (marked by an empty tuple) nothing. -/
def rtL (rt : Nat → SV) (o : Oper) (σ : St) : Nat → SV := fun r => match rt r with
  | .tup _ => .u
  | x => if o.op.operands.any (isTm r) = true then σ r else x
def dStore (P : Program) (rt : Nat → SV) (o : Oper) (σ : St) (d : Nat) (y : SV) : Prop :=
  o.guard = none ∧ o.dst = none ∧ rt d = .tup [] ∧ ∃ t x g n old v, o.op = .store t (.tmp d) x ∧ tyC P t = some (g, n) ∧ 0 < n ∧ σ d = .box old ∧ old.length = n ∧ (raws old).isSome = true ∧
    evS σ x = .p v ∧ v.cells.toList.all scal = true ∧ v.cells.size = n ∧ y = .box (cellsV v)
def dOp (P : Program) (rt : Nat → SV) (o : Oper) (σ : St) (K : St → Prop) : Prop :=
  (∃ d, o.dst = some d ∧ stOf o = none ∧ isRoot (σ d) = false ∧ (match o.op with
  | .assign x => ∃ v, evS σ x = .p v ∧ K (upd σ d (.p v))
  | _ => sOp P (evS σ) (rtL rt o σ) o (fun x => K (upd σ d x)))) ∨ ∃ d y, dStore P rt o σ d y ∧ K (upd σ d y)
def pvD (P : Program) (ops : Array Oper) (rt : Nat → SV) : List Oper → St → (St → Prop) → Prop
  | [], σ, K => K σ
  | o :: l, σ, K => gOp ops o σ (dOp P rt o σ fun σ' => pvD P ops rt l σ' K) (∃ d, o.dst = some d ∧ stOf o = none ∧ isRoot (σ d) = false ∧ pvD P ops rt l (upd σ d (.p (.tuple #[]))) K)

def waitsOn (o : Oper) (k : Nat) : Bool := o.after.any fun e => Region.binds .any e && e.on == k
/-- What each operation waits for, through others too, as the bits of a number. -/
def maskOf (ms : List Nat) (o : Oper) : Nat := o.after.toList.foldl (fun s e => if Region.binds .any e then s ||| (2 ^ e.on ||| ms.getD e.on 0) else s) 0
def masks : List Oper → List Nat → List Nat
  | [], ms => ms
  | o :: l, ms => masks l (ms ++ [maskOf ms o])
def apartE (ops : Array Oper) (x y : Oper) : Bool :=
  (match dstE x with | some d => !(y.looksAt ops).contains d && dstE y != some d | none => true) && (match dstE y with | some d => !(x.looksAt ops).contains d | none => true)
def isAl : Op → Bool
  | .alloc _ => true
  | _ => false
/-- The first n operations in whatever order, the rest behind them in the text's. -/
def drawB (ops : Array Oper) (n : Nat) : Bool :=
  decide (n ≤ ops.size) && ((List.range ops.size).all fun j => match ops[j]? with
    | some oj => oj.after.all (fun e => !Region.binds .any e || decide (e.on < j)) && (List.range j).all fun k => match ops[k]? with
      | some ok => waitsOn oj k || ((decide (j < n) && apartE ops ok oj) || ((masks ops.toList []).getD j 0).testBit k)
      | _ => false
    | none => false) && (List.range n).all fun j => match (ops[j]?).bind stOf with
      | some d => (List.range n).all fun k => k == j || (match ops[k]? with
        | some ok => dstE ok != some d || isAl ok.op
        | none => true)
      | none => true
/-- The boxes that the first n operations store into. -/
def stSl (ops : Array Oper) (n : Nat) : List Nat := (List.range n).filterMap fun j => (ops[j]?).bind stOf
/-- What the operations may read: of the boxes that are stored into, nothing. -/
def rtOf (S : List Nat) (σ : St) : Nat → SV := fun r => if S.contains r = true then .tup [] else if isRoot (σ r) = true then σ r else .u
/-- The boxes that are stored into: no other slot leads to their content. -/
def hid (S : List Nat) (σ : St) : Prop := ∀ r ∈ S, isRoot (σ r) = true → isBox (σ r) = true ∧ ∀ s q m, σ s ≠ .ref r q m

inductive Ex where
  | normal
  | exit (id : Nat)
  | ret

end Go.PV

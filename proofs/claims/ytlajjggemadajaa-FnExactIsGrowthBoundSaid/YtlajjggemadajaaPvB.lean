/-
  A walk over pure values: the states and what each operation does to them.
  Conditions: none.
-/
import Derived.Test.YtlajjggemadajaaPvA
set_option linter.all false
namespace Go.PV

/-- What a slot holds. -/
inductive SV where
  | u
  | p (v : Value)
  | d (g : Bool) (cs : List C)
  | ov (g : Bool) (cs : List C)
  | box (cs : List C)
  | ref (r : Nat) (q : Path) (n : Option Nat)
  | addr (r : Nat) (q : Path)
  | fadr (cs : List C)
  | tup (l : List SV)

abbrev St := Nat → SV

def isRoot : SV → Bool
  | .d .. | .ov .. | .box _ => true
  | _ => false
/-- What bears labels. -/
def isLab : SV → Bool
  | .ov .. | .box _ | .tup _ => true
  | _ => false
def isBox : SV → Bool
  | .box _ => true
  | _ => false
def killSV (r : Nat) : SV → SV
  | .ref r' q n => if r' = r then .u else .ref r' q n
  | .addr r' q => if r' = r then .u else .addr r' q
  | x => x
def upd (σ : St) (k : Nat) (x : SV) : St := fun s => if s = k then x else σ s
def updK (σ : St) (k : Nat) (x : SV) : St := fun s => if s = k then x else killSV k (σ s)
/-- A slot is written. -/
def put (σ : St) (k : Nat) (x : SV) : St := if isRoot (σ k) then updK σ k (killSV k x) else upd σ k x
def putO (k : Option Nat) (x : SV) (σ : St) : St := match k with | some k => put σ k x | none => σ
def ofL : List (Nat × SV) → St
  | [] => fun _ => .u
  | (k, x) :: l => upd (ofL l) k x

def rows1 : SV → List (List C)
  | .d _ cs | .ov _ cs | .box cs => [cs]
  | _ => []

/-- All cells plain. -/
def raws : List C → Option (List Value)
  | [] => some []
  | .raw v :: r => match raws r with | some vs => some (v :: vs) | none => none
  | _ :: _ => none
mutual
def frC : C → Bool
  | .raw _ => true
  | .sl o rows => o.isNone && frL rows
  | .fn .. => true
  | .pt _ => true
  | .dead => false
def frR : List C → Bool
  | [] => true
  | c :: r => frC c && frR r
def frL : List (List C) → Bool
  | [] => true
  | r :: l => frR r && frL l
end
def mkV (g : Bool) (vs : List Value) : Value := if g then .agg vs.toArray else vs.headD undef
def mkD (g : Bool) (cs : List C) : SV := match raws cs with
  | some vs => .p (mkV g vs)
  | none => .d g cs
def cellsV (v : Value) : List C := v.cells.toList.map .raw

def evS (σ : St) : Operand → SV
  | .tmp t => match σ t with
    | .ov g cs => .ref t [(0, 0)] (if g then some cs.length else none)
    | .box _ => .addr t [(0, 0)]
    | .d false [.pt cs] => .fadr cs
    | x => x
  | .const v => match v with
    | .slice none 0 0 => .d false [.sl none []]
    | v => .p v
  | .global _ => .u
  | .func f => .p (.func (.func f) #[] #[])

/-- The data that a slot's content stands for: how many cells it is, and these (owned marks and all). -/
def deref (rt : Nat → SV) : SV → Option (Bool × List C)
  | .p v => some ((match v with | .agg _ => true | _ => false), cellsV v)
  | .d g cs => some (g, cs)
  | .ref r q n => match getRow (rows1 (rt r)) q, n with
    | some (c :: _), none => some (false, [c])
    | some cs, some k => if k ≤ cs.length then some (true, cs.take k) else none
    | _, _ => none
  | _ => none
/-- The elements of a slice. -/
def rowsOf (rt : Nat → SV) (x : SV) : Option (List (List C)) := match deref rt x with
  | some (false, [.sl _ rows]) => some rows
  | _ => none

/-- A type's cells: whether it is a struct or an array; how many. -/
def tyC (P : Program) (t : TypeId) : Option (Bool × Nat) := match P.underlying t, P.info? t with
  | some (.struct _), some i | some (.array ..), some i => some (true, i.size)
  | some _, some i => some (false, i.size)
  | _, _ => none
/-- A slice type's element: its number, its cells. -/
def slE (P : Program) (t : TypeId) : Option (TypeId × Nat) := match P.underlying t with
  | some (.slice e) => (P.info? e).map fun i => (e, i.size)
  | _ => none
/-- A struct's field: how far in. -/
def fldO (P : Program) (t : TypeId) (k : Nat) : Option Nat := match P.underlying t with
  | some (.struct fs) => match fs[k]? with
    | some f => if ((P.info? f.type).map (·.size)).getD 0 = 0 then none else some f.offset
    | none => none
  | _ => none

/-- Which cells of a type are slices, and of what. -/
def cellTys (P : Program) : Nat → TypeId → Option (List (Option TypeId))
  | 0, _ => none
  | n + 1, t => match P.underlying t with
    | some (.slice e) => some [some e]
    | some (.struct fs) => fs.toList.foldl (fun acc f => match acc, cellTys P n f.type with | some l, some z => some (l ++ z) | _, _ => none) (some [])
    | some (.array k e) => (cellTys P n e).map fun z => (List.replicate k z).flatten
    | some _ => some [none]
    | none => none
def zCells : List Value → List (Option TypeId) → Option (List C)
  | [], [] => some []
  | v :: vs, none :: os => if scal v then (zCells vs os).map (.raw v :: ·) else none
  | .slice none 0 0 :: vs, some e :: os => (zCells vs os).map (.sl (some e) [] :: ·)
  | _, _ => none
/-- The zero of a type, its slices owned. -/
def zeroC (P : Program) (t : TypeId) : Option (List C) := match P.info? t, cellTys P 20 t with
  | some i, some os => match i.zero with
    | some z => if z.cells.size = i.size then zCells z.cells.toList os else none
    | none => none
  | _, _ => none

inductive Arg where
  | v (v : Value)
  | d (g : Bool) (cs : List C)
  | ptr (cs : List C)
inductive RV where
  | p (v : Value)
  | d (g : Bool) (cs : List C)
  | ov (g : Bool) (cs : List C)
structure Res where
  vals : List RV
  outs : List (List C) := []

def RV.sv : RV → SV
  | .p v => .p v
  | .d g cs => .d g cs
  | .ov g cs => .ov g cs
def resSV : List RV → SV
  | [r] => r.sv
  | l => .tup (l.map RV.sv)
def mkA (g : Bool) (cs : List C) : Arg := match raws cs with
  | some vs => .v (mkV g vs)
  | none => .d g cs
def toArg (rt : Nat → SV) : SV → Option Arg
  | .p v => some (.v v)
  | .d g cs => some (.d g cs)
  | .fadr cs => some (.d false [.pt cs])
  | .ref r q n => match deref rt (.ref r q n) with
    | some (g, cs) => some (mkA g (eraR cs))
    | none => none
  | .addr r [(0, 0)] => match rt r with
    | .box cs => some (.ptr (eraR cs))
    | _ => none
  | _ => none
def toArgs (rt : Nat → SV) : List SV → Option (List Arg)
  | [] => some []
  | x :: l => match toArg rt x, toArgs rt l with
    | some a, some as => some (a :: as)
    | _, _ => none
end Go.PV

/-
  A walk over pure values: what stands for what, and that each operation keeps it.
  Conditions: none.
-/
import Derived.Orders
import Derived.Laws.AppendOwn
import Derived.WideLaws
import Derived.Laws.OwnMore
import Derived.Laws.IdiomStrings
set_option linter.all false
/-
 A walk over pure values: the data,how a value in memory stands for them,and what keeps that.
 Conditions: none.
-/
namespace Go.PV
inductive C where
 | raw (v:Value)
 | sl (o:Option TypeId) (rows:List (List C))
 | fn (f:FuncId) (caps:List (Bool×List C))
 | pt (cs:List C)
 | dead
 | bp (t:TypeId)
 | er (b:Bool)
abbrev Path:=List (Nat×Nat)
mutual
def era:C->C
 | .raw v=>.raw v
 | .sl _ rows=>.sl none (eraL rows)
 | .fn f caps=>.fn f caps
 | .pt cs=>.pt cs
 | .dead=>.dead
 | .bp t=>.bp t
 | .er b=>.er b
def eraR:List C->List C
 | []=>[]
 | c::r=>era c::eraR r
def eraL:List (List C)->List (List C)
 | []=>[]
 | r::l=>eraR r::eraL l
end
theorem yuy1 {c:C} {t:TypeId} (h:era c=.bp t):c=.bp t:=by
 cases c <;> simp[era] at h ⊢
 exact h
theorem yam (l:List C):eraR l=l.map era:=by
 induction l <;> simp_all [eraR]
theorem ygg1 (l:List (List C)):eraL l=l.map eraR:=by
 induction l <;> simp_all [eraL]
def scal:Value->Bool
 | .agg _ | .tuple _ | .slice ..=>false
 | _=>true
def erV (b:Bool) (v:Value):Prop:=if b=true then v=.nilIface else ∃ te pe,v=.iface te pe
theorem yyu1 {b:Bool} {v:Value} (h:erV b v):v.oneCell'=true:=by
 unfold erV at h
 split at h
 ·rw[h];rfl
 obtain⟨te,pe,rfl⟩:=h;rfl
def esz (P:Program) (e:TypeId):Nat:=((P.info? e).map (·.size)).getD 0
def VShape (g:Bool) (v:Value) (n:Nat):Prop :=
 if g then ∃ arr:Array Value,v=.agg arr/\arr.size=n else v.cells=#[v]/\n=1
inductive Frz (Z:Nat->Prop) (w:World):Value->C->Prop where
 | raw {v:Value} (h:scal v=true):Frz Z w v (.raw v)
 | nil {a:Option Addr} {cap:Nat}:Frz Z w (.slice a 0 cap) (.sl none [])
 | sl {b off cap sz:Nat} {rows:List (List C)} (vs:Nat->Nat->Value) (hn:rows.length<=cap) (hz:Z b) (hsz:∀ row∈rows,row.length=sz)
   (hc:∀ i row o c,rows[i]?=some row->row[o]?=some c->w.cell? ⟨b,off+i*sz+o,none⟩=some (vs i o))
   (hr:∀ i row o c,rows[i]?=some row->row[o]?=some c->Frz Z w (vs i o) c) :
   Frz Z w (.slice (some ⟨b,off,none⟩) rows.length cap) (.sl none rows)
 | fn {f:FuncId} {caps:List (Bool×List C)} {vals:Array Value} (hn:vals.size=caps.length)
   (hs:∀ i g cs,caps[i]?=some (g,cs)->VShape g (vals.getD i undef) cs.length)
   (hr:∀ i g cs j c,caps[i]?=some (g,cs)->cs[j]?=some c->Frz Z w ((vals.getD i undef).cells.getD j undef) c) :
   Frz Z w (.func (.func f) #[] vals) (.fn f caps)
 | pt {b off:Nat} {cs:List C} (vs:Nat->Value) (hz:Z b) (hc:∀ j c,cs[j]?=some c->w.cell? ⟨b,off+j,none⟩=some (vs j)) (hr:∀ j c,cs[j]?=some c->Frz Z w (vs j) c) :
   Frz Z w (.pointer (some ⟨b,off,none⟩)) (.pt cs)
 | dead {v:Value} (h:v.oneCell'=true):Frz Z w v .dead
 | bp {v:Value} {t:TypeId} (h:v.oneCell'=true):Frz Z w v (.bp t)
 | er {v:Value} {b:Bool} (h:erV b v):Frz Z w v (.er b)
abbrev Lab:=Nat->Option (Nat×Path)
inductive Rep (P:Program) (Z:Nat->Prop) (L:Lab) (w:World) (s:Nat):Path->Value->C->Prop where
 | frz {p:Path} {v:Value} {c:C} (h:Frz Z w v c):Rep P Z L w s p v c
 | onil {p:Path} {e:TypeId}:Rep P Z L w s p (.slice none 0 0) (.sl (some e) [])
 | own {p:Path} {g cap:Nat} {arr:Array Value} {e:TypeId} {rows:List (List C)} (hl:L g=some (s,p)) (hg:w.heap[g]?=some (.cells arr e (0,0)))
   (hn:rows.length<=cap) (hm:cap<=maxLen) (ha:arr.size=cap*esz P e) (hsz:∀ row∈rows,row.length=esz P e)
   (hr:∀ i row o c,rows[i]?=some row->row[o]?=some c->Rep P Z L w s (p++[(i,o)]) (arr.getD (i*esz P e+o) undef) c) :
   Rep P Z L w s p (.slice (some ⟨g,0,none⟩) rows.length cap) (.sl (some e) rows)
def FrzV (Z:Nat->Prop) (w:World) (g:Bool) (v:Value) (cs:List C):Prop :=
 VShape g v cs.length/\∀ j c,cs[j]?=some c->Frz Z w (v.cells.getD j undef) c
def RepV (P:Program) (Z:Nat->Prop) (L:Lab) (w:World) (s i:Nat) (g:Bool) (v:Value) (cs:List C):Prop :=
 VShape g v cs.length/\∀ j c,cs[j]?=some c->Rep P Z L w s [(i,j)] (v.cells.getD j undef) c
def BoxAt (P:Program) (Z:Nat->Prop) (L:Lab) (w:World) (s b:Nat) (cs:List C):Prop :=
 L b=some (s,[])/\∃ (arr:Array Value) (e:TypeId),w.heap[b]?=some (.cells arr e (0,0))/\arr.size=cs.length /\
  ∀ j c,cs[j]?=some c->Rep P Z L w s [(0,j)] (arr.getD j undef) c/\∀ t,c=.bp t->e=t/\(arr.getD j undef=.pointer none\/arr.getD j undef=.pointer (some ⟨b,0,none⟩))
theorem yxq {w w':World} {b:Nat} (h:w'.heap[b]?=w.heap[b]?) (o:Nat):w'.cell? ⟨b,o,none⟩=w.cell? ⟨b,o,none⟩:=by
 simp[World.cell?,h]
theorem Frz.mono {Z Z':Nat->Prop} {w w':World} {v:Value} {c:C} (h:Frz Z w v c) (hz:∀ b,Z b->Z' b/\w'.heap[b]?=w.heap[b]?):Frz Z' w' v c:=by
 induction h with
 | raw h=>exact .raw h
 | nil=>exact .nil
 | sl vs hn hz0 hsz hc hr ih =>
  exact .sl vs hn (hz _ hz0).1 hsz (fun i row o c h1 h2=>(yxq (hz _ hz0).2 _).trans (hc i row o c h1 h2)) ih
 | fn hn hs hr ih=>exact .fn hn hs ih
 | pt vs hz0 hc hr ih=>exact .pt vs (hz _ hz0).1 (fun j c h=>(yxq (hz _ hz0).2 _).trans (hc j c h)) ih
 | dead h=>exact .dead h
 | bp h=>exact .bp h
 | er h=>exact .er h
theorem FrzV.mono {Z Z':Nat->Prop} {w w':World} {g:Bool} {v:Value} {cs:List C} (h:FrzV Z w g v cs) (hz:∀ b,Z b->Z' b/\w'.heap[b]?=w.heap[b]?):FrzV Z' w' g v cs :=
 ⟨h.1,fun j c hj=>(h.2 j c hj).mono hz⟩
theorem Frz.era_self {Z:Nat->Prop} {w:World} {v:Value} {c:C} (h:Frz Z w v c):Frz Z w v (era c):=by
 induction h with
 | raw h=>exact .raw h
 | nil=>exact .nil
 | @sl b off cap sz rows vs hn hz hsz hc hr ih =>
  simp only[era,ygg1];have hget:∀ (i:Nat) (row':List C) (o:Nat) (c':C),(rows.map eraR)[i]?=some row'->row'[o]?=some c'->∃ (row:List C) (c:C),rows[i]?=some row/\row[o]?=some c/\c'=era c:=by
   intro i row' o c' h1 h2
   rw[List.getElem?_map] at h1;cases hri:rows[i]? with
   | none=>simp[hri] at h1
   | some row =>
    simp[hri] at h1
    subst h1;rw[yam,List.getElem?_map] at h2;cases hro:row[o]? with
    | none=>simp[hro] at h2
    | some c=>simp[hro] at h2;exact⟨row,c,rfl,hro,h2.symm⟩
  have:=Frz.sl (Z:=Z) (w:=w) (b:=b) (off:=off) (cap:=cap) (sz:=sz) (rows:=rows.map eraR) vs (by simpa using hn) hz (by
    intro row' hr'
    obtain⟨row,hrow,rfl⟩:=List.mem_map.1 hr'
    rw[yam,List.length_map];exact hsz row hrow)
   (fun i row' o c' h1 h2=>by obtain⟨row,c,a,b',_⟩:=hget i row' o c' h1 h2;exact hc i row o c a b')
   (fun i row' o c' h1 h2=>by obtain⟨row,c,a,b',rfl⟩:=hget i row' o c' h1 h2;exact ih i row o c a b')
  simpa using this
 | fn hn hs hr=>exact .fn hn hs hr
 | pt vs hz hc hr=>exact .pt vs hz hc hr
 | dead h=>exact .dead h
 | bp h=>exact .bp h
 | er h=>exact .er h
theorem Rep.move {P:Program} {Z Z':Nat->Prop} {L L':Lab} {w w':World} {s s':Nat} {p:Path} {v:Value} {c:C} (h:Rep P Z L w s p v c) :
  ∀ (p':Path),(∀ b,Z b->Z' b/\w'.heap[b]?=w.heap[b]?)->(∀ b q,L b=some (s,p++q)->L' b=some (s',p'++q)/\w'.heap[b]?=w.heap[b]?)->Rep P Z' L' w' s' p' v c:=by
 induction h with
 | frz h=>exact fun p' hz _=>.frz (h.mono hz)
 | onil=>exact fun p' _ _=>.onil
 | @own p g cap arr e rows hl hg hn hm ha hsz hr ih =>
  intro p' hz hL
  have h0:=hL g [] (by simpa using hl)
  simp only[List.append_nil] at h0;refine .own h0.1 (h0.2.trans hg) hn hm ha hsz fun i row o c h1 h2=>?_
  refine ih i row o c h1 h2 (p'++[(i,o)]) hz fun b q hb=>?_
  have:=hL b ((i,o)::q) (by simpa using hb)
  simpa using this
theorem yzu1 {rows:List (List C)} {i o n sz cap:Nat} {row:List C} {c:C} (h1:rows[i]?=some row) (h2:row[o]?=some c) (hsz:∀ row∈rows,row.length=sz) (hn:rows.length<=cap) (ha:n=cap*sz):i*sz+o<n:=by
 have hi:i<rows.length:=(List.getElem?_eq_some_iff.1 h1).1
 have ho:o<row.length:=(List.getElem?_eq_some_iff.1 h2).1
 rw[hsz row (List.mem_of_getElem? h1)] at ho
 subst ha
 calc i*sz+o<i*sz+sz:=by omega
  _=(i+1)*sz:=by rw[Nat.add_mul,Nat.one_mul]
  _<=cap*sz:=Nat.mul_le_mul_right _ (by omega)
theorem Rep.freeze {P:Program} {Z Z':Nat->Prop} {L:Lab} {w w':World} {s:Nat} {p:Path} {v:Value} {c:C} (h:Rep P Z L w s p v c) :
  (∀ b,Z b->Z' b/\w'.heap[b]?=w.heap[b]?)->(∀ b q,L b=some (s,p++q)->Z' b/\w'.heap[b]?=w.heap[b]?)->Frz Z' w' v (era c):=by
 induction h with
 | frz h=>exact fun hz _=>(h.mono hz).era_self
 | onil=>exact fun _ _=>by simpa [era,eraL] using Frz.nil
 | @own p g cap arr e rows hl hg hn hm ha hsz hr ih =>
  intro hz hL;have h0:=hL g [] (by simpa using hl)
  have key:Frz Z' w' (.slice (some ⟨g,0,none⟩) (rows.map eraR).length cap) (.sl none (rows.map eraR)):=by
   refine Frz.sl (sz:=esz P e) (fun i o=>arr.getD (i*esz P e+o) undef) (by simpa using hn) h0.1 ?_ ?_ ?_
   ·intro row' hr'
    obtain⟨row,hrow,rfl⟩:=List.mem_map.1 hr'
    rw[yam,List.length_map];exact hsz row hrow
   ·intro i row' o c' h1 h2
    rw[List.getElem?_map] at h1;cases hri:rows[i]? with
    | none=>simp[hri] at h1
    | some row =>
     simp[hri] at h1
     subst h1;rw[yam,List.getElem?_map] at h2;cases hro:row[o]? with
     | none=>simp[hro] at h2
     | some c =>
      have hlt:=yzu1 hri hro hsz hn ha;simp[World.cell?,h0.2.trans hg,hlt]
   intro i row' o c' h1 h2
   rw[List.getElem?_map] at h1;cases hri:rows[i]? with
   | none=>simp[hri] at h1
   | some row =>
    simp[hri] at h1
    subst h1;rw[yam,List.getElem?_map] at h2;cases hro:row[o]? with
    | none=>simp[hro] at h2
    | some c =>
     simp[hro] at h2
     subst h2;refine ih i row o c hri hro hz fun b q hb=>?_
     exact hL b ((i,o)::q) (by simpa using hb)
  rw[era,ygg1];simpa using key
theorem yvy1 {Z:Nat->Prop} {w:World} {v:Value} {b:Bool} (h:Frz Z w v (.er b)):erV b v:=by
 cases h with
 | er h=>exact h
theorem ybu {v:Value} (h:scal v=true):v.oneCell'=true:=by
 cases v <;> simp_all [scal,Value.oneCell']
theorem Frz.oneCell {Z:Nat->Prop} {w:World} {v:Value} {c:C} (h:Frz Z w v c):v.oneCell'=true:=by
 cases h with
 | raw h=>exact ybu h
 | nil=>rfl
 | sl=>rfl
 | fn=>rfl
 | pt=>rfl
 | dead h=>exact h
 | bp h=>exact h
 | er h=>exact yyu1 h
theorem Rep.oneCell {P:Program} {Z:Nat->Prop} {L:Lab} {w:World} {s:Nat} {p:Path} {v:Value} {c:C} (h:Rep P Z L w s p v c):v.oneCell'=true:=by
 cases h with
 | frz h=>exact h.oneCell
 | onil=>rfl
 | own=>rfl
def getRow:List (List C)->Path->Option (List C)
 | _,[]=>none
 | rows,[(i,o)]=>(rows[i]?).map (·.drop o)
 | rows,(i,o)::q=>match(rows[i]?).bind (·[o]?) with
  | some (.sl (some _) rows')=>getRow rows' q
  | _=>none
mutual
def setC:C->Path->List C->C
 | .sl t rows,q,cs=>.sl t (setL rows q cs)
 | c,_,_=>c
def setR:List C->Nat->Path->List C->List C
 | [],_,_,_=>[]
 | c::r,0,q,cs=>setC c q cs::r
 | c::r,o+1,q,cs=>c::setR r o q cs
def setL:List (List C)->Path->List C->List (List C)
 | [],_,_=>[]
 | r::l,(0,o)::q,cs=>(match q with
  | []=>r.take o++cs++r.drop (o+cs.length)
  | _::_=>setR r o q cs)::l
 | r::l,(i+1,o)::q,cs=>r::setL l ((i,o)::q) cs
 | r::l,[],_=>r::l
end
end Go.PV

/-
 A walk over pure values: the states and what each operation does to them.
 Conditions: none.
-/
namespace Go.PV
inductive SV where
 | u
 | p (v:Value)
 | d (g:Bool) (cs:List C)
 | ov (g:Bool) (cs:List C)
 | box (cs:List C)
 | ref (r:Nat) (q:Path) (n:Option Nat)
 | addr (r:Nat) (q:Path)
 | fadr (cs:List C)
 | tup (l:List SV)
abbrev St:=Nat->SV
def isRoot:SV->Bool
 | .d .. | .ov .. | .box _=>true
 | _=>false
def isLab:SV->Bool
 | .ov .. | .box _ | .tup _=>true
 | _=>false
def isBox:SV->Bool
 | .box _=>true
 | _=>false
def killSV (r:Nat):SV->SV
 | .ref r' q n=>if r'=r then .u else .ref r' q n
 | .addr r' q=>if r'=r then .u else .addr r' q
 | x=>x
def upd (σ:St) (k:Nat) (x:SV):St:=fun s=>if s=k then x else σ s
def updK (σ:St) (k:Nat) (x:SV):St:=fun s=>if s=k then x else killSV k (σ s)
def put (σ:St) (k:Nat) (x:SV):St:=if isRoot (σ k) then updK σ k (killSV k x) else upd σ k x
def putO (k:Option Nat) (x:SV) (σ:St):St:=match k with | some k=>put σ k x | none=>σ
def ofL:List (Nat×SV)->St
 | []=>fun _=>.u
 | (k,x)::l=>upd (ofL l) k x
def rows1:SV->List (List C)
 | .d _ cs | .ov _ cs | .box cs=>[cs]
 | _=>[]
def raws:List C->Option (List Value)
 | []=>some []
 | .raw v::r=>match raws r with | some vs=>some (v::vs) | none=>none
 | _::_=>none
mutual
def frC:C->Bool
 | .raw _=>true
 | .sl o rows=>o.isNone&&frL rows
 | .fn ..=>true
 | .pt _=>true
 | .dead=>false
 | .bp _=>false
 | .er _=>true
def frR:List C->Bool
 | []=>true
 | c::r=>frC c&&frR r
def frL:List (List C)->Bool
 | []=>true
 | r::l=>frR r&&frL l
end
def mkV (g:Bool) (vs:List Value):Value:=if g then .agg vs.toArray else vs.headD undef
def mkD (g:Bool) (cs:List C):SV:=match raws cs with
 | some vs=>.p (mkV g vs)
 | none=>.d g cs
def cellsV (v:Value):List C:=v.cells.toList.map .raw
def evS (σ:St):Operand->SV
 | .tmp t=>match σ t with
  | .ov g cs=>.ref t [(0,0)] (if g then some cs.length else none)
  | .box _=>.addr t [(0,0)]
  | .d false [.pt cs]=>.fadr cs
  | x=>x
 | .const v=>match v with
  | .slice none 0 0=>.d false [.sl none []]
  | v=>.p v
 | .global _=>.u
 | .func f=>.p (.func (.func f) #[] #[])
def deref (rt:Nat->SV):SV->Option (Bool×List C)
 | .p v=>some ((match v with | .agg _=>true | _=>false),cellsV v)
 | .d g cs=>some (g,cs)
 | .ref r q n=>match getRow (rows1 (rt r)) q,n with
  | some (c::_),none=>some (false,[c])
  | some cs,some k=>if k<=cs.length then some (true,cs.take k) else none
  | _,_=>none
 | _=>none
def rowsOf (rt:Nat->SV) (x:SV):Option (List (List C)):=match deref rt x with
 | some (false,[.sl _ rows])=>some rows
 | _=>none
def tyC (P:Program) (t:TypeId):Option (Bool×Nat):=match P.underlying t,P.info? t with
 | some (.struct _),some i | some (.array ..),some i=>some (true,i.size)
 | some _,some i=>some (false,i.size)
 | _,_=>none
def slE (P:Program) (t:TypeId):Option (TypeId×Nat):=match P.underlying t with
 | some (.slice e)=>(P.info? e).map fun i=>(e,i.size)
 | _=>none
def fldO (P:Program) (t:TypeId) (k:Nat):Option Nat:=match P.underlying t with
 | some (.struct fs)=>match fs[k]? with
  | some f=>if((P.info? f.type).map (·.size)).getD 0=0 then none else some f.offset
  | none=>none
 | _=>none
def cellTys (P:Program):Nat->TypeId->Option (List (Option TypeId))
 | 0,_=>none
 | n+1,t=>match P.underlying t with
  | some (.slice e)=>some [some e]
  | some (.struct fs)=>fs.toList.foldl (fun acc f=>match acc,cellTys P n f.type with | some l,some z=>some (l++z) | _,_=>none) (some [])
  | some (.array k e)=>(cellTys P n e).map fun z=>(List.replicate k z).flatten
  | some _=>some [none]
  | none=>none
def zCells:List Value->List (Option TypeId)->Option (List C)
 | [],[]=>some []
 | v::vs,none::os=>if scal v then(zCells vs os).map (.raw v::·) else none
 | .slice none 0 0::vs,some e::os=>(zCells vs os).map (.sl (some e) []::·)
 | _,_=>none
def zeroC (P:Program) (t:TypeId):Option (List C):=match P.info? t,cellTys P 20 t with
 | some i,some os=>match i.zero with
  | some z=>if z.cells.size=i.size then zCells z.cells.toList os else none
  | none=>none
 | _,_=>none
def bpC (t:TypeId):C->C
 | .raw (.pointer none)=>.bp t
 | c=>c
def bpz (t:TypeId) (cs:List C):List C:=cs.map (bpC t)
def nbC:C->Bool
 | .bp _=>false
 | _=>true
def nb:List C->Bool
 | []=>true
 | c::l=>nbC c&&nb l
theorem ykk1:∀ {cs:List C} {j:Nat} {c:C} {t:TypeId},nb cs=true->cs[j]?=some c->c≠.bp t
 | [],j,c,t,_,h=>by simp at h
 | c0::l,0,c,t,hn,h=>by
  simp only[nb,Bool.and_eq_true] at hn;simp at h;subst h
  intro hc;rw[hc] at hn;simp[nbC] at hn
 | c0::l,j+1,c,t,hn,h=>ykk1 (by simp only[nb,Bool.and_eq_true] at hn;exact hn.2) (by simpa using h)
def oneF (P:Program) (t:TypeId):Option Nat:=match P.underlying t,P.info? t with
 | some (.struct fs),some i=>(match fs.toList,i.zero with
  | [f],some z=>(match P.info? f.type with
   | some j=>if(f.offset==0&&(j.size==i.size&&z.cells.size==i.size))=true then some i.size else none
   | none=>none)
  | _,_=>none)
 | _,_=>none
inductive Arg where
 | v (v:Value)
 | d (g:Bool) (cs:List C)
 | ptr (cs:List C)
inductive RV where
 | p (v:Value)
 | d (g:Bool) (cs:List C)
 | ov (g:Bool) (cs:List C)
structure Res where
 vals:List RV
 outs:List (List C):=[]
def RV.sv:RV->SV
 | .p v=>.p v
 | .d g cs=>.d g cs
 | .ov g cs=>.ov g cs
def resSV:List RV->SV
 | [r]=>r.sv
 | l=>.tup (l.map RV.sv)
def mkA (g:Bool) (cs:List C):Arg:=match raws cs with
 | some vs=>.v (mkV g vs)
 | none=>.d g cs
def toArg (rt:Nat->SV):SV->Option Arg
 | .p v=>some (.v v)
 | .d g cs=>some (.d g cs)
 | .fadr cs=>some (.d false [.pt cs])
 | .ref r q n=>match deref rt (.ref r q n) with
  | some (g,cs)=>some (mkA g (eraR cs))
  | none=>none
 | .addr r [(0,0)]=>match rt r with
  | .box cs=>some (.ptr (eraR cs))
  | _=>none
 | _=>none
def toArgs (rt:Nat->SV):List SV->Option (List Arg)
 | []=>some []
 | x::l=>match toArg rt x,toArgs rt l with
  | some a,some axs=>some (a::axs)
  | _,_=>none
end Go.PV

/-
 A walk over pure values: contracts,operations,code.
 Conditions: none.
-/
namespace Go.PV
structure Bor where
 blk:Nat->Prop
 pins:List Value
def nob:Bor:=⟨fun _=>False,[]⟩
instance:Membership Nat Bor:=⟨fun I b=>I.blk b⟩
theorem yhe1 (b:Nat):b∉nob:=fun h=>h
structure Ev (I:Bor) (w w':World):Prop where
 os:w'.os=w.os
 tape:w'.tape=w.tape
 output:w'.output=w.output
 size:w.heap.size<=w'.heap.size
 block:∀ b,b<w.heap.size->b∉I->w'.heap[b]?=w.heap[b]?
def ArgsRep (A:Nat->Prop) (w:World):List Value->List Arg->Prop
 | [],[]=>True
 | v::vs,.v x::axs=>v=x/\ArgsRep A w vs axs
 | v::vs,.d g cs::axs=>FrzV A w g v cs/\ArgsRep A w vs axs
 | _,_=>False
def RVat (P:Program) (Z:Nat->Prop) (L:Lab) (w:World) (s i:Nat) (v:Value):RV->Prop
 | .p x=>v=x
 | .d g cs=>FrzV Z w g v cs
 | .ov g cs=>RepV P Z L w s i g v cs
def ResAt (P:Program) (Z:Nat->Prop) (L:Lab) (w:World) (s:Nat) (v:Value):List RV->Prop
 | [r]=>RVat P Z L w s 0 v r
 | l=>∃ arr:Array Value,v=.tuple arr/\arr.size=l.length/\∀ j r,l[j]?=some r->RVat P Z L w s j (arr.getD j undef) r
structure Post (P:Program) (A:Nat->Prop) (w:World) (w':World) (L:Lab) (v:Value) (res:Res):Prop where
 ev:Ev nob w w'
 inj:∀ b b' l,L b=some l->L b'=some l->b=b'
 lab:∀ b l,L b=some l->b<w'.heap.size/\w.heap.size<=b
 val:ResAt P (fun b=>L b=none/\b<w'.heap.size/\(A b\/w.heap.size<=b)) L w' 0 v res.vals
def callable (P:Program) (f:FuncId):Bool:=match P.funcs[f]? with
 | some fn => fn.body.isSome && fn.name != "runtime.NumGoroutine"
 | none=>false
def tab10:List Int:=[1,10,100,1000,10000,100000,1000000,10000000,100000000,1000000000,10000000000,100000000000,1000000000000,10000000000000,100000000000000,1000000000000000,10000000000000000,100000000000000000,1000000000000000000,10000000000000000000]
def varNames : List String := ["internal/bytealg.MaxLen", "strconv.ErrSyntax", "strconv.ErrRange"]
def varOk (n : String) (v : Value) : Prop := if n = "internal/bytealg.MaxLen" then ∃ m, v = .int .i64 m else v = .nilIface ∨ ∃ te pe, v = .iface te pe
def Tabs (P : Program) (A : Nat → Prop) (w : World) : Prop := (∀ g, P.globalNamed "internal/strconv.uint64pow10" = some g → A g ∧ ∃ t f, w.heap[g]? = some (.cells (tab10.map fun z => Value.int .u64 z).toArray t f)) ∧
 ∀ n∈varNames,∀ g,P.globalNamed n=some g->A g/\∃ v,w.cell? ⟨g,0,none⟩=some v/\varOk n v
theorem Tabs.mono {P:Program} {A A':Nat->Prop} {w w':World} (h:Tabs P A w) (hz:∀ b,A b->A' b/\w'.heap[b]?=w.heap[b]?):Tabs P A' w':=⟨fun g hg=>by
 obtain⟨h1,t,f,h2⟩:=h.1 g hg
 exact⟨(hz g h1).1,t,f,(hz g h1).2.trans h2⟩,fun n hn g hg=>by
 obtain⟨h1,v,h2,h3⟩:=h.2 n hn g hg
 exact⟨(hz g h1).1,v,(yxq (hz g h1).2 0).trans h2,h3⟩⟩
def Meets (P:Program) (f:FuncId) (args:List Arg) (res:Res):Prop :=
 callable P f=true/\∀ (w:World) (A:Nat->Prop) (vals:Array Value),
  ((∀ b,A b->b<w.heap.size)/\Tabs P A w)->ArgsRep A w vals.toList args ->
  Calls P f vals w (fun e w'=>∃ v L,e=.returned v/\Post P A w w' L v res)
def LentAt (P:Program) (Z:Nat->Prop) (L:Lab) (w:World) (s:Nat) (v:Value):SV->Prop
 | .box cs=>∃ b,v=.pointer (some ⟨b,0,none⟩)/\BoxAt P Z L w s b cs
 | .ov g cs=>RepV P Z L w s 0 g v cs
 | .u=>True
 | _=>False
structure PostB (P:Program) (A:Nat->Prop) (w:World) (L0:Lab) (v0:Value) (w':World) (L:Lab) (v:Value) (vals:List RV) (x':SV):Prop where
 ev:Ev ⟨fun b=>L0 b≠none,[]⟩ w w'
 inj:∀ b b' l,L b=some l->L b'=some l->b=b'
 lab:∀ b l,L b=some l->b<w'.heap.size/\(w.heap.size<=b\/L0 b≠none)
 val:ResAt P (fun b=>L b=none/\b<w'.heap.size/\((A b\/L0 b≠none)\/w.heap.size<=b)) L w' 1 v vals
 out:LentAt P (fun b=>L b=none/\b<w'.heap.size/\((A b\/L0 b≠none)\/w.heap.size<=b)) L w' 0 v0 x'
def MeetsB (P:Program) (f:FuncId) (x:SV) (args:List Arg) (vals:List RV) (x':SV):Prop :=
 callable P f=true/\∀ (w:World) (A:Nat->Prop) (L0:Lab) (v0:Value) (vs:List Value),
  ((∀ b,A b->b<w.heap.size/\L0 b=none)/\Tabs P A w)->(∀ b l,L0 b=some l->b<w.heap.size/\l.1=0)->(∀ b b' l,L0 b=some l->L0 b'=some l->b=b') ->
  LentAt P A L0 w 0 v0 x->ArgsRep A w vs args ->
  Calls P f (v0::vs).toArray w (fun e w'=>∃ v L,e=.returned v/\PostB P A w L0 v0 w' L v vals x')
def PureRun (P:Program) (ev:Operand->SV) (o:Oper) (v:Value):Prop :=
 ∃ ρ:Operand->Value,(∀ x∈o.op.operands,ev x=.p (ρ x))/\∀ w,(execOp ρ o).run P w=.ok (.value v) w
def intK (op:BinOp) (k:IntKind) (a b:Int) (F:Prop) (K:SV->Prop):Prop :=
 match op with
 | .add=>K (.p (.int k (k.wrap (a+b))))
 | .sub=>K (.p (.int k (k.wrap (a-b))))
 | .mul=>K (.p (.int k (k.wrap (a*b))))
 | .quo=>b≠0/\K (.p (.int k (k.wrap (a.tdiv b))))
 | .rem=>b≠0/\K (.p (.int k (a.tmod b)))
 | .eql=>K (.p (.bool (a==b)))
 | .neq=>K (.p (.bool (a != b)))
 | .lss=>K (.p (.bool (decide (a<b))))
 | .leq=>K (.p (.bool (decide (a<=b))))
 | .gtr=>K (.p (.bool (decide (a>b))))
 | .geq=>K (.p (.bool (decide (a>=b))))
 | _=>F
def boolK (P:Program) (op:BinOp) (t:TypeId) (a b:Bool) (F:Prop) (K:SV->Prop):Prop :=
 match op with
 | .eql=>P.underlying t=some .bool/\K (.p (.bool (a==b)))
 | .neq=>P.underlying t=some .bool/\K (.p (.bool (!(a==b))))
 | _=>F
def strK (op:BinOp) (a b:ByteArray) (F:Prop) (K:SV->Prop):Prop :=
 match op with
 | .eql=>K (.p (.bool (a.toList==b.toList)))
 | .neq=>K (.p (.bool (!(a.toList==b.toList))))
 | .add=>a.size+b.size<=1099511627776/\K (.p (.string (a++b)))
 | _=>F
def errK (P:Program) (op:BinOp) (t:TypeId) (b:Bool) (F:Prop) (K:SV->Prop):Prop :=
 match op with
 | .eql=>P.underlying t=some (.interface (P.methodsAt t))/\K (.p (.bool b))
 | .neq=>P.underlying t=some (.interface (P.methodsAt t))/\K (.p (.bool (!b)))
 | _=>F
def binK (P:Program) (op:BinOp) (t:TypeId) (x y:SV) (F:Prop) (K:SV->Prop):Prop :=
 match x,y with
 | .p (.int k a),.p (.int k' b)=>(k=k'/\intK op k a b F K)\/F
 | .p (.bool a),.p (.bool b)=>boolK P op t a b F K
 | .p (.string a),.p (.string b)=>strK op a b F K
 | .d false [.er b],.p .nilIface=>errK P op t b F K
 | _,_=>F
mutual
def wnC:C->Bool
 | .raw _=>true
 | .bp _=>true
 | .er _=>true
 | .sl o rows=>o.isSome&&wnL rows
 | _=>false
def wnR:List C->Bool
 | []=>true
 | c::r=>wnC c&&wnR r
def wnL:List (List C)->Bool
 | []=>true
 | r::l=>wnR r&&wnL l
end
def simpleR:RV->Bool
 | .p _=>true
 | .d ..=>false
 | .ov _ cs=>wnR cs
def bumpP (q:Path) (k:Nat):Path:=match q.getLast? with
 | some (i,o)=>q.dropLast++[(i,o+k)]
 | none=>[]
def nd:List C->Bool
 | []=>true
 | .dead::_=>false
 | .bp _::_=>false
 | _::l=>nd l
def loadK (P:Program) (rt:Nat->SV) (t:TypeId) (x:SV) (K:SV->Prop):Prop :=
 ∃ g n,tyC P t=some (g,n)/\(g=false->n=1) /\
 match x with
 | .fadr cs=>n<=cs.length/\K (mkD g (cs.take n))
 | .addr r q=>∃ cs,getRow (rows1 (rt r)) q=some cs/\n<=cs.length /\
   K (match raws (cs.take n) with
    | some vs=>.p (mkV g vs)
    | none=>if frR (cs.take n) then .d g (cs.take n) else if nd (cs.take n) then .ref r q (if g then some n else none) else .u)
 | _=>False
def slOf (rt:Nat->SV) (x:SV):Option (Option TypeId×List (List C)):=match deref rt x with
 | some (false,[.sl o rows])=>some (o,rows)
 | _=>none
def idxK (P:Program) (rt:Nat->SV) (t:TypeId) (x i:SV) (K:SV->Prop):Prop :=
  match i with
  | .p (.int _ n)=>0<=n/\∃ e sz o rows row,slE P t=some (e,sz)/\slOf rt x=some (o,rows)/\rows[n.toNat]?=some row/\row.length=sz /\
    (match o,x with
     | none,_=>K (.fadr row)
     | some _,.ref r q none=>K (.addr r (q++[(n.toNat,0)]))
     | _,_=>False)
  | _=>False
def isDR:SV->Bool
 | .d .. | .p _=>true
 | _=>false
def aggB:Value->Bool
 | .agg _=>true
 | _=>false
def noTup:SV->Bool
 | .tup l=>l.all isDR
 | _=>true
def nilU:SV->SV
 | .p .nilIface=>.u
 | z=>z
def evN (ev:Operand->SV):Operand->SV
 | .const c=>ev (.const c)
 | y=>nilU (ev y)
theorem yav1 {z:SV} {v:Value} (h:nilU z=.p v):z=.p v/\v≠.nilIface:=by
 unfold nilU at h
 split at h
 ·cases h
 rename_i hn
 subst h
 exact⟨rfl,fun hv=>hn (by rw[hv])⟩
theorem ypy1 {ev:Operand->SV} {y:Operand} {v:Value} (h:evN ev y=.p v):ev y=.p v:=by
 cases y <;> first | exact h | exact(yav1 h).1
theorem ybv1 {ev:Operand->SV} {y:Operand} (h:evN ev y=.p .nilIface):∃ c,y=.const c:=by
 cases y with
 | const c=>exact⟨c,rfl⟩
 | _=>exact absurd rfl (yav1 h).2
theorem ybo1 {ev ev':Operand->SV} {y:Operand} (h:ev y=ev' y):evN ev y=evN ev' y:=by
 cases y <;> simp only[evN,h]
def lenK (P:Program) (rt:Nat->SV) (t:TypeId) (x:SV) (K:SV->Prop):Prop:=match x with
 | .p (.string s)=>P.underlying t=some .string/\K (.p (.int .i64 s.size))
 | y=>∃ o rows,slOf rt y=some (o,rows)/\(slE P t).isSome=true/\K (.p (.int .i64 rows.length))
abbrev bytesK (P:Program) (rt:Nat->SV) (s d:TypeId) (x:SV) (K:SV->Prop):Prop :=
 ∃ (o:Option TypeId) (b:UInt8) (bs:List UInt8) (e:TypeId),slOf rt x=some (o,(b::bs).map fun c=>[.raw (.int .u8 (c.toNat:Int))])/\P.underlying s=some (.slice e)/\P.underlying e=some (.int .u8) /\
  P.underlying d=some .string/\K (.p (.string ⟨(b::bs).toArray⟩))
def fieldOne (P:Program) (t:TypeId) (k:Nat):Bool:=match P.underlying t with
 | some (.struct fs)=>(match fs[k]? with
  | some f=>f.offset==0&&(match P.underlying f.type with
   | some (.slice _)=>true
   | _=>false)
  | none=>false)
 | _=>false
def sOp (P:Program) (ev:Operand->SV) (rt:Nat->SV) (o:Oper) (K:SV->Prop):Prop :=
 match o.op with
 | .move x=>noTup (ev x)=true/\K (ev x)
 | .pick c a b=>∃ t,ev c=.p (.bool t)/\noTup (if t then ev a else ev b)=true/\K (if t then ev a else ev b)
 | .binOp op t x y _=>binK P op t (ev x) (evN ev y) (∃ v,PureRun P ev o v/\K (.p v)) K
 | .unOp .neg _ x=>∃ k n,ev x=.p (.int k n)/\K (.p (.int k (k.wrap (0-n))))
 | .unOp .not _ x=>∃ b,ev x=.p (.bool b)/\K (.p (.bool (!b)))
 | .convert s d x=>(∃ v,PureRun P ev o v/\K (.p v))\/bytesK P rt s d (ev x) K
 | .load t a=>loadK P rt t (ev a) K
 | .fieldAddr t a k=>∃ off,fldO P t k=some off/\(match ev a with
  | .fadr cs=>K (.fadr (cs.drop off))
  | .addr r q=>K (.addr r (bumpP q off))
  | _=>False)
 | .nilCheck x=>(match ev x with
  | .fadr cs=>K (.fadr cs)
  | .addr r q=>K (.addr r q)
  | _=>False)
 | .indexAddr t x i=>idxK P rt t (ev x) (ev i) K
 | .extract x k=>∃ l y,ev x=.tup l/\l[k]?=some y/\isDR y=true/\K y
 | .alloc t=>∃ cs,zeroC P t=some cs/\K (.box (bpz t cs))
 | .makeSlice t l c=>∃ n:Nat,ev l=.p (.int .i64 n)/\ev c=.p (.int .i64 n)/\n<=1099511627776/\∃ e sz,slE P t=some (e,sz)/\∃ z,zeroC P e=some z /\
   ((P.info? e).map (·.bytes)).getD 0<=128/\K (.ov false [.sl (some e) (List.replicate n z)])
 | .buildSlice t n parts=>∃ e sz,slE P t=some (e,sz)/\∃ rows,parts.size=n/\n<=65536/\sz<=16 /\
   (P.info? e).any (·.zero.isSome)/\partsOf ev sz parts.toList 0=some rows/\K (.ov false [.sl (some e) rows])
 | .slice t x lo hi none=>(match ev x with
  | .d false [.sl none rows]=>∃ e sz,slE P t=some (e,sz)/\∃ l h:Nat,bnd ev lo 0=some (l:Int)/\bnd ev hi rows.length=some (h:Int)/\l<=h/\h<=rows.length /\
    (∀ row∈rows,row.length=sz)/\K (.d false [.sl none ((rows.take h).drop l)])
  | _=>∃ v,PureRun P ev o v/\K (.p v))
 | .call c=>(match c.callee with
  | .builtin .len=>∃ x t,c.args=#[x]/\c.argTypes=#[t]/\lenK P rt t (ev x) K
  | .builtin .min=>∃ x y k a b,c.args.toList=[x,y]/\ev x=.p (.int k a)/\ev y=.p (.int k b)/\K (.p (.int k (if b<a then b else a)))
  | .builtin .max=>∃ x y k a b,c.args.toList=[x,y]/\ev x=.p (.int k a)/\ev y=.p (.int k b)/\K (.p (.int k (if a<b then b else a)))
  | .value fn=>∃ f caps axs res,fnOf (ev fn)=some (f,caps)/\toArgs rt (c.args.toList.map ev)=some axs/\noPtr axs=true /\
    Meets P f (axs++caps) res/\res.outs=[]/\res.vals.all simpleR=true/\K (resSV res.vals)
  | _=>∃ v,PureRun P ev o v/\K (.p v))
 | .build t parts=>∃ cs,buildC P ev t parts.toList=some cs/\K (mkD true cs)
 | .makeFunc (.func f) first caps=>first.size=0/\∃ axs,capsOf (caps.toList.map ev)=some axs/\K (.d false [.fn f axs])
 | .field t x k=>(∃ v,PureRun P ev o v/\K (.p v))\/∃ r,ev x=.ref r [(0,0)] (some 1)/\isRoot (rt r)=true/\isBox (rt r)=false/\fieldOne P t k=true/\K (.ref r [(0,0)] none)
 | .index ..=>∃ v,PureRun P ev o v/\K (.p v)
 | _=>False
where
 cellsF:SV->Option (Bool×List C)
  | .p v=>if v.cells.toList.all scal then some (aggB v,cellsV v) else none
  | .d g cs=>some (g,cs)
  | .fadr cs=>some (false,[.pt cs])
  | _=>none
 partsOf (ev:Operand->SV) (sz:Nat):List (Nat×Operand)->Nat->Option (List (List C))
  | [],_=>some []
  | (i,x)::l,k=>match cellsF (ev x),partsOf ev sz l (k+1) with
   | some (_,cs),some rows=>if i=k/\cs.length=sz then some (cs::rows) else none
   | _,_=>none
 bnd (ev:Operand->SV) (x:Option Operand) (dflt:Nat):Option Int:=match x with
  | none=>some dflt
  | some y=>match ev y with
   | .p (.int _ n)=>some n
   | _=>none
 fnOf:SV->Option (FuncId×List Arg)
  | .p (.func (.func f) fs cs)=>if fs.size=0/\cs.size=0 then some (f,[]) else none
  | .d false [.fn f caps]=>some (f,caps.map fun (g,cs)=>mkA g cs)
  | _=>none
 notPtr:Arg->Bool
  | .ptr _=>false
  | _=>true
 noPtr (axs:List Arg):Bool:=axs.all notPtr
 capsOf:List SV->Option (List (Bool×List C))
  | []=>some []
  | x::l=>match cellsF x,capsOf l with
   | some y,some r=>some (y::r)
   | _,_=>none
 buildC (P:Program) (ev:Operand->SV) (t:TypeId) (parts:List (Nat×Operand)):Option (List C) :=
  match zeroC P t,P.underlying t with
  | some z,some (.struct fs)=>if !(fs.toList.all fun f=>(P.info? f.type).isSome) then none else fillC (fun k=>(fs[k]?).map fun f=>(f.offset,((P.info? f.type).map (·.size)).getD 0)) ev (eraR z) parts
  | _,_=>none
 fillC (place:Nat->Option (Nat×Nat)) (ev:Operand->SV) (z:List C):List (Nat×Operand)->Option (List C)
  | []=>some z
  | (k,x)::l=>match place k,cellsF (ev x) with
   | some (off,n),some (_,cs)=>if cs.length=n/\off+n<=z.length then fillC place ev (z.take off++cs++z.drop (off+n)) l else none
   | _,_=>none
end Go.PV

/-
 A walk over pure values: operations that act;code.
 Conditions: none.
-/
namespace Go.PV
def frzSV:SV->SV
 | .ov g cs=>.d g (eraR cs)
 | .box cs=>.box (eraR cs)
 | x=>x
def killD (r:Nat):SV->SV
 | .ref r' q n=>if r'=r then(if q=[(0,0)] then .ref r' q n else .u) else .ref r' q n
 | .addr r' q=>if r'=r then(match q with | [_]=>.addr r' q | _=>.u) else .addr r' q
 | x=>x
def killBx (r:Nat):SV->SV
 | .ref r' q n=>if r'=r then .u else .ref r' q n
 | .addr r' q=>if r'=r then(match q with | [_]=>.addr r' q | _=>.u) else .addr r' q
 | x=>x
def isTup:SV->Bool
 | .tup _=>true
 | _=>false
def frz (r:Nat) (σ:St):St:=if isTup (σ r) then σ else fun s=>if s=r then frzSV (σ s) else killD r (σ s)
def frzAll:List Nat->St->St
 | [],σ=>σ
 | r::l,σ=>frzAll l (frz r σ)
def gone (σ:St) (r:Nat):St:=fun s=>if s=r then .u else killSV r (σ s)
def trans (σ:St) (r d:Nat):St:=put (gone σ r) d (σ r)
def killAgg (r:Nat):SV->SV
 | .ref r' q (some n)=>if r'=r then .u else .ref r' q (some n)
 | x=>x
def setCs (x:SV) (q:Path) (cs:List C):SV:=match x with
 | .ov g cs0=>.ov g ((setL [cs0] q cs).headD [])
 | .box cs0=>.box ((setL [cs0] q cs).headD [])
 | x=>x
def stScal (σ:St) (r:Nat) (q:Path) (cs:List C):St:=fun s=>if s=r then setCs (σ r) q cs else killAgg r (σ s)
def stStruct (σ:St) (r:Nat) (q:Path) (cs:List C):St:=fun s=>if s=r then setCs (σ r) q cs else killBx r (σ s)
def rootOf:SV->List Nat
 | .ref r _ _=>[r]
 | _=>[]
def ptrOf:SV->List Nat
 | .addr r [(0,0)]=>[r]
 | _=>[]
def setOuts:List Nat->List (List C)->St->St
 | r::rs,cs::l,σ=>setOuts rs l (fun s=>if s=r then .box cs else killBx r (σ s))
 | _,_,σ=>σ
def asgK (P:Program) (σ:St) (o:Oper) (d:Nat) (x:Operand) (K:St->Prop):Prop :=
 match x with
 | .const (.slice none 0 0)=>∃ e sz,slE P o.type=some (e,sz)/\K (put σ d (.ov false [.sl (some e) []]))
 | .const v=>K (put σ d (.p v))
 | .func f=>K (put σ d (.p (.func (.func f) #[] #[])))
 | .global _=>False
 | .tmp t=>(match σ t with
  | .ov _ _=>t≠d/\K (trans σ t d)
  | .box _=>t≠d/\K (put σ d (.addr t [(0,0)]))
  | .ref r q n=>if r=d then q=[(0,0)]/\n=none/\(match σ r with | .ov false [_]=>True | _=>False)/\K σ else
    (if q=[(0,0)] then(match σ r with
     | .ov g cs=>n=(if g then some cs.length else none)/\K (trans σ r d)
     | .d g cs=>n=(if g then some cs.length else none)/\K (put σ d (.d g cs))
     | _=>False)
    else K (put σ d (.ref r q n))\/∃ c cs,n=none/\getRow (rows1 (σ r)) q=some (c::cs)/\K (put (gone σ r) d (.ov false [c])))
  | .tup _=>False
  | .addr r q=>r≠d/\K (put σ d (.addr r q))
  | y=>K (put σ d y))
def mvCells (σ:St):SV->Option (List C×Option Nat)
 | .p v=>if v.cells.toList.all scal then some (cellsV v,none) else none
 | .d _ cs=>some (cs,none)
 | .ref r [(0,0)] n=>match σ r with
  | .ov g cs=>if n=(if g then some cs.length else none) then some (cs,some r) else none
  | .d g cs=>if n=(if g then some cs.length else none) then some (cs,none) else none
  | .box cs=>if n=some cs.length\/(n=none/\cs.length=1) then some (cs,some r) else none
  | _=>none
 | _=>none
def goneO (σ:St):Option Nat->St
 | some r=>gone σ r
 | none=>σ
def isOwnR:SV->Bool
 | .ov .. | .box _=>true
 | _=>false
def stK (P:Program) (σ:St) (o:Oper) (t:TypeId) (a x:SV) (K:St->Prop):Prop :=
 o.dst=none/\∃ g n r q old cs mv,tyC P t=some (g,n)/\0<n/\isOwnR (σ r)=true/\a=.addr r q/\getRow (rows1 (σ r)) q=some old/\n<=old.length/\mvCells σ x=some (cs,mv)/\cs.length=n/\nb cs=true/\mv≠some r /\
  (if(raws (old.take n)).isSome&&(raws cs).isSome then K (stScal σ r q cs) else K (stStruct (goneO σ mv) r q cs))
def stKc (P:Program) (σ:St) (o:Oper) (t:TypeId) (a:SV) (cs:List C) (mv:Option Nat) (K:St->Prop):Prop :=
 o.dst=none/\∃ g n r q old,tyC P t=some (g,n)/\0<n/\isOwnR (σ r)=true/\a=.addr r q/\getRow (rows1 (σ r)) q=some old/\n<=old.length/\cs.length=n/\nb cs=true/\mv≠some r /\
  (if(raws (old.take n)).isSome&&(raws cs).isSome then K (stScal σ r q cs) else K (stStruct (goneO σ mv) r q cs))
def nilSl (P:Program) (t:TypeId):Operand->Option TypeId
 | .const (.slice none 0 0)=>(slE P t).map (·.1)
 | _=>none
def isD:SV->Bool
 | .d ..=>true
 | _=>false
def addRows (σ:St) (x:SV):Option (List (List C)×Option Nat):=match slOf σ x with
 | some (none,rows)=>some (rows,none)
 | some (some _,rows)=>(match x with
  | .ref r [(0,0)] none=>(match σ r with
   | .ov false [.sl (some _) _]=>some (rows,some r)
   | _=>none)
  | _=>none)
 | none=>none
def apSrc (σ:St):Operand->SV
 | .const v=>evS σ (.const v)
 | .tmp z=>if isD (σ z) then .u else evS σ (.tmp z)
 | _=>.u
def apE (P:Program) (e:TypeId):Bool:=match P.info? e with
 | some i=>decide (i.bytes<=128)&&(match i.zero with
  | some z=>z.cells.size==i.size
  | none=>false)
 | none=>false
def apK (P:Program) (σ:St) (o:Oper) (t:TypeId) (s x:SV) (K:St->Prop):Prop :=
 ∃ e sz rows2 mv,slE P t=some (e,sz)/\apE P e=true/\addRows σ x=some (rows2,mv)/\(∀ row∈rows2,row.length=sz) /\
 match s with
 | .d false [.sl none []]=>rows2.length<=1099511627776/\K (putO o.dst (.ov false [.sl (some e) rows2]) (goneO σ mv))
 | .ref r [(0,0)] none=>mv≠some r/\(match σ r with
  | .ov false [.sl (some e') rows]=>e'=e/\rows.length+rows2.length<=1099511627776/\K (putO o.dst (.ov false [.sl (some e) (rows++rows2)]) (gone (goneO σ mv) r))
  | _=>False)
 | _=>False
def bytesR (b:ByteArray):List (List C):=b.data.toList.map fun c=>[.raw (.int .u8 (c.toNat:Int))]
def apsK (P:Program) (σ:St) (o:Oper) (t:TypeId) (s:SV) (b:ByteArray) (K:St->Prop):Prop :=
 ∃ e r rows,slE P t=some (e,1)/\apE P e=true/\s=.ref r [(0,0)] none/\σ r=.ov false [.sl (some e) rows]/\rows.length+b.size<=1099511627776/\K (putO o.dst (.ov false [.sl (some e) (rows++bytesR b)]) (gone σ r))
def callK (P:Program) (σ:St) (o:Oper) (fn:Operand) (args:List Operand) (K:St->Prop):Prop :=
 ∃ f caps axs res,sOp.fnOf (evS σ fn)=some (f,caps)/\toArgs σ (args.map (evS σ))=some axs/\sOp.noPtr axs=true /\
  Meets P f (axs++caps) res/\res.outs=[] /\
  ∃ b:Bool,(!b||res.vals.all simpleR)=true/\K (putO o.dst (resSV res.vals) (if b then σ else frzAll ((args.map (evS σ)).flatMap rootOf) σ))
def lendCell (x:SV) (r:Nat) (q:Path) (n:Option Nat):Option (Nat×Option Path×SV) :=
 if(isOwnR x&&(n.isNone||n==some 1))=true then(match getRow (rows1 x) q with
  | some (c::_)=>some (r,some q,.ov n.isSome [c])
  | _=>none) else none
def lendOf (σ:St):SV->Option (Nat×Option Path×SV)
 | .addr r [(0,0)]=>(match σ r with
  | .box cs=>some (r,none,.box cs)
  | _=>none)
 | .ref r q n=>(match σ r with
  | .ov g cs=>if q=[(0,0)] then(if n=(if g then some cs.length else none) then some (r,none,.ov g cs) else none) else lendCell (.ov g cs) r q n
  | y=>lendCell y r q n)
 | _=>none
def killLn (r:Nat):SV->SV
 | .ref r' q n=>if r'=r then .u else .ref r' q n
 | .addr r' q=>if r'=r then(match q with | [(0,o)]=>.addr r' [(0,o)] | _=>.u) else .addr r' q
 | x=>x
def lendVal (x:SV):Option Path->SV->SV
 | none,y=>y
 | some q,.ov _ cs=>setCs x q cs
 | some _,_=>.u
def lendBack (σ:St) (r:Nat) (q:Option Path) (x':SV):St:=fun s=>if s=r then lendVal (σ r) q x' else killLn r (σ s)
def lendSame:SV->SV->Bool
 | .box _,.box _=>true
 | .ov g cs,.ov g' cs'=>g==g'&&cs.length==cs'.length&&nb cs'
 | _,_=>false
def wnS:SV->Bool
 | .box cs | .ov _ cs=>wnR cs
 | _=>false
def lendK (P:Program) (σ:St) (o:Oper) (fn:Operand) (args:List Operand) (K:St->Prop):Prop :=
 ∃ f x0 rest r q sv axs vals sv',sOp.fnOf (evS σ fn)=some (f,[])/\args=x0::rest/\lendOf σ (evS σ x0)=some (r,q,sv)/\toArgs σ (rest.map (evS σ))=some axs/\sOp.noPtr axs=true /\
  r∉(rest.map (evS σ)).flatMap rootOf/\MeetsB P f sv axs vals sv'/\lendSame sv sv'=true /\
  ∃ b:Bool,(!b||(vals.all simpleR&&wnS sv'))=true/\K (putO o.dst (resSV vals) (lendBack (if b then σ else frzAll ((rest.map (evS σ)).flatMap rootOf) σ) r q sv'))
def eatK (P:Program) (σ:St) (o:Oper) (fn:Operand) (args:List Operand) (K:St->Prop):Prop :=
 ∃ f x0 rest r sv axs vals,sOp.fnOf (evS σ fn)=some (f,[])/\args=x0::rest/\lendOf σ (evS σ x0)=some (r,none,sv)/\toArgs σ (rest.map (evS σ))=some axs/\sOp.noPtr axs=true /\
  r∉(rest.map (evS σ)).flatMap rootOf/\MeetsB P f sv axs vals .u /\
  ∃ b:Bool,(!b||vals.all simpleR)=true/\K (putO o.dst (resSV vals) (gone (if b then σ else frzAll ((rest.map (evS σ)).flatMap rootOf) σ) r))
def pvOp (P:Program) (o:Oper) (σ:St) (K:St->Prop):Prop :=
 match o.op with
 | .assign x=>match o.dst with | some d=>asgK P σ o d x K | none=>False
 | .store t a x=>stK P σ o t (evS σ a) (evS σ x) K\/∃ e,nilSl P t x=some e/\stKc P σ o t (evS σ a) [.sl (some e) []] none K
 | .box t x=>∃ g n cs mv,tyC P t=some (g,n)/\mvCells σ (evS σ x)=some (cs,mv)/\cs.length=n/\nb cs=true/\K (putO o.dst (.box cs) (goneO σ mv))
 | .call { callee:=.builtin .append,args:=args,argTypes:=ts }=>(∃ s x t,args.toList=[s,x]/\ts.toList=[t,t]/\apK P σ o t (apSrc σ s) (evS σ x) K)\/∃ s x t t' b,args.toList=[s,x]/\ts.toList=[t,t']/\P.underlying t'=some .string/\evS σ x=.p (.string b)/\apsK P σ o t (apSrc σ s) b K
 | .call { callee:=.value fn,args:=args,argTypes:=_ }=>callK P σ o fn args.toList K\/lendK P σ o fn args.toList K\/eatK P σ o fn args.toList K
 | .move (.tmp t)=>(match σ t with
  | .tup _=>∃ d,o.dst=some d/\t≠d/\K (trans σ t d)
  | _=>sOp P (evS σ) σ o (fun x=>K (putO o.dst x σ)))
 | .extract (.tmp t) k=>∃ l y,σ t=.tup l/\l[k]?=some y/\(match y with
  | .ov g cs=>K (putO o.dst (.ov g cs) (upd σ t (.tup (l.set k .u))))
  | y=>isDR y=true/\K (putO o.dst y σ))
 | .build t parts=>sOp P (evS σ) σ o (fun x=>K (putO o.dst x σ))\/(∃ cs0 cs,parts=#[]/\sOp.buildC P (evS σ) t []=some cs0/\zeroC P t=some cs/\K (putO o.dst (.ov true cs) σ)) \/
   ∃ x cs r,parts.toList=[(0,x)]/\oneF P t=some cs.length/\mvCells σ (evS σ x)=some (cs,some r)/\K (putO o.dst (.ov true cs) (gone σ r))
 | .slice t x lo hi c=>sOp P (evS σ) σ o (fun x=>K (putO o.dst x σ)) \/
   ∃ (e:TypeId) (sz r:Nat) (rows:List (List C)) (y:Operand) (k:IntKind) (m:Nat),lo=none/\c=none/\hi=some y/\slE P t=some (e,sz)/\evS σ x=.ref r [(0,0)] none/\σ r=.ov false [.sl (some e) rows]/\evS σ y=.p (.int k (m:Int))/\m<=rows.length/\K (putO o.dst (.ov false [.sl (some e) (rows.take m)]) (gone σ r))
 | .buildSlice t n parts=>sOp P (evS σ) σ o (fun x=>K (putO o.dst x σ)) \/
   ∃ e sz x cs r,slE P t=some (e,sz)/\apE P e=true/\parts.toList=[(0,x)]/\n=1/\mvCells σ (evS σ x)=some (cs,some r)/\cs.length=sz/\0<sz/\sz<=16/\K (putO o.dst (.ov false [.sl (some e) [cs]]) (gone σ r))
 | _=>sOp P (evS σ) σ o (fun x=>K (putO o.dst x σ))
def gOp (ops:Array Oper) (o:Oper) (σ:St) (run:Prop) (skip:Prop):Prop :=
 match o.guard with
 | none=>run
 | some (j,want)=>∃ d,(ops[j]?).bind (·.dst)=some d/\(match σ d with
  | .p (.bool b)=>if b=want then run else skip
  | .p (.tuple vs)=>vs.size=0/\skip
  | _=>False)
def killTk (r:Nat) (q0:Path):SV->SV
 | .ref r' q n=>if r'=r then(if q=[(0,0)] then .ref r' q n else .u) else .ref r' q n
 | .addr r' q=>if r'=r then(if q0.isPrefixOf q.dropLast=true then .u else .addr r' q) else .addr r' q
 | x=>x
def tkSt (σ:St) (t r:Nat) (q:Path) (c:C):St:=put (fun s=>if s=r then setCs (σ r) q [.dead] else killTk r q (σ s)) t (.ov false [c])
def tkOk (σ:St) (t r:Nat) (q:Path):Bool:=r != t&&(isOwnR (σ r)&&(isBox (σ r)||decide (2<=q.length)))
def pvOpF (P:Program) (o:Oper) (σ:St) (K:St->Prop):Prop:=pvOp P o σ K\/(∃ r,pvOp P o (frz r σ) K)\/∃ t r q c cs,σ t=.ref r q none/\tkOk σ t r q=true/\getRow (rows1 (σ r)) q=some (c::cs)/\pvOp P o (tkSt σ t r q c) K
def pvL (P:Program) (ops:Array Oper):List Oper->St->(St->Prop)->Prop
 | [],σ,K=>K σ
 | o::l,σ,K=>gOp ops o σ (pvOpF P o σ fun σ'=>pvL P ops l σ' K) (pvL P ops l (putO o.dst (.p (.tuple #[])) σ) K)
def stOf (o:Oper):Option Nat:=match o.op with
 | .store _ (.tmp d) _=>some d
 | _=>none
def isTm (r:Nat):Operand->Bool
 | .tmp t=>t==r
 | _=>false
def rtL (rt:Nat->SV) (o:Oper) (σ:St):Nat->SV:=fun r=>match rt r with
 | .tup _=>.u
 | x=>if o.op.operands.any (isTm r)=true then σ r else x
def isOvS:SV->Bool
 | .ov ..=>true
 | _=>false
def okW (rt:Nat->SV) (d:Nat) (x:SV):Bool:=match rt d with
 | .tup []=>isBox x
 | .tup _=>isOvS x
 | _=>true
def frzAt:SV->SV
 | .tup l=>.tup (l.map frzSV)
 | x=>frzSV x
def dStore (P:Program) (rt:Nat->SV) (o:Oper) (σ:St) (d:Nat) (y:SV):Prop :=
 o.guard=none/\o.dst=none/\rt d=.tup []/\∃ t x g n old v,o.op=.store t (.tmp d) x/\tyC P t=some (g,n)/\0<n/\σ d=.box old/\old.length=n/\(raws old).isSome=true /\
  evS σ x=.p v/\v.cells.toList.all scal=true/\v.cells.size=n/\y=.box (cellsV v)
def dLend (P:Program) (rt:Nat->SV) (o:Oper) (σ:St) (r:Nat) (d:Option (Nat×SV)) (y:SV):Prop :=
 rt r=.tup []/\∃ fn args ts f x0 rest axs vals cs cs',o.op=.call { callee:=.value fn,args:=args,argTypes:=ts }/\args.toList=x0::rest/\sOp.fnOf (evS σ fn)=some (f,[])/\evS σ x0=.addr r [(0,0)]/\σ r=.box cs /\
  toArgs (rtL rt o σ) (rest.map (evS σ))=some axs/\sOp.noPtr axs=true/\(wnR cs'=true\/(rest.map (evS σ)).flatMap rootOf=[])/\MeetsB P f (.box cs) axs vals (.box cs')/\vals.all simpleR=true/\y=.box cs' /\
  (match o.dst with
  | some d'=>isRoot (σ d')=false/\d'≠r/\okW rt d' (resSV vals)=true/\d=some (d',resSV vals)
  | none=>d=none)
def dEat (P:Program) (rt:Nat->SV) (o:Oper) (σ:St) (r d:Nat) (x:SV):Prop :=
 rt r=.tup [.u]/\o.guard=none/\o.dst=some d/\d≠r/\isRoot (σ d)=false/\okW rt d x=true /\
 ((o.op=.move (.tmp r)/\(∃ g cs,σ r=.ov g cs)/\x=σ r) \/
  ∃ args ts y t e sz rows rows2,o.op=.call { callee:=.builtin .append,args:=args,argTypes:=ts }/\args.toList=[.tmp r,y]/\ts.toList=[t,t]/\slE P t=some (e,sz)/\apE P e=true /\
   σ r=.ov false [.sl (some e) rows]/\slOf (rtL rt o σ) (evS σ y)=some (none,rows2)/\(∀ row∈rows2,row.length=sz)/\rows.length+rows2.length<=1099511627776/\x=.ov false [.sl (some e) (rows++rows2)])
def putW (σ:St):Option (Nat×SV)->St
 | some (d,x)=>upd σ d x
 | none=>σ
def dOp (P:Program) (rt:Nat->SV) (e:Option Nat) (o:Oper) (σ:St) (K:St->Prop):Prop:=match e with
 | none=>∃ d,o.dst=some d/\stOf o=none/\isRoot (σ d)=false/\(match o.op with
  | .assign x=>isDR (evS σ x)=true/\okW rt d (evS σ x)=true/\K (upd σ d (evS σ x))
  | _=>sOp P (evS σ) (rtL rt o σ) o (fun x=>∃ y,(y=x\/y=frzAt x)/\okW rt d y=true/\K (upd σ d y)))
 | some r=>(∃ y,dStore P rt o σ r y/\K (upd σ r y))\/(∃ d y,dLend P rt o σ r d y/\K (upd (putW σ d) r y))\/∃ d x,dEat P rt o σ r d x/\K (upd (upd σ r .u) d x)
def pvD (P:Program) (ops:Array Oper) (rt:Nat->SV) (T:List (Nat×Nat)):Nat->List Oper->St->(St->Prop)->Prop
 | _,[],σ,K=>K σ
 | k,o::l,σ,K=>gOp ops o σ (dOp P rt (T.lookup k) o σ fun σ'=>pvD P ops rt T (k+1) l σ' K)
   (∃ d,o.dst=some d/\stOf o=none/\isRoot (σ d)=false/\okW rt d (.p (.tuple #[]))=true/\pvD P ops rt T (k+1) l (upd σ d (.p (.tuple #[]))) K)
def waitsOn (o:Oper) (k:Nat):Bool:=o.after.any fun e=>Region.binds .any e&&e.on==k
def maskOf (ms:List Nat) (o:Oper):Nat:=o.after.toList.foldl (fun s e=>if Region.binds .any e then s ||| (2 ^ e.on ||| ms.getD e.on 0) else s) 0
def masks:List Oper->List Nat->List Nat
 | [],ms=>ms
 | o::l,ms=>masks l (ms++[maskOf ms o])
def wrC (S:List Nat) (d:Nat):List Nat:=if S.contains d=true then[2*d,2*d+1] else[2*d]
def eatT (T:List (Nat×Nat)) (r:Nat):Bool:=T.any fun x=>decide (4096<=x.1)&&x.2==r
def wrs (T:List (Nat×Nat)) (k:Nat) (o:Oper):List Nat:=(match o.dst with | some d=>wrC (T.map (·.2)) d | none=>[])++(match T.lookup k with | some r=>if eatT T r=true then[2*r,2*r+1] else[2*r+1] | none=>[])
def lks (ops:Array Oper) (T:List (Nat×Nat)) (k:Nat) (o:Oper):List Nat:=(o.looksAt ops).map (2*·)++(match T.lookup k with | some r=>[2*r,2*r+1] | none=>[])
def apartE (ops:Array Oper) (T:List (Nat×Nat)) (k:Nat) (x:Oper) (j:Nat) (y:Oper):Bool :=
 ((wrs T k x).all fun c=> !(lks ops T j y).contains c && !(wrs T j y).contains c)&&(wrs T j y).all fun c=> !(lks ops T k x).contains c
def noE (ops:Array Oper) (n:Nat) (T:List (Nat×Nat)):Bool:=(List.range n).all fun k=>match ops[k]? with
 | some o=>o.op.operands.all fun x=>match x with
  | .tmp t=> !eatT T t||T.lookup k==some t
  | _=>true
 | none=>true
def lst (m n:Nat):Array Bool:=((List.range n).map fun j=>decide (j<m)).toArray
def plainO (o:Oper):Bool:=o.guard.isNone&&(match o.op with
 | .move (.tmp _) | .assign (.tmp _) | .extract (.tmp _) _=>true
 | _=>false)
def freeO (ops:Array Oper) (k:Nat) (o:Oper):Bool:=plainO o&&(Region.noSelect ops&&Region.free .any ops (lst k ops.size) k)
def drawB (ops:Array Oper) (n:Nat) (T:List (Nat×Nat)):Bool :=
 (decide (n<=ops.size)&&noE ops n T)&&(List.range ops.size).all fun j=>match ops[j]? with
  | some oj=>oj.after.all (fun e=> !Region.binds .any e||decide (e.on<j))&&(List.range j).all fun k=>match ops[k]? with
   | some ok=>waitsOn oj k||((decide (j<n)&&apartE ops T k ok j oj)||(((masks ops.toList []).getD j 0).testBit k||(decide (n<=k)&&freeO ops k ok)))
   | _=>false
  | none=>false
def rtOf (T:List (Nat×Nat)) (σ:St):Nat->SV:=fun r=>if(T.map (·.2)).contains r=true then(if eatT T r=true then .tup [.u] else .tup []) else if isRoot (σ r)=true then σ r else .u
def hid (T:List (Nat×Nat)) (σ:St):Prop:=∀ r∈T.map (·.2),if eatT T r=true then(isRoot (σ r)=true->isOvS (σ r)=true)/\∀ s,killSV r (σ s)=σ s else(isRoot (σ r)=true->isBox (σ r)=true)/\∀ s,killLn r (σ s)=σ s
inductive Ex where
 | normal
 | exit (id:Nat)
 | ret
end Go.PV

/-
 A walk over pure values: the relation between a state and the model's;code.
 Conditions: none.
-/
namespace Go.PV
def RelS (P:Program) (Z:Nat->Prop) (L:Lab) (w:World) (tm:Nat->Value) (σ:St) (s:Nat) (tv:Value):SV->Prop
 | .u=>True
 | .p v=>tv=v
 | .d g cs=>FrzV Z w g tv cs
 | .ov g cs=>RepV P Z L w s 0 g tv cs
 | .box cs=>∃ b,tv=.pointer (some ⟨b,0,none⟩)/\BoxAt P Z L w s b cs
 | .ref r q n=>isRoot (σ r)=true/\((isBox (σ r)=false/\q=[(0,0)]/\(match n with | none=>tv=(tm r).cells.getD 0 undef | some k=>tv=tm r/\VShape true tv k)) \/
   ∃ (q0:Path) (i o b:Nat) (arr:Array Value) (e:TypeId),q=q0++[(i,o)]/\(q0=[]->isBox (σ r)=true)/\L b=some (r,q0)/\w.heap[b]?=some (.cells arr e (0,0)) /\
    (match n with | none=>arr[i*esz P e+o]?=some tv/\scal tv=false | some k=>tv=.agg (arr.extract (i*esz P e+o) (i*esz P e+o+k))))
 | .addr r q=>isRoot (σ r)=true/\∃ (q0:Path) (i o b:Nat) (arr:Array Value) (e:TypeId),q=q0++[(i,o)]/\(q0=[]->isBox (σ r)=true)/\L b=some (r,q0)/\w.heap[b]?=some (.cells arr e (0,0))/\tv=.pointer (some ⟨b,i*esz P e+o,none⟩)
 | .fadr cs=>∃ b off,Z b/\tv=.pointer (some ⟨b,off,none⟩)/\∀ (j:Nat) (c:C),cs[j]?=some c->∃ v,w.cell? ⟨b,off+j,none⟩=some v/\Frz Z w v c
 | .tup l=>∃ arr:Array Value,tv=.tuple arr/\arr.size=l.length/\∀ (j:Nat) (y:SV),l[j]?=some y->(match y with
  | .p v=>arr.getD j undef=v
  | .d g cs=>FrzV Z w g (arr.getD j undef) cs
  | .ov g cs=>RepV P Z L w s j g (arr.getD j undef) cs
  | _=>True)
def Zof (w0:World) (A:Nat->Prop) (L:Lab) (w:World):Nat->Prop:=fun b=>L b=none/\b<w.heap.size/\(A b\/w0.heap.size<=b)
structure Rel (P:Program) (N M:Nat) (w0:World) (A:Nat->Prop) (I:Bor) (σ:St) (a:Act) (w:World) (L:Lab):Prop where
 dfr:a.defers=[]
 siz:a.tmps.size=N
 ev:Ev I w0 w
 inj:∀ b b' l,L b=some l->L b'=some l->b=b'
 lab:∀ b l,L b=some l->b<w.heap.size/\(w0.heap.size<=b\/b∈I)/\l.1<M
 out:∀ s,N<=s->σ s=.u
 hA:((∀ b,A b->b<w0.heap.size)/\Tabs P (fun b=>A b/\b∉I) w0)/\∀ b,b∈I->A b
 pin:∀ s v,I.pins[s]?=some v->a.tmps.getD s undef=v
 slot:∀ s,RelS P (Zof w0 A L w) L w (fun s=>a.tmps.getD s undef) σ s (a.tmps.getD s undef) (σ s)
theorem ytw {P:Program} {N M:Nat} {w0:World} {A:Nat->Prop} {I:Bor} {σ:St} {a:Act} {w:World} {L:Lab} (hR:Rel P N M w0 A I σ a w L):Tabs P (Zof w0 A L w) w:=hR.hA.1.2.mono fun b hb=>by
 have h1:=hR.hA.1.1 b hb.1
 have hL:L b=none:=by
  cases hl:L b with
  | none=>rfl
  | some l =>
   rcases(hR.lab b l hl).2.1 with h | h
   ·omega
   exact absurd h hb.2
 exact⟨⟨hL,Nat.lt_of_lt_of_le h1 hR.ev.size,.inl hb.1⟩,hR.ev.block b h1 hb.2⟩
def opsB (k N:Nat) (ops:List Oper):Bool:=ops.all fun o=>match o.dst with | some d=>decide (k<=d)&&decide (d<N) | none=>true
def codeB (k N:Nat):Code->Bool
 | .region _ ops _=>opsB k N ops.toList
 | .seq a b=>codeB k N a&&codeB k N b
 | .cond _ a b=>codeB k N a&&codeB k N b
 | .block _ c=>codeB k N c
 | .loop c=>codeB k N c
 | _=>true
def lift (P:Program) (N:Nat) (w0:World) (A:Nat->Prop) (I:Bor) (Q:Ex->St->Prop):Exit->Act->World->Prop
 | .normal,a,w=>∃ σ L,Rel P N N w0 A I σ a w L/\Q .normal σ
 | .exit id,a,w=>∃ σ L,Rel P N N w0 A I σ a w L/\Q (.exit id) σ
 | .ret,a,w=>∃ σ L,Rel P N N w0 A I σ a w L/\Q .ret σ
 | _,_,_=>False
def Ok (P:Program) (N:Nat) (c:Code) (σ:St) (Q:Ex->St->Prop):Prop :=
 ∀ k,codeB k N c=true->∀ w0 A I a w L,I.pins.length=k->Rel P N N w0 A I σ a w L->c.wp P (lift P N w0 A I Q) a w
def blockQ (id:Nat) (Q:Ex->St->Prop):Ex->St->Prop:=fun e σ'=>match e with
 | .exit i=>if i=id then Q .normal σ' else Q (.exit i) σ'
 | e=>Q e σ'
def seqQ (K:St->Prop) (Q:Ex->St->Prop):Ex->St->Prop:=fun e σ'=>match e with
 | .normal=>K σ'
 | e=>Q e σ'
def pvC (P:Program) (N:Nat):Code->St->(Ex->St->Prop)->Prop
 | .skip,σ,Q=>Q .normal σ
 | .region _ ops false,σ,Q=>pvL P ops ops.toList σ (Q .normal)
 | .region _ ops true,σ,Q=>P.follows .mixedOrders=true/\∃ n T,drawB ops n T=true/\hid T σ /\
   pvD P ops (rtOf T σ) T 0 (ops.toList.take n) σ (fun σ'=>pvL P ops (ops.toList.drop n) σ' (Q .normal))
 | .seq a b,σ,Q=>pvC P N a σ (seqQ (fun σ'=>pvC P N b σ' Q) Q)
 | .cond c a b,σ,Q=>∃ t,evS σ c=.p (.bool t)/\(if t then pvC P N a σ Q else pvC P N b σ Q)
 | .block id c,σ,Q=>pvC P N c σ (blockQ id Q)
 | .loop c,σ,Q=>Ok P N (.loop c) σ Q
 | .exit id,σ,Q=>Q (.exit id) σ
 | .ret,σ,Q=>Q .ret σ
 | _,_,_=>False
def refOk (keys:List Nat):SV->Bool
 | .ref r _ _ | .addr r _=>keys.contains r
 | _=>true
def agree (l:List (Nat×SV)) (σ:St):Prop:=l.all (fun x=>refOk (l.map (·.1)) x.2)=true/\∀ x∈l,σ x.1=x.2
def retV (P:Program) (σ:St):ResultVar->Option (RV×Nat)
 | .tmp t=>match σ t with
  | .p v=>some (.p v,t)
  | .d g cs=>some (.d g cs,t)
  | .ov g cs=>some (.ov g cs,t)
  | .ref r [(0,0)] n=>(match σ r with
   | .ov g cs=>if n=(if g then some cs.length else none) then some (.ov g cs,r) else none
   | _=>none)
  | _=>none
 | .cell t ty=>match σ t,tyC P ty with
  | .box cs,some (g,n)=>if cs.length=n/\(g=false->n=1) then(match raws cs with
   | some vs=>some (.p (mkV g vs),t)
   | none=>some (.ov g cs,t)) else none
  | _,_=>none
def retVs (P:Program) (σ:St):List ResultVar->Option (List (RV×Nat))
 | []=>some []
 | r::l=>match retV P σ r,retVs P σ l with
  | some x,some xs=>some (x::xs)
  | _,_=>none
def isOvR:RV->Bool
 | .ov ..=>true
 | _=>false
def ovOk:List (RV×Nat)->Bool
 | []=>true
 | (r,s)::l=>(!isOvR r||l.all fun y=> !isOvR y.1||y.2 != s)&&ovOk l
def outsOf (σ:St):List (Nat×Arg)->Option (List (List C))
 | []=>some []
 | (k,.ptr _)::l=>match σ k,outsOf σ l with
  | .box cs,some r=>some (cs::r)
  | _,_=>none
 | _::l=>outsOf σ l
def argSV:Arg->SV
 | .v v=>.p v
 | .d g cs=>.d g cs
 | .ptr cs=>.box cs
def st0 (args:List Arg):St:=ofL ((List.range args.length).zip (args.map argSV))
def endQ (P:Program) (fn:Func) (args:List Arg) (res:Res):Ex->St->Prop
 | .exit _,_=>False
 | _,σ=>(∃ l,retVs P σ fn.results.toList=some l/\ovOk l=true/\l.map (·.1)=res.vals)/\outsOf σ ((List.range args.length).zip args)=some res.outs
end Go.PV

/-
 A walk over pure values: what keeps the relation.
 Conditions: none.
-/
namespace Go.PV
variable {P:Program} {N:Nat} {w0:World} {A:Nat->Prop} {I:Bor}
def refOf:SV->Option Nat
 | .ref r _ _ | .addr r _=>some r
 | _=>none
structure KeepAt (L:Lab) (w:World) (tm:Nat->Value) (σ:St) (L':Lab) (w':World) (tm':Nat->Value) (σ':St) (r:Nat):Prop where
 lab:∀ b q,L b=some (r,q)->L' b=some (r,q)/\w'.heap[b]?=w.heap[b]?
 tm:tm' r=tm r
 root:isRoot (σ' r)=true
 box:isBox (σ' r)=isBox (σ r)
theorem RepV.keep {Z Z':Nat->Prop} {L L':Lab} {w w':World} {s s' i i':Nat} {g:Bool} {v:Value} {cs:List C} (h:RepV P Z L w s i g v cs)
  (hz:∀ b,Z b->Z' b/\w'.heap[b]?=w.heap[b]?) (hl:∀ b j q,L b=some (s,(i,j)::q)->L' b=some (s',(i',j)::q)/\w'.heap[b]?=w.heap[b]?):RepV P Z' L' w' s' i' g v cs :=
 ⟨h.1,fun j c hj=>(h.2 j c hj).move [(i',j)] hz fun b q hb=>by simpa using hl b j q (by simpa using hb)⟩
theorem BoxAt.keep {Z Z':Nat->Prop} {L L':Lab} {w w':World} {s s' b:Nat} {cs:List C} (h:BoxAt P Z L w s b cs)
  (hz:∀ b,Z b->Z' b/\w'.heap[b]?=w.heap[b]?) (hl:∀ b q,L b=some (s,q)->L' b=some (s',q)/\w'.heap[b]?=w.heap[b]?):BoxAt P Z' L' w' s' b cs:=by
 obtain⟨h1,arr,e,h2,h3,h4⟩:=h
 have h0:=hl b [] h1
 exact⟨h0.1,arr,e,h0.2.trans h2,h3,fun j c hj=>⟨(h4 j c hj).1.move [(0,j)] hz fun b q hb=>hl b _ hb,(h4 j c hj).2⟩⟩
theorem RelS.keep {Z Z':Nat->Prop} {L L':Lab} {w w':World} {tm tm':Nat->Value} {σ σ':St} {s s':Nat} {tv:Value} {sv:SV} (h:RelS P Z L w tm σ s tv sv)
  (hz:∀ b,Z b->Z' b/\w'.heap[b]?=w.heap[b]?) (hl:∀ b q,isLab sv=true->L b=some (s,q)->L' b=some (s',q)/\w'.heap[b]?=w.heap[b]?)
  (hr:∀ r,refOf sv=some r->isRoot (σ r)=true->KeepAt L w tm σ L' w' tm' σ' r):RelS P Z' L' w' tm' σ' s' tv sv:=by
 cases sv with
 | u=>trivial
 | p v=>exact h
 | d g cs=>exact FrzV.mono h hz
 | ov g cs=>exact RepV.keep h hz fun b j q hb=>hl b _ rfl hb
 | box cs =>
  obtain⟨b,h1,h2⟩:=h;exact⟨b,h1,h2.keep hz fun b q=>hl b q rfl⟩
 | ref r q n =>
  obtain⟨h1,h2⟩:=h;have k:=hr r rfl h1;refine⟨k.root,?_⟩
  rcases h2 with⟨a,b,c⟩ | ⟨q0,i,o,b,arr,e,h3,hbx,h4,h5,h6⟩
  ·left
   refine⟨by rw[k.box];exact a,b,?_⟩
   rw[k.tm];exact c
  right
  have k2:=k.lab b q0 h4;exact⟨q0,i,o,b,arr,e,h3,fun h=>by rw[k.box];exact hbx h,k2.1,k2.2.trans h5,h6⟩
 | addr r q =>
  obtain⟨h1,q0,i,o,b,arr,e,h3,hbx,h4,h5,h6⟩:=h;have k:=hr r rfl h1;have k2:=k.lab b q0 h4;exact⟨k.root,q0,i,o,b,arr,e,h3,fun h=>by rw[k.box];exact hbx h,k2.1,k2.2.trans h5,h6⟩
 | fadr cs =>
  obtain⟨b,off,h1,h2,h3⟩:=h;refine⟨b,off,(hz b h1).1,h2,fun j c hj=>?_⟩
  obtain⟨v,h4,h5⟩:=h3 j c hj;exact⟨v,(yxq (hz b h1).2 _).trans h4,h5.mono hz⟩
 | tup l =>
  obtain⟨arr,h1,h2,h3⟩:=h;refine⟨arr,h1,h2,fun j y hj=>?_⟩
  have h4:=h3 j y hj;cases y with
  | p v=>exact h4
  | d g cs=>exact FrzV.mono h4 hz
  | ov g cs=>exact RepV.keep h4 hz fun b j q hb=>hl b _ rfl hb
  | _=>trivial
theorem yie1 (r:Nat) (x:SV):isRoot (killSV r x)=isRoot x:=by
 cases x with
 | ref r' q n=>by_cases h:r'=r <;> simp[killSV,isRoot,h]
 | addr r' q=>by_cases h:r'=r <;> simp[killSV,isRoot,h]
 | _=>rfl
theorem yhg1 (r:Nat) (x:SV):isBox (killSV r x)=isBox x:=by
 cases x with
 | ref r' q n=>by_cases h:r'=r <;> simp[killSV,isBox,h]
 | addr r' q=>by_cases h:r'=r <;> simp[killSV,isBox,h]
 | _=>rfl
theorem yii {r:Nat} {x:SV} (h:isRoot x=true):killSV r x=x:=by
 cases x <;> simp_all [killSV,isRoot]
theorem ymm (r:Nat) (x:SV):(killSV r x=x/\refOf x≠some r)\/killSV r x=.u:=by
 cases x with
 | ref r' q n=>by_cases h:r'=r <;> simp[killSV,refOf,h]
 | addr r' q=>by_cases h:r'=r <;> simp[killSV,refOf,h]
 | _=>left;simp[killSV,refOf]
theorem ylk1 {x:SV} {r:Nat} (h:refOf x=some r):isRoot x=false:=by
 cases x <;> simp_all [refOf,isRoot]
structure Grow (N:Nat) (L:Lab) (w:World) (L1:Lab) (w':World):Prop where
 os:w'.os=w.os
 tape:w'.tape=w.tape
 output:w'.output=w.output
 size:w.heap.size<=w'.heap.size
 block:∀ b,b<w.heap.size->w'.heap[b]?=w.heap[b]?
 old:∀ b,b<w.heap.size->L1 b=L b
 new:∀ b,w.heap.size<=b->∀ l,L1 b=some l->l.1=N/\b<w'.heap.size
 inj:∀ b b' l,L1 b=some l->L1 b'=some l->b=b'
theorem Grow.refl {L:Lab} {w:World} (hi:∀ b b' l,L b=some l->L b'=some l->b=b') (hb:∀ b l,L b=some l->b<w.heap.size):Grow N L w L w :=
 ⟨rfl,rfl,rfl,Nat.le_refl _,fun _ _=>rfl,fun _ _=>rfl,fun b h l hl=>absurd (hb b l hl) (by omega),hi⟩
def relab (L:Lab) (x d:Nat):Lab:=fun b=>match L b with
 | some (s,q)=>if s=d then none else if s=x then some (d,q) else some (s,q)
 | none=>none
theorem ymz {L:Lab} {x d b:Nat} {l:Nat×Path} (h:relab L x d b=some l):∃ s q,L b=some (s,q)/\s≠d/\((s=x/\l=(d,q))\/(s≠x/\l=(s,q))):=by
 unfold relab at h
 split at h
 ·rename_i s q hb
  by_cases h1:s=d
  ·simp[h1] at h
  by_cases h2:s=x
  ·subst h2
   rw[if_neg h1,if_pos rfl] at h;exact⟨s,q,hb,h1,.inl ⟨rfl,(Option.some.inj h).symm⟩⟩
  simp[h1,h2] at h;exact⟨s,q,hb,h1,.inr ⟨h2,h.symm⟩⟩
 cases h
theorem yco1 {L:Lab} {x d:Nat} (hi:∀ b b' l,L b=some l->L b'=some l->b=b'):∀ b b' l,relab L x d b=some l->relab L x d b'=some l->b=b':=by
 intro b b' l h1 h2
 obtain⟨s1,q1,e1,n1,c1⟩:=ymz h1
 obtain⟨s2,q2,e2,n2,c2⟩:=ymz h2
 rcases c1 with⟨rfl,rfl⟩ | ⟨m1,rfl⟩ <;> rcases c2 with⟨rfl,c2⟩ | ⟨m2,c2⟩
 ·simp at c2;subst c2;exact hi _ _ _ e1 e2
 ·simp at c2;exact absurd c2.1 (Ne.symm n2)
 ·simp at c2;exact absurd c2.1 n1
 simp at c2;obtain⟨rfl,rfl⟩:=c2;exact hi _ _ _ e1 e2
theorem yje1 (a:Act) {d:Nat} (v:Value) (hd:d<a.tmps.size) (s:Nat):(a.put (some d) v).tmps.getD s undef=if s=d then v else a.tmps.getD s undef:=by
 simp only[Act.put,Array.getD_eq_getD_getElem?,Array.getElem?_setIfInBounds]
 by_cases h:d=s
 ·subst h;simp[hd]
 simp[h,Ne.symm h]
theorem Rel.grow {σ:St} {a:Act} {w w':World} {L L1:Lab} (hR:Rel P N N w0 A I σ a w L) (hG:Grow N L w L1 w'):Rel P N (N+1) w0 A I σ a w' L1:=by
 have hsz:w0.heap.size<=w.heap.size:=hR.ev.size
 have hb:∀ b l,L b=some l->b<w.heap.size:=fun b l h=>(hR.lab b l h).1
 have hz:∀ b,Zof w0 A L w b->Zof w0 A L1 w' b/\w'.heap[b]?=w.heap[b]?:=fun b ⟨h1,h2,h3⟩ =>
  ⟨⟨(hG.old b h2).trans h1,by have:=hG.size;omega,h3⟩,hG.block b h2⟩
 have hlab:∀ s b q,L b=some (s,q)->L1 b=some (s,q)/\w'.heap[b]?=w.heap[b]?:=fun s b q hbq =>
  ⟨by rw[hG.old b (hb b _ hbq),hbq],hG.block b (hb b _ hbq)⟩
 refine⟨hR.dfr,hR.siz,?_,hG.inj,?_,hR.out,hR.hA,hR.pin,?_⟩
 ·exact⟨hG.os.trans hR.ev.os,hG.tape.trans hR.ev.tape,hG.output.trans hR.ev.output,Nat.le_trans hsz hG.size,fun b h1 h2=>(hG.block b (by omega)).trans (hR.ev.block b h1 h2)⟩
 ·intro b l hl
  rcases Nat.lt_or_ge b w.heap.size with hlt | hge
  ·rw[hG.old b hlt] at hl
   have:=hR.lab b _ hl
   exact⟨by have:=hG.size;omega,this.2.1,by omega⟩
  have:=hG.new b hge _ hl
  exact⟨this.2,.inl (by omega),by omega⟩
 intro s
 exact(hR.slot s).keep hz (fun b q _=>hlab s b q) fun r _ hr=>⟨hlab r,rfl,hr,rfl⟩
theorem Rel.put0 {σ:St} {a:Act} {w:World} {L:Lab} {d:Nat} {tv:Value} {sv:SV} (hR:Rel P N (N+1) w0 A I σ a w L) (hp:I.pins.length<=d\/tv=a.tmps.getD d undef) (hd:d<N)
  (h:RelS P (Zof w0 A L w) L w (fun s=>a.tmps.getD s undef) σ N tv sv):Rel P N N w0 A I (put σ d sv) (a.put (some d) tv) w (relab L N d):=by
 have hda:d<a.tmps.size:=hR.siz▸hd
 have hz:∀ b,Zof w0 A L w b->Zof w0 A (relab L N d) w b/\w.heap[b]?=w.heap[b]?:=fun b h=>⟨⟨by simp[relab,h.1],h.2⟩,rfl⟩
 have hlab:∀ s,s≠d->s≠N->∀ b q,L b=some (s,q)->relab L N d b=some (s,q)/\w.heap[b]?=w.heap[b]?:=fun s h1 h2 b q hbq =>
  ⟨by simp[relab,hbq,h1,h2],rfl⟩
 have hdN:d≠N:=by omega
 have rootN:∀ r,isRoot (σ r)=true->r≠N:=fun r hr e=>by subst e;rw[hR.out r (Nat.le_refl _)] at hr;simp[isRoot] at hr
 have labN:∀ r,isLab (σ r)=true->r≠N:=fun r hr e=>by subst e;rw[hR.out r (Nat.le_refl _)] at hr;simp[isLab] at hr
 have keep:∀ r,r≠d->isRoot (σ r)=true->KeepAt L w (fun s=>a.tmps.getD s undef) σ (relab L N d) w (fun s=>(a.put (some d) tv).tmps.getD s undef) (Go.PV.put σ d sv) r:=by
  intro r hrd hr;have hput:Go.PV.put σ d sv r=σ r:=by
   unfold Go.PV.put;split
   ·simp[updK,hrd,yii hr]
   simp[upd,hrd]
  exact⟨hlab r hrd (rootN r hr),by simp only[yje1 a tv hda,if_neg hrd],by rw[hput];exact hr,by rw[hput]⟩
 refine⟨hR.dfr,by simp[Act.put,hR.siz],hR.ev,yco1 hR.inj,?_,?_,hR.hA,fun s v hs=>by
  have hlt:s<I.pins.length:=(List.getElem?_eq_some_iff.1 hs).1
  rw[yje1 a tv hda];split
  ·rename_i hsd
   subst hsd;rcases hp with hp | hp
   ·omega
   rw[hp];exact hR.pin s v hs
  exact hR.pin s v hs,?_⟩
 ·intro b l hl
  obtain⟨s,q,e,n,c⟩:=ymz hl;have:=hR.lab b _ e
  refine⟨this.1,?_⟩
  rcases c with⟨rfl,rfl⟩ | ⟨hne,rfl⟩
  ·exact⟨this.2.1,hd⟩
  have h3:=this.2.2;simp only at h3 ⊢
  exact⟨this.2.1,by omega⟩
 ·intro s hs
  have hsd:s≠d:=by omega
  unfold Go.PV.put;split
  ·simp[updK,hsd,hR.out s hs,killSV]
  simp[upd,hsd,hR.out s hs]
 intro s
 rw[yje1 a tv hda]
 by_cases hsd:s=d
 ·subst hsd
  rw[if_pos rfl];have hres:∀ sv',(sv'=sv/\(refOf sv=some s->isRoot (σ s)=false))\/sv'=.u->RelS P (Zof w0 A (relab L N s) w) (relab L N s) w (fun x=>(a.put (some s) tv).tmps.getD x undef) (Go.PV.put σ s sv) s tv sv':=by
   rintro sv' (⟨rfl,hne⟩ | rfl)
   ·refine h.keep hz (fun b q _ hbq=>⟨by simp[relab,hbq,Ne.symm hdN],rfl⟩) fun r hr hrt=>?_
    refine keep r ?_ hrt
    rintro rfl
    rw[hne hr] at hrt;cases hrt
   trivial
  apply hres
  unfold Go.PV.put;split
  ·rcases ymm s sv with⟨e,ne⟩ | e
   ·exact .inl ⟨by simp[updK,e],fun h=>absurd h ne⟩
   exact .inr (by simp[updK,e])
  rename_i hnr;exact .inl ⟨by simp[upd],fun _=>by simpa using hnr⟩
 rw[if_neg hsd]
 have h0:=hR.slot s
 have hres:∀ sv',(sv'=σ s/\(refOf (σ s)=some d->isRoot (σ d)=false))\/sv'=.u->RelS P (Zof w0 A (relab L N d) w) (relab L N d) w (fun x=>(a.put (some d) tv).tmps.getD x undef) (Go.PV.put σ d sv) s (a.tmps.getD s undef) sv':=by
  rintro sv' (⟨rfl,hne⟩ | rfl)
  ·refine h0.keep hz (fun b q hrt hbq=>hlab s hsd (labN s hrt) b q hbq) fun r hr hrt=>?_
   refine keep r ?_ hrt
   rintro rfl
   rw[hne hr] at hrt;cases hrt
  trivial
 apply hres
 unfold Go.PV.put
 split
 ·rcases ymm d (σ s) with⟨e,ne⟩ | e
  ·exact .inl ⟨by simp[updK,hsd,e],fun h=>absurd h ne⟩
  exact .inr (by simp[updK,hsd,e])
 rename_i hnr
 exact .inl ⟨by simp[upd,hsd],fun _=>by simpa using hnr⟩
theorem Rel.put {σ:St} {a:Act} {w:World} {L:Lab} {d:Nat} {tv:Value} {sv:SV} (hR:Rel P N (N+1) w0 A I σ a w L) (hdk:I.pins.length<=d/\d<N)
  (h:RelS P (Zof w0 A L w) L w (fun s=>a.tmps.getD s undef) σ N tv sv):Rel P N N w0 A I (put σ d sv) (a.put (some d) tv) w (relab L N d):=hR.put0 (.inl hdk.1) hdk.2 h
def mapL (L:Lab) (r:Nat) (f:Path->Option (Nat×Path)):Lab:=fun b=>match L b with
 | some (s,q)=>if s=r then f q else some (s,q)
 | none=>none
theorem yuu {L:Lab} {r b:Nat} {f:Path->Option (Nat×Path)} {l:Nat×Path} (h:mapL L r f b=some l):(∃ q,L b=some (r,q)/\f q=some l)\/(L b=some l/\l.1≠r):=by
 unfold mapL at h
 split at h
 ·rename_i s q hb
  by_cases h1:s=r
  ·subst h1;rw[if_pos rfl] at h;exact .inl ⟨q,hb,h⟩
  rw[if_neg h1] at h;obtain rfl:=Option.some.inj h;exact .inr ⟨hb,h1⟩
 cases h
theorem Rel.take {M M':Nat} {σ:St} {a:Act} {w:World} {L:Lab} {r:Nat} {f:Path->Option (Nat×Path)} (hR:Rel P N M w0 A I σ a w L) (hM:M<=M') (hf0:f []=none)
  (hf:∀ q l,f q=some l->l.1<M'/\(∀ b,L b≠some l\/l.1=r)/\∀ q',f q'=some l->q=q'):Rel P N M' w0 A I (gone σ r) a w (mapL L r f):=by
 have hz:∀ b,Zof w0 A L w b->Zof w0 A (mapL L r f) w b/\w.heap[b]?=w.heap[b]?:=fun b h=>⟨⟨by simp[mapL,h.1],h.2⟩,rfl⟩
 have hlab:∀ s,s≠r->∀ b q,L b=some (s,q)->mapL L r f b=some (s,q)/\w.heap[b]?=w.heap[b]?:=fun s h1 b q hbq=>⟨by simp[mapL,hbq,h1],rfl⟩
 refine⟨hR.dfr,hR.siz,hR.ev,?_,?_,?_,hR.hA,hR.pin,?_⟩
 ·intro b b' l h1 h2
  rcases yuu h1 with⟨q1,e1,f1⟩ | ⟨e1,n1⟩ <;> rcases yuu h2 with⟨q2,e2,f2⟩ | ⟨e2,n2⟩
  ·obtain rfl:=(hf q1 l f1).2.2 q2 f2
   exact hR.inj _ _ _ e1 e2
  ·rcases(hf q1 l f1).2.1 b' with h | h
   ·exact absurd e2 h
   exact absurd h n2
  ·rcases(hf q2 l f2).2.1 b with h | h
   ·exact absurd e1 h
   exact absurd h n1
  exact hR.inj _ _ _ e1 e2
 ·intro b l hl
  rcases yuu hl with⟨q1,e1,f1⟩ | ⟨e1,n1⟩
  ·have:=hR.lab b _ e1
   exact⟨this.1,this.2.1,(hf q1 l f1).1⟩
  have:=hR.lab b _ e1
  exact⟨this.1,this.2.1,by omega⟩
 ·intro s hs
  unfold gone;split
  ·rfl
  rw[hR.out s hs];rfl
 intro s
 unfold gone
 by_cases hsr:s=r
 ·rw[if_pos hsr];trivial
 rw[if_neg hsr]
 rcases ymm r (σ s) with⟨e,ne⟩ | e
 ·rw[e]
  refine(hR.slot s).keep hz (fun b q _=>hlab s hsr b q) fun x hx hrt=>?_
  have hxr:x≠r:=fun h=>ne (h▸hx)
  refine⟨hlab x hxr,rfl,?_,?_⟩
  ·simp only[if_neg hxr,yie1];exact hrt
  simp only[if_neg hxr,yhg1]
 rw[e];trivial
end Go.PV

/-
 A walk over pure values: the operations that only yield are sound.
 Conditions: none.
-/
namespace Go.PV
variable {P:Program} {N:Nat} {w0:World} {A:Nat->Prop} {I:Bor}
abbrev tmOf (a:Act):Nat->Value:=fun s=>a.tmps.getD s undef
theorem Rel.up {σ:St} {a:Act} {w:World} {L:Lab} (hR:Rel P N N w0 A I σ a w L):Rel P N (N+1) w0 A I σ a w L :=
 hR.grow (Grow.refl hR.inj fun b l h=>(hR.lab b l h).1)
theorem yot {o:Oper} {a:Act} {w w':World} {next:Act->World->Prop} {Q:Exit->Act->World->Prop} {v:Value}
  (h:(execOp a.eval o).run P w=.ok (.value v) w') (hn:next (a.put o.dst v) w'):o.wp P a w next Q:=by
 unfold Oper.wp
 rw[h]
 exact hn
theorem ycv1 {Z:Nat->Prop} {L:Lab} {w:World} {tm:Nat->Value} {σ:St} {s:Nat} {tv:Value} {cs:List C} (h:FrzV Z w false tv [.pt cs]):RelS P Z L w tm σ s tv (.fadr cs):=by
 have h1:=h.1
 simp only[VShape,Bool.false_eq_true,if_false] at h1
 have h2:=h.2 0 _ rfl
 rw[h1.1] at h2
 have h3:Frz Z w tv (.pt cs):=h2
 cases h3 with
 | pt vs hz hc hr=>exact⟨_,_,hz,rfl,fun j c hj=>⟨_,hc j c hj,hr j c hj⟩⟩
theorem yrq1 {Z:Nat->Prop} {L:Lab} {w:World} {tm:Nat->Value} {σ:St} {s:Nat} {tv:Value} {cs:List C} (h:RelS P Z L w tm σ s tv (.fadr cs)):FrzV Z w false tv [.pt cs]:=by
 obtain⟨b,off,hz,rfl,hc⟩:=h
 have hx:∃ vs:Nat->Value,∀ (j:Nat) (c:C),cs[j]?=some c->w.cell? ⟨b,off+j,none⟩=some (vs j)/\Frz Z w (vs j) c:=by
  refine⟨fun j=>(w.cell? ⟨b,off+j,none⟩).getD undef,fun j c hj=>?_⟩
  obtain⟨v,h1,h2⟩:=hc j c hj;simp only[h1,Option.getD_some];exact⟨trivial,h2⟩
 obtain⟨vs,hvs⟩:=hx
 refine⟨⟨rfl,rfl⟩,fun j c hj=>?_⟩
 cases j with
 | zero =>
  simp at hj
  subst hj;exact .pt vs hz (fun j c h=>(hvs j c h).1) (fun j c h=>(hvs j c h).2)
 | succ j=>simp at hj
theorem ysh {σ:St} {a:Act} {w:World} {L:Lab} (hR:Rel P N N w0 A I σ a w L) (s:Nat) (x:Operand) (hx:noTup (evS σ x)=true) :
  RelS P (Zof w0 A L w) L w (tmOf a) σ s (a.eval x) (evS σ x):=by
 cases x with
 | tmp t =>
  have h:=hR.slot t;simp only[evS,Act.eval] at hx ⊢;cases ht:σ t with
  | u=>simp only[];trivial
  | p v=>rw[ht] at h;exact h
  | d g cs =>
   rw[ht] at h;split
   ·rename_i heq;cases heq
   ·rename_i heq;cases heq
   ·rename_i cs' heq
    simp only[SV.d.injEq] at heq;obtain⟨rfl,rfl⟩:=heq;exact ycv1 h
   exact h
  | ov g cs =>
   rw[ht] at h;simp only[];refine⟨by rw[ht];rfl,.inl ⟨by rw[ht];rfl,rfl,?_⟩⟩
   cases g with
   | true=>exact⟨rfl,h.1⟩
   | false =>
    have h1:=h.1;simp only[VShape] at h1;simp only[Bool.false_eq_true,if_false] at h1 ⊢;show tmOf a t=(tmOf a t).cells.getD 0 undef
    have h2:(tmOf a t).cells=#[tmOf a t]:=h1.1
    rw[h2];rfl
  | box cs =>
   rw[ht] at h;obtain⟨b,h1,h2,arr,e,h3,h4,h5⟩:=h;refine⟨by rw[ht];rfl,[],0,0,b,arr,e,rfl,fun _=>by rw[ht];rfl,h2,h3,?_⟩
   simpa using h1
  | ref r q n=>rw[ht] at h;exact h
  | addr r q=>rw[ht] at h;exact h
  | fadr cs=>rw[ht] at h;exact h
  | tup l =>
   rw[ht] at hx h
   simp only[noTup] at hx;obtain⟨arr,e1,e2,e3⟩:=h;refine⟨arr,e1,e2,fun j y hj=>?_⟩
   have h4:=e3 j y hj;have h5:=List.all_eq_true.1 hx y (List.mem_of_getElem? hj)
   cases y <;> first | exact h4 | simp[isDR] at h5
 | const v =>
  simp only[evS,Act.eval];split
  ·refine⟨⟨rfl,rfl⟩,fun j c hj=>?_⟩
   cases j with
   | zero=>simp at hj;subst hj;exact Frz.nil
   | succ j=>simp at hj
  rfl
 | global g=>trivial
 | func f=>rfl
theorem yjk1 {σ:St} {a:Act} {w:World} {L:Lab} (hR:Rel P N N w0 A I σ a w L) {x:Operand} {v:Value} (hx:evS σ x=.p v):a.eval x=v:=by
 have:=ysh hR 0 x (by rw[hx];rfl)
 rw[hx] at this
 exact this
theorem ydv1 {σ:St} {x:Operand} {l:List SV} (hx:evS σ x=.tup l):∃ t,x=.tmp t/\σ t=.tup l:=by
 cases x with
 | tmp t =>
  simp only[evS] at hx;refine⟨t,rfl,?_⟩
  split at hx
  ·cases hx
  ·cases hx
  ·cases hx
  exact hx
 | const v=>simp only[evS] at hx;split at hx <;> cases hx
 | global g=>cases hx
 | func f=>cases hx
def Kids (P:Program) (Z:Nat->Prop) (L:Lab) (w:World) (r:Nat) (q0:Path) (rd:Nat->Nat->Value) (rows:List (List C)):Prop :=
 ∀ (i:Nat) (row:List C) (o:Nat) (c:C),rows[i]?=some row->row[o]?=some c->Rep P Z L w r (q0++[(i,o)]) (rd i o) c
structure NodeB (P:Program) (Z:Nat->Prop) (L:Lab) (w:World) (r:Nat) (q:Path) (b:Nat) (arr:Array Value) (e:TypeId) (rows:List (List C)):Prop where
 lab:L b=some (r,q)
 heap:w.heap[b]?=some (.cells arr e (0,0))
 kids:Kids P Z L w r q (fun i o=>arr.getD (i*esz P e+o) undef) rows
 inb:∀ (i:Nat) (row:List C) (o:Nat),rows[i]?=some row->o<row.length->i*esz P e+o<arr.size
 uni:(∀ row∈rows,row.length=esz P e)\/rows.length<=1
theorem Rep.node {Z:Nat->Prop} {L:Lab} {w:World} {r:Nat} {p:Path} {v:Value} {e:TypeId} {rows:List (List C)} (h:Rep P Z L w r p v (.sl (some e) rows)) :
  (v=.slice none 0 0/\rows=[])\/∃ b arr cap,v=.slice (some ⟨b,0,none⟩) rows.length cap/\rows.length<=cap/\cap<=maxLen/\arr.size=cap*esz P e/\(∀ row∈rows,row.length=esz P e)/\NodeB P Z L w r p b arr e rows:=by
 cases h with
 | frz h=>cases h
 | onil=>exact .inl ⟨rfl,rfl⟩
 | own hl hg hn hm ha hsz hr =>
  rename_i g cap arr;refine .inr ⟨g,arr,cap,rfl,hn,hm,ha,hsz,hl,hg,hr,?_,.inl hsz⟩
  intro i row o h1 h2;exact yzu1 h1 (List.getElem?_eq_getElem h2) hsz hn ha
theorem ybt {rows:List (List C)} {i o:Nat} {x:Nat×Nat} {q:Path} {cs:List C} (h:getRow rows ((i,o)::x::q)=some cs) :
  ∃ (row:List C) (e:TypeId) (rows':List (List C)),rows[i]?=some row/\row[o]?=some (.sl (some e) rows')/\getRow rows' (x::q)=some cs:=by
 simp only[getRow] at h
 cases hi:rows[i]? with
 | none=>simp[hi] at h
 | some row =>
  simp only[hi,Option.bind_some] at h;cases ho:row[o]? with
  | none=>simp[ho] at h
  | some c =>
   simp only[ho] at h;cases c with
   | sl t rows' =>
    cases t with
    | none=>simp at h
    | some e=>exact⟨row,e,rows',rfl,ho,h⟩
   | _=>simp at h
theorem yyi {rows:List (List C)} {i o:Nat} {cs:List C} (h:getRow rows [(i,o)]=some cs):∃ row,rows[i]?=some row/\cs=row.drop o:=by
 simp only[getRow] at h
 cases hi:rows[i]? with
 | none=>simp[hi] at h
 | some row=>simp[hi] at h;exact⟨row,rfl,h.symm⟩
theorem yfq {Z:Nat->Prop} {L:Lab} {w:World} {r:Nat} {cs:List C} {i o:Nat}:∀ (q:Path) (rows:List (List C)) (q0:Path) (rd:Nat->Nat->Value),
  Kids P Z L w r q0 rd rows->q≠[]->getRow rows (q++[(i,o)])=some cs ->
  ∃ b arr e rows' row,NodeB P Z L w r (q0++q) b arr e rows'/\rows'[i]?=some row/\cs=row.drop o
 | [],_,_,_,_,h,_=>absurd rfl h
 | [(i1,o1)],rows,q0,rd,hk,_,hg=>by
  obtain⟨row1,e,rows',h1,h2,h3⟩:=ybt (x:=(i,o)) (q:=[]) hg
  have hrep:=hk i1 row1 o1 _ h1 h2;obtain⟨row,h4,h5⟩:=yyi h3;rcases hrep.node with⟨_,rfl⟩ | ⟨b,arr,cap,_,_,_,_,_,hn⟩
  ·simp at h4
  exact⟨b,arr,e,rows',row,hn,h4,h5⟩
 | (i1,o1)::x::q,rows,q0,rd,hk,_,hg=>by
  obtain⟨row1,e,rows',h1,h2,h3⟩:=ybt (x:=x) (q:=q++[(i,o)]) hg
  have hrep:=hk i1 row1 o1 _ h1 h2;rcases hrep.node with⟨_,rfl⟩ | ⟨b,arr,cap,_,_,_,_,_,hn⟩
  ·cases q <;> (obtain⟨x1,x2⟩:=x;simp[getRow] at h3)
  have:=yfq (x::q) rows' (q0++[(i1,o1)]) _ hn.kids (by simp) (by simpa using h3)
  simpa using this
theorem yzy {σ:St} {a:Act} {w:World} {L:Lab} (hR:Rel P N N w0 A I σ a w L) {r:Nat} {cs0:List C} (h:rows1 (σ r)=[cs0]) :
  ∃ rd,Kids P (Zof w0 A L w) L w r [] rd [cs0]/\(isBox (σ r)=false->VShape (match σ r with | .d g _ | .ov g _=>g | _=>false) (tmOf a r) cs0.length/\∀ o,o<cs0.length->rd 0 o=(tmOf a r).cells.getD o undef) /\
   (isBox (σ r)=true->∃ b arr e,NodeB P (Zof w0 A L w) L w r [] b arr e [cs0]/\arr.size=cs0.length/\tmOf a r=.pointer (some ⟨b,0,none⟩)):=by
 have hs:=hR.slot r
 have one:∀ (i:Nat) (row:List C),([cs0]:List (List C))[i]?=some row->i=0/\row=cs0:=fun i row h=>by
  cases i with
  | zero=>simp at h;exact⟨rfl,h.symm⟩
  | succ i=>simp at h
 cases hr:σ r with
 | d g cs =>
  rw[hr] at hs h
  simp[rows1] at h
  subst h;refine⟨fun _ o=>(tmOf a r).cells.getD o undef,fun i row o c h1 h2=>?_,fun _=>⟨hs.1,fun _ _=>rfl⟩,fun h=>by simp[isBox] at h⟩
  obtain⟨rfl,rfl⟩:=one i row h1;exact .frz (hs.2 o c h2)
 | ov g cs =>
  rw[hr] at hs h
  simp[rows1] at h
  subst h;refine⟨fun _ o=>(tmOf a r).cells.getD o undef,fun i row o c h1 h2=>?_,fun _=>⟨hs.1,fun _ _=>rfl⟩,fun h=>by simp[isBox] at h⟩
  obtain⟨rfl,rfl⟩:=one i row h1;exact hs.2 o c h2
 | box cs =>
  rw[hr] at hs h
  simp[rows1] at h
  subst h;obtain⟨b,h1,h2,arr,e,h3,h4,h5⟩:=hs;refine⟨fun i o=>arr.getD (i*esz P e+o) undef,fun i row o c h6 h7=>?_,fun h=>by simp[isBox] at h,fun _=>⟨b,arr,e,⟨h2,h3,fun i row o c h6 h7=>?_,fun i row o h6 h7=>?_,.inr (by simp)⟩,h4,h1⟩⟩
  ·obtain⟨rfl,rfl⟩:=one i row h6
   simpa using(h5 o c h7).1
  ·obtain⟨rfl,rfl⟩:=one i row h6
   simpa using(h5 o c h7).1
  obtain⟨rfl,rfl⟩:=one i row h6;rw[h4];simpa using h7
 | _=>rw[hr] at h;simp[rows1] at h
theorem yct (x:SV):rows1 x=[]\/∃ cs,rows1 x=[cs]:=by
 cases x <;> simp[rows1]
theorem yke1 {σ:St} {a:Act} {w:World} {L:Lab} (hR:Rel P N N w0 A I σ a w L) {s r:Nat} {q:Path} {tv:Value} {cs:List C}
  (h:RelS P (Zof w0 A L w) L w (tmOf a) σ s tv (.addr r q)) (hg:getRow (rows1 (σ r)) q=some cs) :
  ∃ q0 i o b arr e rows row,q=q0++[(i,o)]/\NodeB P (Zof w0 A L w) L w r q0 b arr e rows/\rows[i]?=some row/\cs=row.drop o/\tv=.pointer (some ⟨b,i*esz P e+o,none⟩):=by
 obtain⟨_,q0,i,o,b,arr,e,rfl,hbxx,hl,hh,rfl⟩:=h
 rcases yct (σ r) with h0 | ⟨cs0,h0⟩
 ·rw[h0] at hg
  cases q0 with
  | nil=>simp[getRow] at hg
  | cons x q0=>cases q0 <;> (obtain⟨x1,x2⟩:=x;simp[getRow] at hg)
 obtain⟨rd,hk,hv,hbx⟩:=yzy hR h0
 rw[h0] at hg
 by_cases hq:q0=[]
 ·subst hq
  obtain⟨row,h1,h2⟩:=yyi hg;cases hb:isBox (σ r) with
  | true =>
   obtain⟨b',arr',e',hn,_,_⟩:=hbx hb;obtain rfl:=hR.inj _ _ _ hl hn.lab
   rw[hn.heap] at hh;simp at hh
   obtain⟨rfl,rfl⟩:=hh;exact⟨[],i,o,b,arr',e',_,row,rfl,hn,h1,h2,rfl⟩
  | false=>rw[hbxx rfl] at hb;cases hb
 obtain⟨b',arr',e',rows',row,hn,h1,h2⟩:=yfq q0 _ [] rd hk hq hg
 simp only[List.nil_append] at hn
 obtain rfl:=hR.inj _ _ _ hl hn.lab
 rw[hn.heap] at hh
 simp at hh
 obtain⟨rfl,rfl⟩:=hh
 exact⟨q0,i,o,b,arr',e',_,row,rfl,hn,h1,h2,rfl⟩
end Go.PV

/-
 A walk over pure values: loads,addresses,calls' arguments.
 Conditions: none.
-/
namespace Go.PV
variable {P:Program} {N:Nat} {w0:World} {A:Nat->Prop} {I:Bor}
theorem ync {v:Value} (h:v.oneCell'=true):v.cells=#[v]:=by
 cases v <;> simp_all [Value.oneCell',Value.cells]
def cellsAt (w:World) (b off n:Nat):List Value:=(List.range n).map fun j=>(w.cell? ⟨b,off+j,none⟩).getD undef
theorem ybm {w:World} {b off n j:Nat} {v:Value} (hj:j<n) (h:w.cell? ⟨b,off+j,none⟩=some v):(cellsAt w b off n)[j]?=some v:=by
 simp[cellsAt,hj,h]
theorem yoc (w:World) (b off n:Nat):(cellsAt w b off n).length=n:=by simp[cellsAt]
def isAggD:TypeDesc->Bool
 | .struct _ | .array _ _=>true
 | _=>false
theorem ymk1 {t:TypeId} {g:Bool} {n:Nat} (h:tyC P t=some (g,n)):∃ d i,P.underlying t=some d/\P.info? t=some i/\i.size=n/\isAggD d=g:=by
 unfold tyC at h
 cases hu:P.underlying t with
 | none=>simp[hu] at h
 | some d =>
  cases hi:P.info? t with
  | none=>rw[hu,hi] at h;cases d <;> simp at h
  | some i =>
   rw[hu,hi] at h;refine⟨d,i,rfl,rfl,?_⟩
   cases d <;> simp at h <;> obtain⟨rfl,rfl⟩:=h <;> exact⟨rfl,rfl⟩
theorem yvh1 {t:TypeId} {d:TypeDesc} (h:P.underlying t=some d) (w:World):(isAgg t).run P w=.ok (isAggD d) w:=by
 unfold isAgg
 rw[Sem.run_bind,run_underlying h w]
 cases d <;> rfl
theorem ydt {t:TypeId} {g:Bool} {n:Nat} (ht:tyC P t=some (g,n)) (hg:g=false->n=1) (w:World) (b off:Nat)
  (hc:∀ j,j<n->∃ v,w.cell? ⟨b,off+j,none⟩=some v):(loadVar t ⟨b,off,none⟩).run P w=.ok (mkV g (cellsAt w b off n)) w:=by
 obtain⟨d,i,hu,hi,hs,hd⟩:=ymk1 ht
 unfold loadVar
 rw[Sem.run_bind,yvh1 hu,hd]
 simp only[Result.andThen_ok]
 cases g with
 | true =>
  have:=run_loadCells_list (P:=P) w ⟨b,off,none⟩ (cellsAt w b off n) (fun j v hj=>by
   have hjn:j<n:=by
    have:=(List.getElem?_eq_some_iff.1 hj).1
    rwa [yoc] at this
   obtain⟨v',hv'⟩:=hc j hjn;rw[ybm hjn hv'] at hj;rw[Addr.add_lit,hv'];exact hj)
  rw[yoc] at this;simp[sizeOf,typeInfo,hi,hs,Sem.run_bind,this,mkV]
 | false =>
  obtain⟨v,hv⟩:=hc 0 (by rw[hg rfl];omega)
  simp only[Bool.false_eq_true,if_false,run_load];rw[Nat.add_zero] at hv;rw[hv,hg rfl];simp[mkV,cellsAt,hv]
theorem yaz {g:Bool} {vs:List Value} (h1:∀ v∈vs,v.oneCell'=true) (hg:g=false->vs.length=1):VShape g (mkV g vs) vs.length/\(mkV g vs).cells=vs.toArray:=by
 cases g with
 | true=>exact⟨⟨vs.toArray,rfl,by simp⟩,rfl⟩
 | false =>
  match vs,hg rfl with
  | [v],_ =>
   have:=ync (h1 v (by simp))
   exact⟨⟨this,rfl⟩,this⟩
theorem ynz {cs:List C} {vs:List Value} (h:raws cs=some vs):cs=vs.map .raw:=by
 induction cs generalizing vs with
 | nil=>simp[raws] at h;subst h;rfl
 | cons c r ih =>
  cases c with
  | raw v =>
   simp only[raws] at h;cases hr:raws r with
   | none=>simp[hr] at h
   | some vs'=>simp[hr] at h;subst h;simp[ih hr]
  | _=>simp[raws] at h
theorem Frz.raw_eq {Z:Nat->Prop} {w:World} {v v':Value} (h:Frz Z w v (.raw v')):v=v':=by cases h;rfl
theorem Rep.raw_eq {Z:Nat->Prop} {L:Lab} {w:World} {s:Nat} {p:Path} {v v':Value} (h:Rep P Z L w s p v (.raw v')):v=v':=by
 cases h with
 | frz h=>exact h.raw_eq
theorem Rep.to_frz {Z:Nat->Prop} {L:Lab} {w:World} {s:Nat} {p:Path} {v:Value} {c:C} (h:Rep P Z L w s p v c) (hc:frC c=true):Frz Z w v c:=by
 cases h with
 | frz h=>exact h
 | onil=>simp[frC] at hc
 | own=>simp[frC] at hc
theorem ynk1 {g:Bool} {vs:List Value} (h1:∀ v∈vs,v.oneCell'=true) (hg:g=false->vs.length=1) (j:Nat):(mkV g vs).cells.getD j undef=(vs[j]?).getD undef:=by
 rw[(yaz h1 hg).2];simp
theorem yps1 {Z:Nat->Prop} {L:Lab} {w:World} {tm:Nat->Value} {σ:St} {s:Nat} {g:Bool} {cs:List C} {vs:List Value} (hl:vs.length=cs.length) (hg:g=false->vs.length=1)
  (hf:∀ (j:Nat) (c:C),cs[j]?=some c->Frz Z w ((vs[j]?).getD undef) c):RelS P Z L w tm σ s (mkV g vs) (mkD g cs):=by
 have h1:∀ v∈vs,v.oneCell'=true:=by
  intro v hv;obtain⟨j,hj⟩:=List.mem_iff_getElem?.1 hv
  have hlt:j<cs.length:=hl▸(List.getElem?_eq_some_iff.1 hj).1
  have:=(hf j _ (List.getElem?_eq_getElem hlt)).oneCell
  rw[hj] at this;exact this
 unfold mkD
 cases hr:raws cs with
 | some vs' =>
  simp only[];show mkV g vs=mkV g vs'
  congr 1
  apply List.ext_getElem?
  intro j;have:=ynz hr
  subst this;simp only[List.length_map] at hl;cases hj:vs'[j]? with
  | none =>
   have:=List.getElem?_eq_none_iff.1 hj
   exact List.getElem?_eq_none (by omega)
  | some v =>
   have h2:=(hf j (.raw v) (by simp[hj])).raw_eq
   have hlt:j<vs.length:=by have:=(List.getElem?_eq_some_iff.1 hj).1;omega
   rw[List.getElem?_eq_getElem hlt] at h2 ⊢
   simp at h2
   rw[h2]
 | none =>
  refine⟨hl▸(yaz h1 hg).1,fun j c hj=>?_⟩
  rw[ynk1 h1 hg];exact hf j c hj
theorem NodeB.cell {Z:Nat->Prop} {L:Lab} {w:World} {r:Nat} {q:Path} {b:Nat} {arr:Array Value} {e:TypeId} {rows:List (List C)} (h:NodeB P Z L w r q b arr e rows)
  {i o:Nat} {row:List C} {c:C} (h1:rows[i]?=some row) (h2:row[o]?=some c) :
  w.cell? ⟨b,i*esz P e+o,none⟩=some (arr.getD (i*esz P e+o) undef)/\Rep P Z L w r (q++[(i,o)]) (arr.getD (i*esz P e+o) undef) c:=by
 have hlt:=h.inb i row o h1 (List.getElem?_eq_some_iff.1 h2).1
 refine⟨?_,h.kids i row o c h1 h2⟩
 simp[World.cell?,h.heap,hlt]
theorem yho {α:Type} {l:List α} {n j:Nat} {c:α} (h:(l.take n)[j]?=some c):j<n/\l[j]?=some c:=by
 rw[List.getElem?_take] at h
 split at h
 ·exact⟨by assumption,h⟩
 cases h
theorem yuw {α:Type} {l:List α} {o j:Nat} {c:α} (h:(l.drop o)[j]?=some c):l[o+j]?=some c:=by
 rwa [List.getElem?_drop] at h
theorem yev1 {σ:St} {a:Act} {w:World} {L:Lab} (hR:Rel P N N w0 A I σ a w L) {rt:Nat->SV} (hrt:∀ r,rt r=σ r\/rt r=.u) {t:TypeId} {x:Operand} {K:SV->Prop}
  (h:loadK P rt t (evS σ x) K):∃ v sv,(Instr.loadAt t (a.eval x)).run P w=.ok v w/\K sv/\∀ s,RelS P (Zof w0 A L w) L w (tmOf a) σ s v sv:=by
 obtain⟨g,n,ht,hg,h⟩:=h
 have hx:noTup (evS σ x)=true:=by cases hx:evS σ x <;> simp_all [noTup]
 have he:=ysh hR 0 x hx
 cases hx':evS σ x with
 | fadr cs =>
  rw[hx'] at he h
  obtain⟨b,off,hz,hv,hc⟩:=he;obtain⟨hn,hk⟩:=h;rw[hv];have hrun:=ydt ht hg w b off (fun j hj=>by
   obtain⟨v,h1,_⟩:=hc j _ (List.getElem?_eq_getElem (by omega:j<cs.length));exact⟨v,h1⟩)
  refine⟨_,_,by simpa [Instr.loadAt,Instr.sureAddr] using hrun,hk,fun s=>yps1 (by simp[yoc,hn]) (fun h=>by rw[yoc];exact hg h) fun j c hj=>?_⟩
  obtain⟨hjn,hj'⟩:=yho hj;obtain⟨v,h1,h2⟩:=hc j c hj'
  rw[ybm hjn h1];exact h2
 | addr r q =>
  rw[hx'] at he h
  obtain⟨cs,hrow,hn,hk⟩:=h;rcases hrt r with e | e
  ·rw[e] at hrow
   obtain⟨q0,i,o,b,arr,e',rows,row,rfl,hnode,h1,rfl,hv⟩:=yke1 hR he hrow;rw[hv];have hcell:∀ j,j<n->∀ c,(row.drop o)[j]?=some c->w.cell? ⟨b,i*esz P e'+o+j,none⟩=some (arr.getD (i*esz P e'+(o+j)) undef)/\Rep P (Zof w0 A L w) L w r (q0++[(i,o+j)]) (arr.getD (i*esz P e'+(o+j)) undef) c:=by
    intro j _ c hj;have:=hnode.cell h1 (yuw hj)
    rw[Nat.add_assoc];exact this
   have hex:∀ j,j<n->∃ c,(row.drop o)[j]?=some c:=fun j hj=>⟨_,List.getElem?_eq_getElem (by omega:j<(row.drop o).length)⟩
   have hrun:=ydt ht hg w b (i*esz P e'+o) (fun j hj=>by
    obtain⟨c,hc⟩:=hex j hj;exact⟨_,(hcell j hj c hc).1⟩)
   have hvs:∀ j c,((row.drop o).take n)[j]?=some c->(cellsAt w b (i*esz P e'+o) n)[j]?=some (arr.getD (i*esz P e'+(o+j)) undef)/\Rep P (Zof w0 A L w) L w r (q0++[(i,o+j)]) (arr.getD (i*esz P e'+(o+j)) undef) c:=by
    intro j c hj;obtain⟨hjn,hj'⟩:=yho hj;obtain⟨h2,h3⟩:=hcell j hjn c hj'
    exact⟨ybm hjn h2,h3⟩
   refine⟨_,_,by simpa [Instr.loadAt,Instr.sureAddr] using hrun,hk,fun s=>?_⟩
   have hfr:∀ cs',cs'=(row.drop o).take n->(∀ c∈cs',frC c=true)->RelS P (Zof w0 A L w) L w (tmOf a) σ s (mkV g (cellsAt w b (i*esz P e'+o) n)) (mkD g cs'):=by
    rintro cs' rfl hfr
    refine yps1 (by rw[yoc,List.length_take];omega) (fun h=>by rw[yoc];exact hg h) fun j c hj=>?_
    obtain⟨h2,h3⟩:=hvs j c hj;rw[h2];exact h3.to_frz (hfr c (List.mem_of_getElem? hj))
   cases hr:raws ((row.drop o).take n) with
   | some vs =>
    have:=hfr _ rfl (by rw[ynz hr];intro c hc;obtain⟨v,_,rfl⟩:=List.mem_map.1 hc;rfl)
    unfold mkD at this;rw[hr] at this;exact this
   | none =>
    simp only[];by_cases hf:frR ((row.drop o).take n)=true
    ·rw[if_pos hf]
     have hall:∀ l:List C,frR l=true->∀ c∈l,frC c=true:=by
      intro l;induction l with
      | nil=>simp
      | cons c l ih=>intro h c' hc';simp[frR] at h;rcases List.mem_cons.1 hc' with rfl | h';exact h.1;exact ih h.2 c' h'
     have:=hfr _ rfl (hall _ hf)
     unfold mkD at this;rw[hr] at this;exact this
    rw[if_neg hf];by_cases hnd:nd ((row.drop o).take n)=true
    case neg=>rw[if_neg hnd];trivial
    rw[if_pos hnd];obtain⟨hroot,q0',i',o',b',arr',e'',hq,hbx,hl,hh,hv2⟩:=he;obtain⟨rfl,hio⟩:=List.append_inj' hq rfl
    simp at hio
    obtain⟨rfl,rfl⟩:=hio;refine⟨hroot,.inr ⟨q0,i,o,b,arr,e',rfl,hbx,hnode.lab,hnode.heap,?_⟩⟩
    cases g with
    | true =>
     simp only[if_true];simp only[mkV,if_true];congr 1
     apply Array.ext'
     apply List.ext_getElem?
     intro j;have hin:∀ j,j<n->i*esz P e'+(o+j)<arr.size:=fun j hj=>by
      obtain⟨c,hc⟩:=hex j hj;exact hnode.inb i row (o+j) h1 (List.getElem?_eq_some_iff.1 (yuw hc)).1
     by_cases hj:j<n
     ·obtain⟨c,hc⟩:=hex j hj
      have h2:=(hcell j hj c hc).1
      have h3:=hin j hj;have hsz:i*esz P e'+o+n<=arr.size:=by have:=hin (n-1) (by omega);omega
      rw[ybm hj h2];rw[Array.toList_extract,List.getElem?_take,List.getElem?_drop,if_pos (by omega)];rw[Nat.add_assoc];simp[h3]
     rw[List.getElem?_eq_none (by rw[yoc];omega)]
     rw[List.getElem?_eq_none];rw[Array.toList_extract];simp
     omega
    | false =>
     have hn1:=hg rfl;subst hn1;obtain⟨c,hc⟩:=hex 0 (by omega)
     have h2:=(hcell 0 (by omega) c hc).1
     have h3:=hnode.inb i row o h1 (by have:=(List.getElem?_eq_some_iff.1 (yuw hc)).1;omega)
     simp only[Nat.add_zero] at h2;have h4:=(hcell 0 (by omega) c hc).2
     simp only[Nat.add_zero] at h4;have hsc:scal (arr.getD (i*esz P e'+o) undef)=false:=by
      have hc1:(row.drop o).take 1=[c]:=by
       cases hd:row.drop o with
       | nil=>rw[hd] at hc;simp at hc
       | cons x l=>rw[hd] at hc;simp at hc;subst hc;rfl
      rw[hc1] at hr hf hnd
      cases c with
      | raw v=>simp[raws] at hr
      | dead=>simp[nd] at hnd
      | bp t=>simp[nd] at hnd
      | fn f caps=>simp[frR,frC] at hf
      | er b=>simp[frR,frC] at hf
      | pt cs=>simp[frR,frC] at hf
      | sl ot rows' =>
       generalize arr.getD (i*esz P e'+o) undef=tv at h4
       cases h4 with
       | frz h =>
        cases h with
        | nil=>rfl
        | sl=>rfl
       | onil=>rfl
       | own=>rfl
     have e1:mkV false (cellsAt w b (i*esz P e'+o) 1)=arr.getD (i*esz P e'+o) undef:=by simp[mkV,cellsAt,h2]
     simp only[Bool.false_eq_true,if_false];rw[e1];refine⟨by simp[h3],hsc⟩
  rw[e] at hrow;cases q with
  | nil=>simp[getRow] at hrow
  | cons y q=>cases q <;> (obtain⟨y1,y2⟩:=y;simp[getRow,rows1] at hrow)
 | _=>rw[hx'] at h;exact h.elim
end Go.PV

/-
 A walk over pure values: addresses,slices,new memory.
 Conditions: none.
-/
namespace Go.PV
variable {P:Program} {N:Nat} {w0:World} {A:Nat->Prop} {I:Bor}
theorem ywh1 {σ:St} {a:Act} {w:World} {L:Lab} (hR:Rel P N N w0 A I σ a w L) {s r:Nat} {q:Path} {tv:Value} {c:C} {cs:List C}
  (h:RelS P (Zof w0 A L w) L w (tmOf a) σ s tv (.ref r q none)) (hg:getRow (rows1 (σ r)) q=some (c::cs)):Rep P (Zof w0 A L w) L w r q tv c:=by
 obtain⟨hroot,h⟩:=h
 rcases yct (σ r) with h0 | ⟨cs0,h0⟩
 ·rw[h0] at hg
  cases q with
  | nil=>simp[getRow] at hg
  | cons y q=>cases q <;> (obtain⟨y1,y2⟩:=y;simp[getRow] at hg)
 obtain⟨rd,hk,hv,hbx⟩:=yzy hR h0
 rw[h0] at hg
 rcases h with⟨hnb,rfl,h3⟩ | ⟨q0,i,o,b,arr,e,rfl,hb,hl,hh,h3⟩
 ·obtain⟨row,h1,h2⟩:=yyi hg
  simp at h1
  subst h1;simp at h2
  have h4:cs0[0]?=some c:=by rw[← h2];rfl
  have:=hk 0 cs0 0 c rfl h4
  rw[(hv hnb).2 0 (by have:=(List.getElem?_eq_some_iff.1 h4).1;omega)] at this
  simp only at h3
  rw[h3];simpa using this
 have hc:∀ {row:List C},c::cs=row.drop o->row[o]?=some c:=fun {row} h=>by
  have:(row.drop o)[0]?=some c:=by rw[← h];rfl
  simpa using this
 by_cases hq:q0=[]
 ·subst hq
  obtain⟨b',arr',e',hn,hsz,_⟩:=hbx (hb rfl)
  obtain rfl:=hR.inj _ _ _ hl hn.lab
  rw[hn.heap] at hh;simp at hh
  obtain⟨rfl,rfl⟩:=hh;obtain⟨row,h1,h2⟩:=yyi hg;have:=(hn.cell h1 (hc h2)).2
  simp only at h3
  simp[Array.getD_eq_getD_getElem?,h3.1] at this
  simpa using this
 obtain⟨b',arr',e',rows',row,hn,h1,h2⟩:=yfq q0 _ [] rd hk hq hg
 simp only[List.nil_append] at hn
 obtain rfl:=hR.inj _ _ _ hl hn.lab
 rw[hn.heap] at hh
 simp at hh
 obtain⟨rfl,rfl⟩:=hh
 have:=(hn.cell h1 (hc h2)).2
 simp only at h3
 simp[Array.getD_eq_getD_getElem?,h3.1] at this
 simpa using this
theorem yle1 {σ:St} {a:Act} {w:World} {L:Lab} (hR:Rel P N N w0 A I σ a w L) {rt:Nat->SV} (hrt:∀ r,rt r=σ r\/rt r=.u) {s:Nat} {tv:Value} {sv:SV} {o:Option TypeId} {rows:List (List C)}
  (h:RelS P (Zof w0 A L w) L w (tmOf a) σ s tv sv) (hs:slOf rt sv=some (o,rows)) :
  (o=none/\Frz (Zof w0 A L w) w tv (.sl none rows))\/(∃ r q e,sv=.ref r q none/\o=some e/\Rep P (Zof w0 A L w) L w r q tv (.sl (some e) rows)/\∃ cs,getRow (rows1 (σ r)) q=some (.sl (some e) rows::cs)):=by
 unfold slOf at hs
 cases sv with
 | p v =>
  simp only[deref] at hs;exfalso
  split at hs
  ·rename_i o' rows' hd
   simp[cellsV] at hd
  cases hs
 | d g cs =>
  simp only[deref] at hs;split at hs
  ·rename_i o' rows' hd
   simp at hd hs
   obtain⟨rfl,rfl⟩:=hd;obtain⟨rfl,rfl⟩:=hs;have h1:=h.2 0 _ rfl;have h2:tv.cells=#[tv]:=h.1.1
   rw[h2] at h1;simp at h1
   cases h1 with
   | nil=>exact .inl ⟨rfl,.nil⟩
   | sl vs hn hz hsz hc hr=>exact .inl ⟨rfl,.sl vs hn hz hsz hc hr⟩
  cases hs
 | ref r q n =>
  simp only[deref] at hs;split at hs
  ·rename_i o' rows' hd
   simp at hs
   obtain⟨rfl,rfl⟩:=hs;split at hd
   ·rename_i c cs hgr
    simp at hd
    subst hd;rcases hrt r with e | e
    ·rw[e] at hgr
     have hrep:=ywh1 hR h hgr;cases o' with
     | none =>
      cases hrep with
      | frz hf=>exact .inl ⟨rfl,hf⟩
     | some e'=>exact .inr ⟨r,q,e',rfl,rfl,hrep,cs,hgr⟩
    rw[e] at hgr;cases q with
    | nil=>simp[getRow] at hgr
    | cons y q=>cases q <;> (obtain⟨y1,y2⟩:=y;simp[getRow,rows1] at hgr)
   ·rename_i cs k _
    split at hd <;> simp at hd
   simp at hd
  cases hs
 | _=>simp[deref] at hs
theorem yrk {t e:TypeId} {sz:Nat} (h:slE P t=some (e,sz)):∃ i,P.underlying t=some (.slice e)/\P.info? e=some i/\i.size=sz/\esz P e=sz:=by
 unfold slE at h
 cases hu:P.underlying t with
 | none=>simp[hu] at h
 | some d =>
  cases d with
  | slice e' =>
   simp only[hu] at h;cases hi:P.info? e' with
   | none=>simp[hi] at h
   | some i =>
    simp[hi] at h
    obtain⟨rfl,rfl⟩:=h;exact⟨i,rfl,hi,rfl,by simp[esz,hi]⟩
  | _=>simp[hu] at h
theorem yvw {t e:TypeId} {sz:Nat} (h:slE P t=some (e,sz)) (w:World) (b off len cap:Nat) (k:IntKind) (n:Int) (h0:0<=n) (h1:n.toNat<len) :
  (Instr.indexAt t (.slice (some ⟨b,off,none⟩) len cap) (.int k n)).run P w=.ok (.pointer (some ⟨b,off+n.toNat*sz,none⟩)) w:=by
 obtain⟨i,hu,hi,hs,_⟩:=yrk h
 have hlt:n<(len:Int):=by omega
 simp[Instr.indexAt,asIntOf,Sem.run_bind,run_underlying hu,sizeOf,typeInfo,hi,hs,h0,hlt,Addr.add_lit]
theorem ywy1 {σ:St} {a:Act} {w:World} {L:Lab} (hR:Rel P N N w0 A I σ a w L) {rt:Nat->SV} (hrt:∀ r,rt r=σ r\/rt r=.u) {t:TypeId} {x i:Operand} {K:SV->Prop}
  (h:idxK P rt t (evS σ x) (evS σ i) K):∃ v sv,(Instr.indexAt t (a.eval x) (a.eval i)).run P w=.ok v w/\K sv/\∀ s,RelS P (Zof w0 A L w) L w (tmOf a) σ s v sv:=by
 unfold idxK at h
 split at h
 ·rename_i hi
  obtain⟨h0,e,sz,o,rows,row,hE,hsl,hrow,hlen,hk⟩:=h;have hx:noTup (evS σ x)=true:=by
   cases hx:evS σ x <;> simp_all [noTup,slOf,deref]
  have hev:=ysh hR 0 x hx;rw[yjk1 hR hi];rename_i k n;obtain⟨inf,hu,hinf,hsz,hesz⟩:=yrk hE;have hlt:n.toNat<rows.length:=(List.getElem?_eq_some_iff.1 hrow).1
  rcases yle1 hR hrt hev hsl with⟨rfl,hf⟩ | ⟨r,q,e',hxr,rfl,hrep,cs,hgr⟩
  ·generalize a.eval x=tv at hf hev ⊢
   cases hf with
   | nil=>simp at hlt
   | @sl b off cap sz' rows vs hn hz hs hc hr =>
    have hs':=hs row (List.mem_of_getElem? hrow)
    refine⟨_,_,yvw hE w b off _ cap k n h0 hlt,hk,fun s=>⟨b,off+n.toNat*sz,hz,rfl,fun j c hj=>?_⟩⟩
    have:=hc n.toNat row j c hrow hj
    rw[show sz'=sz from by omega] at this;exact⟨_,this,hr n.toNat row j c hrow hj⟩
  rw[hxr] at hk hev
  generalize a.eval x=tv at hrep hev ⊢
  rcases hrep.node with⟨_,rfl⟩ | ⟨b,arr,cap,rfl,h1,h2,h3,h4,hn⟩
  ·simp at hlt
  have he:esz P e'=sz:=by have:=h4 row (List.mem_of_getElem? hrow);omega
  refine⟨_,_,yvw hE w b 0 _ cap k n h0 hlt,hk,fun s=>⟨hev.1,q,n.toNat,0,b,arr,e',rfl,?_,hn.lab,hn.heap,by simp[he]⟩⟩
  intro hq;subst hq;simp[getRow] at hgr
 exact h.elim
theorem yok1 {σ:St} {a:Act} {w:World} {L:Lab} (hR:Rel P N N w0 A I σ a w L) {rt:Nat->SV} (hrt:∀ r,rt r=σ r\/rt r=.u) {s:Nat} {tv:Value} {sv:SV} {o:Option TypeId} {rows:List (List C)}
  (h:RelS P (Zof w0 A L w) L w (tmOf a) σ s tv sv) (hs:slOf rt sv=some (o,rows)):∃ ad cap,tv=.slice ad rows.length cap:=by
 rcases yle1 hR hrt h hs with⟨rfl,hf⟩ | ⟨r,q,e',_,rfl,hrep,_⟩
 ·cases hf with
  | nil=>exact⟨_,_,rfl⟩
  | sl=>exact⟨_,_,rfl⟩
 rcases hrep.node with⟨rfl,rfl⟩ | ⟨b,arr,cap,rfl,_⟩
 ·exact⟨_,_,rfl⟩
 exact⟨_,_,rfl⟩
theorem ydo1 (q0:Path) (i o k:Nat):bumpP (q0++[(i,o)]) k=q0++[(i,o+k)]:=by
 simp[bumpP]
theorem yxy1 {σ:St} {a:Act} {w:World} {L:Lab} (hR:Rel P N N w0 A I σ a w L) {t:TypeId} {k off:Nat} {x:Operand} {K:SV->Prop} (hf:fldO P t k=some off)
  (h:match evS σ x with | .fadr cs=>K (.fadr (cs.drop off)) | .addr r q=>K (.addr r (bumpP q off)) | _=>False) :
  ∃ v sv,(Instr.fieldAt t (a.eval x) k).run P w=.ok v w/\K sv/\∀ s,RelS P (Zof w0 A L w) L w (tmOf a) σ s v sv:=by
 have hx:noTup (evS σ x)=true:=by cases hx:evS σ x <;> simp_all [noTup]
 have hev:=ysh hR 0 x hx
 have hrun:∀ b o,(Instr.fieldAt t (.pointer (some ⟨b,o,none⟩)) k).run P w=.ok (.pointer (some ⟨b,o+off,none⟩)) w:=by
  intro b o;unfold fldO at hf;cases hu:P.underlying t with
  | none=>simp[hu] at hf
  | some d =>
   cases d with
   | struct fs =>
    simp only[hu] at hf;cases hk:fs[k]? with
    | none=>simp[hk] at hf
    | some f =>
     simp only[hk] at hf;cases hi:P.info? f.type with
     | none=>simp[hi] at hf
     | some inf =>
      by_cases h0:inf.size=0
      ·simp[hi,h0] at hf
      simp[hi,h0] at hf
      subst hf;simp[Instr.fieldAt,Sem.run_bind,run_underlying hu,hk,Instr.sureAddr,fieldPlace,sizeOf,typeInfo,hi,h0,Addr.add_lit]
   | _=>simp[hu] at hf
 cases hx':evS σ x with
 | fadr cs =>
  rw[hx'] at h hev
  obtain⟨b,o,hz,hv,hc⟩:=hev;rw[hv];refine⟨_,_,hrun b o,h,fun s=>⟨b,o+off,hz,rfl,fun j c hj=>?_⟩⟩
  obtain⟨v,h1,h2⟩:=hc (off+j) c (yuw hj)
  rw[Nat.add_assoc];exact⟨v,h1,h2⟩
 | addr r q =>
  rw[hx'] at h hev
  obtain⟨hroot,q0,i,o,b,arr,e,rfl,hb,hl,hh,hv⟩:=hev;rw[hv];simp only[ydo1] at h;refine⟨_,_,hrun b _,h,fun s=>⟨hroot,q0,i,o+off,b,arr,e,rfl,hb,hl,hh,by rw[Nat.add_assoc]⟩⟩
 | _=>rw[hx'] at h;exact h.elim
end Go.PV

/-
 A walk over pure values: new memory.
 Conditions: none.
-/
namespace Go.PV
variable {P:Program} {N:Nat} {w0:World} {A:Nat->Prop} {I:Bor}
theorem yeo1 {vs:List Value} {os:List (Option TypeId)} {cs:List C} (h:zCells vs os=some cs):cs.length=vs.length /\
  ∀ (Z:Nat->Prop) (L:Lab) (w:World) (s:Nat) (j:Nat) (c:C) (p:Path),cs[j]?=some c->Rep P Z L w s p ((vs[j]?).getD undef) c:=by
 induction vs generalizing os cs with
 | nil =>
  cases os with
  | nil=>simp[zCells] at h;subst h;simp
  | cons o os=>simp[zCells] at h
 | cons v vs ih =>
  cases os with
  | nil=>simp[zCells] at h
  | cons o os =>
   cases o with
   | none =>
    simp only[zCells] at h;split at h
    ·rename_i hv
     cases hr:zCells vs os with
     | none=>simp[hr] at h
     | some cs' =>
      simp[hr] at h
      subst h;obtain⟨h1,h2⟩:=ih hr;refine⟨by simp[h1],fun Z L w s j c p hj=>?_⟩
      cases j with
      | zero=>simp at hj;subst hj;exact .frz (.raw hv)
      | succ j=>simpa using h2 Z L w s j c p (by simpa using hj)
    cases h
   | some e =>
    unfold zCells at h;split at h
    ·simp_all
    ·simp_all
    ·rename_i vs' e' os' h3 h4
     simp at h3 h4
     obtain⟨rfl,rfl⟩:=h3;obtain⟨rfl,rfl⟩:=h4;cases hr:zCells vs os with
     | none=>simp[hr] at h
     | some cs' =>
      simp[hr] at h
      subst h;obtain⟨h1,h2⟩:=ih hr;refine⟨by simp[h1],fun Z L w s j c p hj=>?_⟩
      cases j with
      | zero=>simp at hj;subst hj;exact .onil
      | succ j=>simpa using h2 Z L w s j c p (by simpa using hj)
    cases h
theorem yfo1:∀ {vs:List Value} {os:List (Option TypeId)} {cs:List C},zCells vs os=some cs->nb cs=true:=by
 intro vs
 induction vs with
 | nil =>
  intro os cs h;cases os with
  | nil=>simp[zCells] at h;subst h;rfl
  | cons o os=>simp[zCells] at h
 | cons v vs ih =>
  intro os cs h;cases os with
  | nil=>simp[zCells] at h
  | cons o os =>
   cases o with
   | none =>
    simp only[zCells] at h;split at h
    ·obtain⟨cs',hr,rfl⟩:=Option.map_eq_some_iff.1 h
     simp[nb,nbC,ih hr]
    cases h
   | some e =>
    unfold zCells at h;split at h
    ·simp_all
    ·simp_all
    ·rename_i h3 h4
     simp at h3 h4
     obtain⟨rfl,rfl⟩:=h3;obtain⟨rfl,rfl⟩:=h4;obtain⟨cs',hr,rfl⟩:=Option.map_eq_some_iff.1 h;simp[nb,nbC,ih hr]
    cases h
theorem yqs1 {t:TypeId} {cs:List C} (h:zeroC P t=some cs):nb cs=true:=by
 unfold zeroC at h
 split at h
 ·split at h
  ·split at h
   ·exact yfo1 h
   cases h
  cases h
 cases h
theorem yds {t:TypeId} {cs:List C} (h:zeroC P t=some cs):∃ i z,P.info? t=some i/\i.zero=some z/\z.cells.size=i.size/\cs.length=i.size /\
  ∀ (Z:Nat->Prop) (L:Lab) (w:World) (s:Nat) (j:Nat) (c:C) (p:Path),cs[j]?=some c->Rep P Z L w s p (z.cells.getD j undef) c:=by
 unfold zeroC at h
 split at h
 ·rename_i i os hi ho
  split at h
  ·rename_i z hz
   split at h
   ·rename_i hs
    obtain⟨h1,h2⟩:=yeo1 (P:=P) h
    refine⟨i,z,hi,hz,hs,by simpa [hs] using h1,fun Z L w s j c p hj=>?_⟩
    have:=h2 Z L w s j c p hj
    simpa using this
   cases h
  cases h
 cases h
def lab1 (L:Lab) (b N:Nat) (q:Path):Lab:=fun x=>if x=b then some (N,q) else L x
theorem Rel.alloc {σ:St} {a:Act} {w:World} {L:Lab} (hR:Rel P N N w0 A I σ a w L) (cells:Array Value) (e:TypeId) (q:Path) :
  Rel P N (N+1) w0 A I σ a (w.alloc (.cells cells e)) (lab1 L w.heap.size N q):=by
 have hb:∀ b l,L b=some l->b<w.heap.size/\l.1<N:=fun b l h=>⟨(hR.lab b l h).1,(hR.lab b l h).2.2⟩
 refine hR.grow ⟨rfl,rfl,rfl,by simp,fun b h=>?_,fun b h=>?_,fun b h l hl=>?_,fun b b' l h1 h2=>?_⟩
 ·exact heap_alloc_old w _ b h
 ·simp[lab1];omega
 ·simp only[lab1] at hl
  split at hl
  ·obtain rfl:=Option.some.inj hl;subst b;exact⟨rfl,by simp⟩
  exact absurd (hb b l hl).1 (by omega)
 simp only[lab1] at h1 h2
 split at h1 <;> split at h2
 ·omega
 ·obtain rfl:=Option.some.inj h1;exact absurd (hb _ _ h2).2 (by simp)
 ·obtain rfl:=Option.some.inj h2;exact absurd (hb _ _ h1).2 (by simp)
 exact hR.inj _ _ _ h1 h2
theorem yyd (w:World) (o:Obj):(w.alloc o).heap[w.heap.size]?=some o:=heap_alloc_new w o
theorem yrs1 {σ:St} {a:Act} {w:World} {L:Lab} (hR:Rel P N N w0 A I σ a w L) {t:TypeId} {cs:List C} (h:zeroC P t=some cs) :
  ∃ v w' L1,(Instr.alloc t true (.tuple #[])).run P w=.ok v w'/\Rel P N (N+1) w0 A I σ a w' L1/\RelS P (Zof w0 A L1 w') L1 w' (tmOf a) σ N v (.box (bpz t cs)):=by
 obtain⟨i,z,hi,hz,hs,hl,hr⟩:=yds h
 have hnb:=yqs1 h
 refine⟨.pointer (some ⟨w.heap.size,0,none⟩),w.alloc (.cells z.cells t),_,?_,hR.alloc z.cells t [],w.heap.size,rfl,by simp[lab1],z.cells,t,yyd _ _,by unfold bpz;rw[List.length_map];omega,fun j c hj=>?_⟩
 rotate_left
 ·unfold bpz at hj
  rw[List.getElem?_map] at hj;obtain⟨c0,h0,rfl⟩:=Option.map_eq_some_iff.1 hj;have hR0:=hr (Zof w0 A (lab1 L w.heap.size N []) (w.alloc (.cells z.cells t))) (lab1 L w.heap.size N []) (w.alloc (.cells z.cells t)) N j c0 [(0,j)] h0
  have hne:∀ t',c0≠.bp t':=fun t'=>ykk1 hnb h0
  unfold bpC;split
  ·refine⟨.frz (.bp hR0.oneCell),fun t' ht'=>⟨by simpa using ht',.inl ?_⟩⟩
   generalize z.cells.getD j undef=tv at hR0
   cases hR0 with
   | frz hf=>cases hf;rfl
  exact⟨hR0,fun t' hc=>absurd hc (hne t')⟩
 simp[Instr.alloc,zeroValue,typeInfo,hi,hz,newVar,newRow]
theorem yig1 {σ:St} {a:Act} {w:World} {L:Lab} (hR:Rel P N N w0 A I σ a w L) {t e:TypeId} {sz n:Nat} {z:List C} (hE:slE P t=some (e,sz)) (hn:n<=1099511627776)
  (hz:zeroC P e=some z) (hby:((P.info? e).map (·.bytes)).getD 0<=128) :
  ∃ v w' L1,(Instr.makeSlice t (.int .i64 (n:Int)) (.int .i64 (n:Int))).run P w=.ok v w'/\Rel P N (N+1) w0 A I σ a w' L1 /\
   RelS P (Zof w0 A L1 w') L1 w' (tmOf a) σ N v (.ov false [.sl (some e) (List.replicate n z)]):=by
 obtain⟨i,hu,hi,hs,hes⟩:=yrk hE
 obtain⟨i',zv,hi',hzv,hzs,hl,hr⟩:=yds hz
 rw[hi] at hi'
 obtain rfl:=Option.some.inj hi'
 simp[hi] at hby
 have hrun:=run_make (P:=P) w t e i zv hu hi hzv .i64 .i64 n n (by omega) (Int.le_refl _) (by
  have h1:i.bytes*n<=128*1099511627776:=Nat.mul_le_mul hby hn
  have h2:((i.bytes*n:Nat):Int)<=281474976710656:=by omega
  rwa [Int.natCast_mul] at h2) (by omega)
 simp only[Int.toNat_natCast] at hrun
 refine⟨_,_,_,hrun,hR.alloc _ e [(0,0)],⟨rfl,rfl⟩,fun j c hj=>?_⟩
 cases j with
 | succ j=>simp at hj
 | zero =>
  simp at hj
  subst hj;show Rep P _ _ _ N [(0,0)] (.slice (some ⟨w.heap.size,0,none⟩) n n) _
  have key:Rep P (Zof w0 A (lab1 L w.heap.size N [(0,0)]) (w.alloc (.cells (madeCells zv.cells (n*i.size)) e))) (lab1 L w.heap.size N [(0,0)]) (w.alloc (.cells (madeCells zv.cells (n*i.size)) e)) N [(0,0)]
    (.slice (some ⟨w.heap.size,0,none⟩) (List.replicate n z).length n) (.sl (some e) (List.replicate n z)):=by
   refine .own (by simp[lab1]) (yyd _ _) (by simp) (by simp[maxLen];omega) (by rw[size_madeCells,hes,hs]) ?_ ?_
   ·intro row hrow
    obtain⟨_,rfl⟩:=List.mem_replicate.1 hrow;omega
   intro k row o c h1 h2;have hk:k<n:=by have:=(List.getElem?_eq_some_iff.1 h1).1;simpa using this
   rw[List.getElem?_replicate,if_pos hk] at h1;obtain rfl:=Option.some.inj h1
   have ho:o<z.length:=(List.getElem?_eq_some_iff.1 h2).1
   have hlt:k*esz P e+o<n*i.size:=by
    rw[hes,← hs];calc k*i.size+o<k*i.size+i.size:=by omega
     _=(k+1)*i.size:=by rw[Nat.add_mul,Nat.one_mul]
     _<=n*i.size:=Nat.mul_le_mul_right _ (by omega)
   have:(madeCells zv.cells (n*i.size)).getD (k*esz P e+o) undef=zv.cells.getD o undef:=by
    have hmod:(k*esz P e+o) % i.size=o:=by
     rw[hes,← hs,Nat.mul_comm,Nat.mul_add_mod,Nat.mod_eq_of_lt (by omega)]
    simp only[madeCells,Array.getD_eq_getD_getElem?];rw[Array.getElem?_map,Array.getElem?_range,if_pos hlt];simp only[Option.map_some,Option.getD_some,hzs,hmod];have:o<zv.cells.size:=by omega
    simp[this]
   rw[this];exact hr _ _ _ _ _ _ _ h2
  simpa using key
end Go.PV

/-
 A walk over pure values: structs,literals of slices,cuts of slices,closures.
 Conditions: none.
-/
namespace Go.PV
variable {P:Program} {N:Nat} {w0:World} {A:Nat->Prop} {I:Bor}
def PW (Z:Nat->Prop) (w:World) (arr:Array Value) (cs:List C):Prop:=arr.size=cs.length/\∀ (j:Nat) (c:C),cs[j]?=some c->Frz Z w (arr.getD j undef) c
theorem ybz {Z:Nat->Prop} {L:Lab} {w:World} {tm:Nat->Value} {σ:St} {s:Nat} {tv:Value} {sv:SV} {g:Bool} {cs:List C} (h:RelS P Z L w tm σ s tv sv) (hc:sOp.cellsF sv=some (g,cs)) :
  PW Z w tv.cells cs/\VShape g tv cs.length:=by
 cases sv with
 | p v =>
  have h:tv=v:=h
  subst h;simp only[sOp.cellsF] at hc;split at hc
  ·rename_i hs
   simp at hc
   obtain⟨rfl,rfl⟩:=hc;refine⟨⟨by simp[cellsV],fun j c hj=>?_⟩,?_⟩
   ·simp only[cellsV,List.getElem?_map] at hj
    cases hv:tv.cells.toList[j]? with
    | none=>simp[hv] at hj
    | some x =>
     simp[hv] at hj
     subst hj;have hx:=(List.all_eq_true.1 hs) x (List.mem_of_getElem? hv)
     have:tv.cells.getD j undef=x:=by simp at hv;simp[hv]
     rw[this];exact .raw hx
   cases tv <;> simp_all [VShape,cellsV,Value.cells,aggB]
  cases hc
 | d g' cs' =>
  simp[sOp.cellsF] at hc
  obtain⟨rfl,rfl⟩:=hc;refine⟨⟨?_,h.2⟩,h.1⟩
  have h1:=h.1;unfold VShape at h1;split at h1
  ·obtain⟨arr,rfl,h2⟩:=h1;exact h2
  rw[h1.1,h1.2];rfl
 | fadr cs' =>
  simp[sOp.cellsF] at hc
  obtain⟨rfl,rfl⟩:=hc;have h:=yrq1 h;refine⟨⟨?_,h.2⟩,h.1⟩
  have h1:=h.1;unfold VShape at h1;simp only[Bool.false_eq_true,if_false] at h1;rw[h1.1];rfl
 | _=>simp[sOp.cellsF] at hc
theorem yvu (off:Nat):∀ (l:List Value) (k:Nat) (arr:Array Value),off+k+l.length<=arr.size ->
  ((l.zipIdx k).foldl (fun (cs:Array Value) (x:Value×Nat)=>cs.setIfInBounds (off+x.2) x.1) arr).size=arr.size /\
  ∀ j,((l.zipIdx k).foldl (fun (cs:Array Value) (x:Value×Nat)=>cs.setIfInBounds (off+x.2) x.1) arr)[j]?=if off+k<=j/\j<off+k+l.length then l[j-(off+k)]? else arr[j]?
 | [],k,arr,_=>by simp;intro j h1 h2;omega
 | v::l,k,arr,h=>by
  simp only[List.zipIdx_cons,List.foldl_cons];simp only[List.length_cons] at h;obtain⟨h1,h2⟩:=yvu off l (k+1) (arr.setIfInBounds (off+k) v) (by simp;omega)
  refine⟨by simpa using h1,fun j=>?_⟩
  rw[h2 j];by_cases hj:j=off+k
  ·subst hj
   rw[if_neg (by omega),if_pos (by simp)];have hlt:off+k<arr.size:=by omega
   simp[hlt]
  by_cases hin:off+(k+1)<=j/\j<off+(k+1)+l.length
  ·rw[if_pos hin,if_pos (by simp;omega)]
   rw[show j-(off+k)=(j-(off+(k+1)))+1 from by omega];simp
  rw[if_neg hin,if_neg (by simp;omega)]
  rw[Array.getElem?_setIfInBounds,if_neg (by omega)]
theorem ygo1 {Z:Nat->Prop} {w:World} {arr vs:Array Value} {cs cs':List C} {off:Nat} (h1:PW Z w arr cs) (h2:PW Z w vs cs') (hle:off+cs'.length<=cs.length) :
  PW Z w (vs.zipIdx.foldl (fun cs (c,j)=>cs.setIfInBounds (off+j) c) arr) (cs.take off++cs'++cs.drop (off+cs'.length)):=by
 have hsz:off+0+vs.toList.length<=arr.size:=by simp;have:=h1.1;have:=h2.1;omega
 obtain⟨e1,e2⟩:=yvu off vs.toList 0 arr hsz
 have hfold:vs.zipIdx.foldl (fun cs (c,j)=>cs.setIfInBounds (off+j) c) arr=(vs.toList.zipIdx 0).foldl (fun (cs:Array Value) (x:Value×Nat)=>cs.setIfInBounds (off+x.2) x.1) arr:=by
  rw[← Array.foldl_toList,Array.toList_zipIdx]
 rw[hfold]
 refine⟨?_,fun j c hj=>?_⟩
 ·rw[e1,h1.1];simp;omega
 have hget:=e2 j
 simp only[Nat.add_zero,Array.length_toList] at hget
 rw[Array.getD_eq_getD_getElem?,hget]
 have hv:vs.size=cs'.length:=h2.1
 by_cases hlt:j<off
 ·rw[if_neg (by omega)]
  rw[List.append_assoc,List.getElem?_append_left (by simp;omega),List.getElem?_take,if_pos hlt] at hj
  have:=h1.2 j c hj
  rwa [Array.getD_eq_getD_getElem?] at this
 by_cases hin:j<off+cs'.length
 ·rw[if_pos (by omega)]
  rw[List.getElem?_append_left (by simp;omega),List.getElem?_append_right (by simp;omega)] at hj
  simp only[List.length_take] at hj;rw[show min off cs.length=off from by omega] at hj;have:=h2.2 _ c hj
  rw[Array.getD_eq_getD_getElem?] at this;simpa using this
 rw[if_neg (by omega)]
 rw[List.getElem?_append_right (by simp;omega)] at hj
 simp only[List.length_append,List.length_take,List.getElem?_drop] at hj
 rw[show off+cs'.length+(j-(min off cs.length+cs'.length))=j from by omega] at hj
 have:=h1.2 j c hj
 rwa [Array.getD_eq_getD_getElem?] at this
theorem ysp {x:SV} {y:Bool×List C} (h:sOp.cellsF x=some y):noTup x=true:=by cases x <;> simp_all [sOp.cellsF,noTup]
theorem ypk1 {σ:St} {a:Act} {w:World} {L:Lab} (hR:Rel P N N w0 A I σ a w L) {place:Nat->Option (Nat×Nat)}:∀ (l:List (Nat×Operand)) (z cs:List C) (arr:Array Value),
  PW (Zof w0 A L w) w arr z->sOp.fillC place (evS σ) z l=some cs->∃ arr',Instr.fill place arr (l.map fun (i,x)=>(i,a.eval x))=some arr'/\PW (Zof w0 A L w) w arr' cs
 | [],z,cs,arr,h,hf=>by simp[sOp.fillC] at hf;subst hf;exact⟨arr,rfl,h⟩
 | (k,x)::l,z,cs,arr,h,hf=>by
  simp only[sOp.fillC] at hf;split at hf
  ·rename_i off n g cs1 hp hc
   split at hf
   ·rename_i hcond
    have hx:=(ybz (ysh hR 0 x (ysp hc)) hc).1
    simp only[List.map_cons,Instr.fill,hp];have h1:(decide ((a.eval x).cells.size≠n)||decide (off+(a.eval x).cells.size>arr.size))=false:=by
     have:=hx.1;have:=h.1
     simp only[Bool.or_eq_false_iff,decide_eq_false_iff_not];omega
    rw[h1];simp only[Bool.false_eq_true,if_false];have:=ygo1 h hx (by omega:off+cs1.length<=z.length)
    rw[hcond.1] at this;exact ypk1 hR l _ cs _ this hf
   cases hf
  cases hf
theorem yxh1 (fs:List Field) (h:fs.all (fun f=>(P.info? f.type).isSome)=true) :
  fs.mapM (fun f=>(P.info? f.type).map fun i=>(f.offset,i.size))=some (fs.map fun f=>(f.offset,((P.info? f.type).map (·.size)).getD 0)):=by
 induction fs with
 | nil=>rfl
 | cons f fs ih =>
  simp only[List.all_cons,Bool.and_eq_true] at h;obtain⟨i,hi⟩:=Option.isSome_iff_exists.1 h.1;simp[List.mapM_cons,ih h.2,hi]
theorem yss1 {σ:St} {a:Act} {w:World} {L:Lab} (hR:Rel P N N w0 A I σ a w L) {t:TypeId} {parts:Array (Nat×Operand)} {cs:List C} (h:sOp.buildC P (evS σ) t parts.toList=some cs) :
  ∃ v,(Instr.build t (parts.map fun (i,x)=>(i,a.eval x))).run P w=.ok v w/\∀ s,RelS P (Zof w0 A L w) L w (tmOf a) σ s v (mkD true cs):=by
 unfold sOp.buildC at h
 split at h
 ·rename_i z fs hz hu
  split at h
  ·cases h
  rename_i hall;simp only[Bool.not_eq_true',Bool.not_eq_false] at hall;obtain⟨i,zv,hi,hzv,hzs,hl,hr⟩:=yds hz;have hpw:PW (Zof w0 A L w) w zv.cells (eraR z):=by
   refine⟨by rw[yam,List.length_map];omega,fun j c hj=>?_⟩
   rw[yam,List.getElem?_map] at hj;cases hzj:z[j]? with
   | none=>simp[hzj] at hj
   | some c0 =>
    simp[hzj] at hj
    subst hj;exact(hr (Zof w0 A L w) (fun _=>none) w 0 j c0 [] hzj).freeze (fun b h=>⟨h,rfl⟩) (fun b q h=>by cases h)
  obtain⟨arr,hf,hp⟩:=ypk1 hR _ _ _ _ hpw h;refine⟨.agg arr,run_build w t _ arr ?_,fun s=>?_⟩
  ·unfold Program.built
   rw[hi,hu];simp only[hzv];rw[yxh1 _ hall];simp only[];rw[← hf];have:(fun x=>(List.map (fun f:Field=>(f.offset,((P.info? f.type).map (·.size)).getD 0)) fs.toList).toArray[x]?)=fun (k:Nat)=>(fs[k]?).map fun f:Field=>(f.offset,((P.info? f.type).map (·.size)).getD 0):=by
    funext k
    simp
   rw[this];simp
  have:=yps1 (P:=P) (Z:=Zof w0 A L w) (L:=L) (w:=w) (tm:=tmOf a) (σ:=σ) (s:=s) (g:=true) (cs:=cs) (vs:=arr.toList) (by simpa using hp.1) (by simp) (fun j c hj=>by
   have:=hp.2 j c hj
   rw[Array.getD_eq_getD_getElem?] at this;simpa using this)
  simpa [mkV] using this
 cases h
theorem yho1 {σ:St} {a:Act} {w:World} {L:Lab} (hR:Rel P N N w0 A I σ a w L) {t:TypeId} {cs0 cs:List C} (h:sOp.buildC P (evS σ) t []=some cs0) (hz0:zeroC P t=some cs) :
  ∃ v,(Instr.build t #[]).run P w=.ok v w/\RelS P (Zof w0 A L w) L w (tmOf a) σ N v (.ov true cs):=by
 unfold sOp.buildC at h
 split at h
 ·rename_i z fs hz hu
  split at h
  ·cases h
  rename_i hall;simp only[Bool.not_eq_true',Bool.not_eq_false] at hall;obtain⟨i,zv,hi,hzv,hzs,hl,hr⟩:=yds hz0;refine⟨.agg zv.cells,run_build w t _ zv.cells ?_,⟨zv.cells,rfl,by omega⟩,fun j c hj=>hr _ _ _ _ _ _ _ hj⟩
  unfold Program.built;rw[hi,hu];simp only[hzv];rw[yxh1 _ hall];rfl
 cases h
theorem yyh1 {σ:St} {a:Act} {w:World} {L:Lab} (hR:Rel P N N w0 A I σ a w L):∀ (l:List Operand) (axs:List (Bool×List C)),sOp.capsOf (l.map (evS σ))=some axs ->
  (l.map a.eval).length=axs.length/\∀ i g cs,axs[i]?=some (g,cs)->VShape g ((l.map a.eval).getD i undef) cs.length/\PW (Zof w0 A L w) w ((l.map a.eval).getD i undef).cells cs
 | [],axs,h=>by simp[sOp.capsOf] at h;subst h;simp
 | x::l,axs,h=>by
  simp only[List.map_cons,sOp.capsOf] at h;split at h
  ·rename_i y r hy hr
   simp at h
   subst h;obtain⟨h1,h2⟩:=yyh1 hR l r hr;refine⟨by simpa using h1,fun i g cs hi=>?_⟩
   cases i with
   | zero =>
    simp at hi
    subst hi;have:=ybz (ysh hR 0 x (ysp hy)) hy
    simpa using⟨this.2,this.1⟩
   | succ i=>simpa using h2 i g cs (by simpa using hi)
  cases h
theorem ygj1 {σ:St} {a:Act} {w:World} {L:Lab} (hR:Rel P N N w0 A I σ a w L) {f:FuncId} {caps:Array Operand} {axs:List (Bool×List C)} (h:sOp.capsOf (caps.toList.map (evS σ))=some axs) (s:Nat) :
  RelS P (Zof w0 A L w) L w (tmOf a) σ s (.func (.func f) #[] (caps.map a.eval)) (.d false [.fn f axs]):=by
 obtain⟨h1,h2⟩:=yyh1 hR _ _ h
 refine⟨⟨rfl,rfl⟩,fun j c hj=>?_⟩
 cases j with
 | succ j=>simp at hj
 | zero =>
  simp at hj
  subst hj;have hg:∀ i,(caps.map a.eval).getD i undef=(caps.toList.map a.eval).getD i undef:=fun i=>by simp
  refine .fn (by simpa using h1) (fun i g cs hi=>?_) (fun i g cs j c hi hj=>?_)
  ·rw[hg];exact(h2 i g cs hi).1
  rw[hg];exact(h2 i g cs hi).2.2 j c hj
theorem Frz.sl_inv {Z:Nat->Prop} {w:World} {tv:Value} {rows:List (List C)} (h:Frz Z w tv (.sl none rows)) :
  (rows=[]/\∃ ad cap,tv=.slice ad 0 cap)\/∃ (b off cap sz:Nat) (vs:Nat->Nat->Value),tv=.slice (some ⟨b,off,none⟩) rows.length cap/\rows.length<=cap/\Z b/\(∀ row∈rows,row.length=sz) /\
   (∀ (i:Nat) (row:List C) (o:Nat) (c:C),rows[i]?=some row->row[o]?=some c->w.cell? ⟨b,off+i*sz+o,none⟩=some (vs i o)) /\
   (∀ (i:Nat) (row:List C) (o:Nat) (c:C),rows[i]?=some row->row[o]?=some c->Frz Z w (vs i o) c):=by
 cases h with
 | nil=>exact .inl ⟨rfl,_,_,rfl⟩
 | sl vs hn hz hs hc hr=>exact .inr ⟨_,_,_,_,vs,rfl,hn,hz,hs,hc,hr⟩
theorem yts1 {σ:St} {a:Act} {w:World} {L:Lab} (hR:Rel P N N w0 A I σ a w L) {t e:TypeId} {sz l h:Nat} {x:Operand} {lo hi:Option Operand} {rows:List (List C)} (hx:evS σ x=.d false [.sl none rows])
  (hE:slE P t=some (e,sz)) (hl:sOp.bnd (evS σ) lo 0=some (l:Int)) (hh:sOp.bnd (evS σ) hi rows.length=some (h:Int)) (h1:l<=h) (h2:h<=rows.length) (hrow:∀ row∈rows,row.length=sz) :
  ∃ v,(Instr.sliceAt t (a.eval x) (lo.map a.eval) (hi.map a.eval) none).run P w=.ok v w/\∀ s,RelS P (Zof w0 A L w) L w (tmOf a) σ s v (.d false [.sl none ((rows.take h).drop l)]):=by
 obtain⟨inf,hu,hinf,hsz,hes⟩:=yrk hE
 have hev:=ysh hR 0 x (by rw[hx];rfl)
 rw[hx] at hev
 have hf:=hev.2 0 _ rfl
 have hc:(a.eval x).cells=#[a.eval x]:=hev.1.1
 rw[hc] at hf
 simp at hf
 have hcap:∃ ad cap,a.eval x=.slice ad rows.length cap/\rows.length<=cap:=by
  generalize a.eval x=tv at hf
  cases hf with
  | nil=>exact⟨_,_,rfl,Nat.zero_le _⟩
  | sl vs hn=>exact⟨_,_,rfl,hn⟩
 obtain⟨ad,cap,hv,hle⟩:=hcap
 have hbl:∀ (o:Option Operand) (dflt n:Nat) (y:Nat) (cd:BoundsCode),sOp.bnd (evS σ) o dflt=some (n:Int)->n<=y ->
   (o=none/\n=dflt)\/∃ z v,o=some z/\a.eval z=v/\(Instr.sliceBound v y cd).run P w=.ok n w:=by
  intro o dflt n y cd ho hn;cases o with
  | none=>simp[sOp.bnd] at ho;exact .inl ⟨rfl,by omega⟩
  | some z =>
   right
   simp only[sOp.bnd] at ho;split at ho
   ·rename_i k m hz
    simp at ho
    subst ho;refine⟨z,_,rfl,rfl,?_⟩
    rw[yjk1 hR hz];have:(n:Int)<=(y:Int):=by omega
    simp[Instr.sliceBound,asIntOf,this]
   cases ho
 have hbounds:(Instr.sliceBounds true rows.length cap (lo.map a.eval) (hi.map a.eval) none).run P w=.ok (l,h,cap) w:=by
  rcases hbl hi rows.length h cap .sliceAcap hh (by omega) with⟨rfl,rfl⟩ | ⟨zh,vh,rfl,hvh,hrh⟩ <;> rcases hbl lo 0 l _ .sliceB hl h1 with⟨rfl,rfl⟩ | ⟨zl,vl,rfl,hvl,hrl⟩
  ·simp[Instr.sliceBounds]
  ·simp[Instr.sliceBounds,hvl,hrl]
  ·simp[Instr.sliceBounds,hvh,hrh]
  simp[Instr.sliceBounds,hvh,hrh,hvl,hrl]
 refine⟨.slice (if cap=l then ad else ad.map (·.add (l*sz))) (h-l) (cap-l),?_,fun s=>⟨⟨rfl,rfl⟩,fun j c hj=>?_⟩⟩
 ·simp[Instr.sliceAt,run_underlying hu,Instr.slice,hv,hbounds,sizeOf,typeInfo,hinf,hsz]
 cases j with
 | succ j=>simp at hj
 | zero =>
  simp at hj
  subst hj;simp only[Value.cells];show Frz _ w (.slice (if cap=l then ad else ad.map (·.add (l*sz))) (h-l) (cap-l)) _
  have hlen:((rows.take h).drop l).length=h-l:=by simp;omega
  by_cases hz:h-l=0
  ·have:(rows.take h).drop l=[]:=List.eq_nil_of_length_eq_zero (by omega)
   rw[this,hz];exact .nil
  have hne:cap≠l:=by omega
  rw[if_neg hne];rcases hf.sl_inv with⟨rfl,_⟩ | ⟨b,off,cap',sz',vs,hv',hn,hzb,hs,hcell,hr⟩
  ·simp at h2;omega
  rw[hv] at hv'
  simp only[Value.slice.injEq] at hv'
  obtain⟨rfl,_,rfl⟩:=hv'
  have hs':sz'=sz:=by
   cases rows with
   | nil=>simp at h2;omega
   | cons r rs=>have e1:=hs r (by simp);have e2:=hrow r (by simp);omega
  subst hs'
  simp only[Option.map_some,Addr.add_lit];have hget:∀ (i:Nat) (row:List C),((rows.take h).drop l)[i]?=some row->rows[l+i]?=some row:=fun i row hi=>(yho (yuw hi)).2
  have key:Frz (Zof w0 A L w) w (.slice (some ⟨b,off+l*sz',none⟩) ((rows.take h).drop l).length (cap-l)) (.sl none ((rows.take h).drop l)):=by
   refine .sl (sz:=sz') (fun i o=>vs (l+i) o) (by rw[hlen];omega) hzb (fun row hr'=>?_) (fun i row o c h3 h4=>?_) (fun i row o c h3 h4=>hr (l+i) row o c (hget i row h3) h4)
   ·exact hs row (List.mem_of_mem_take (List.mem_of_mem_drop hr'))
   have:=hcell (l+i) row o c (hget i row h3) h4
   rw[show off+l*sz'+i*sz'+o=off+(l+i)*sz'+o from by rw[Nat.add_mul];omega]
   exact this
  rw[hlen] at key;exact key
end Go.PV

/-
 A walk over pure values: literals of slices;calls.
 Conditions: none.
-/
namespace Go.PV
variable {P:Program} {N:Nat} {w0:World} {A:Nat->Prop} {I:Bor}
def RowsIn (Z:Nat->Prop) (w:World) (sz k:Nat) (arr:Array Value) (rows:List (List C)):Prop :=
 ∀ (i:Nat) (row:List C) (o:Nat) (c:C),i<k->rows[i]?=some row->row[o]?=some c->Frz Z w (arr.getD (i*sz+o) undef) c
theorem yme1 {σ:St} {a:Act} {w:World} {L:Lab} (hR:Rel P N N w0 A I σ a w L) {sz n:Nat}:∀ (l:List (Nat×Operand)) (k:Nat) (pre rows:List (List C)) (arr:Array Value),
  pre.length=k->k+l.length=n->arr.size=n*sz->(∀ row∈pre,row.length=sz)->RowsIn (Zof w0 A L w) w sz k arr pre->sOp.partsOf (evS σ) sz l k=some rows ->
  ∃ arr',Instr.fill (fun i=>some (i*sz,sz)) arr (l.map fun (i,x)=>(i,a.eval x))=some arr'/\arr'.size=n*sz/\RowsIn (Zof w0 A L w) w sz n arr' (pre++rows)/\(∀ row∈pre++rows,row.length=sz)/\(pre++rows).length=n
 | [],k,pre,rows,arr,hp,hn,ha,hu,hr,h=>by
  simp[sOp.partsOf] at h
  subst h;refine⟨arr,rfl,ha,?_,by simpa using hu,by simp at hn ⊢;omega⟩
  simp at hn
  subst hn;simpa using hr
 | (i,x)::l,k,pre,rows,arr,hp,hn,ha,hu,hr,h=>by
  simp only[sOp.partsOf] at h;split at h
  ·rename_i g cs rows' hc hrest
   split at h
   ·rename_i hcond
    obtain⟨rfl,hcs⟩:=hcond;obtain rfl:=Option.some.inj h
    simp only[List.length_cons] at hn;have hx:=(ybz (ysh hR 0 x (ysp hc)) hc).1
    have hle:i*sz+sz<=n*sz:=by
     calc i*sz+sz=(i+1)*sz:=by rw[Nat.add_mul,Nat.one_mul]
      _<=n*sz:=Nat.mul_le_mul_right _ (by omega)
    have h1:(decide ((a.eval x).cells.size≠sz)||decide (i*sz+(a.eval x).cells.size>arr.size))=false:=by
     have:=hx.1
     simp only[Bool.or_eq_false_iff,decide_eq_false_iff_not];omega
    simp only[List.map_cons,Instr.fill];rw[h1];simp only[Bool.false_eq_true,if_false];have hfold:(a.eval x).cells.zipIdx.foldl (fun cs (c,j)=>cs.setIfInBounds (i*sz+j) c) arr=((a.eval x).cells.toList.zipIdx 0).foldl (fun (cs:Array Value) (x:Value×Nat)=>cs.setIfInBounds (i*sz+x.2) x.1) arr:=by
     rw[← Array.foldl_toList,Array.toList_zipIdx]
    obtain⟨e1,e2⟩:=yvu (i*sz) (a.eval x).cells.toList 0 arr (by simp;have:=hx.1;omega)
    have hvs:(a.eval x).cells.size=sz:=by have:=hx.1;omega
    have:=yme1 hR (n:=n) l (i+1) (pre++[cs]) rows' ((a.eval x).cells.zipIdx.foldl (fun cs (c,j)=>cs.setIfInBounds (i*sz+j) c) arr) (by simp[hp]) (by omega) (by rw[hfold,e1,ha])
     (fun row hrow=>by rcases List.mem_append.1 hrow with h | h;exact hu row h;simp at h;subst h;exact hcs)
     (fun i' row o c hi hrow ho=>by
      rw[hfold,Array.getD_eq_getD_getElem?,e2];simp only[Nat.add_zero,Array.length_toList];by_cases hlt:i'<i
      ·rw[List.getElem?_append_left (by omega)] at hrow
       have ho':o<sz:=by have:=hu row (List.mem_of_getElem? hrow);have:=(List.getElem?_eq_some_iff.1 ho).1;omega
       have:i'*sz+o<i*sz:=by
        calc i'*sz+o<i'*sz+sz:=by omega
         _=(i'+1)*sz:=by rw[Nat.add_mul,Nat.one_mul]
         _<=i*sz:=Nat.mul_le_mul_right _ (by omega)
       rw[if_neg (by omega)];have:=hr i' row o c hlt hrow ho
       rwa [Array.getD_eq_getD_getElem?] at this
      have:i'=i:=by omega
      subst this;rw[List.getElem?_append_right (by omega)] at hrow;simp[hp] at hrow
      subst hrow;have ho':o<sz:=by have:=(List.getElem?_eq_some_iff.1 ho).1;omega
      rw[if_pos (by omega)];have:=hx.2 o c ho
      rw[Array.getD_eq_getD_getElem?] at this;simpa using this) hrest
    simpa using this
   cases h
  cases h
theorem yne1 {σ:St} {a:Act} {w:World} {L:Lab} (hR:Rel P N N w0 A I σ a w L) {t e:TypeId} {sz n:Nat} {parts:Array (Nat×Operand)} {rows:List (List C)} (hE:slE P t=some (e,sz)) (hn:parts.size=n)
  (hn2:n<=65536) (hsz2:sz<=16) (hz:((P.info? e).any (·.zero.isSome))=true) (h:sOp.partsOf (evS σ) sz parts.toList 0=some rows) :
  ∃ v w' L1,(Instr.buildSlice t n (parts.map fun (i,x)=>(i,a.eval x))).run P w=.ok v w'/\Rel P N (N+1) w0 A I σ a w' L1/\RelS P (Zof w0 A L1 w') L1 w' (tmOf a) σ N v (.ov false [.sl (some e) rows]):=by
 obtain⟨i,hu,hi,hs,hes⟩:=yrk hE
 simp[hi] at hz
 obtain⟨z,hz⟩:=Option.isSome_iff_exists.1 hz
 have hbig:¬ (16777216<n*sz):=by
  have:n*sz<=65536*16:=Nat.mul_le_mul hn2 hsz2
  omega
 have hprep:∀ arr:Array Value,arr.size=n*sz->∃ arr',Instr.fill (fun i=>some (i*sz,sz)) arr (parts.toList.map fun (i,x)=>(i,a.eval x))=some arr'/\arr'.size=n*sz/\RowsIn (Zof w0 A L w) w sz n arr' rows/\(∀ row∈rows,row.length=sz)/\rows.length=n:=by
  intro arr ha;have:=yme1 (P:=P) hR (n:=n) parts.toList 0 [] rows arr rfl (by simpa using hn) ha (by simp) (fun i row o c h _ _=>by omega) h
  simpa using this
 have hfin:∀ (cells:Array Value),cells.size=n*sz->RowsIn (Zof w0 A L w) w sz n cells rows->(∀ row∈rows,row.length=sz)->rows.length=n ->
   Rel P N (N+1) w0 A I σ a (w.alloc (.cells cells e)) (lab1 L w.heap.size N [(0,0)]) /\
   RelS P (Zof w0 A (lab1 L w.heap.size N [(0,0)]) (w.alloc (.cells cells e))) (lab1 L w.heap.size N [(0,0)]) (w.alloc (.cells cells e)) (tmOf a) σ N (.slice (some ⟨w.heap.size,0,none⟩) n n) (.ov false [.sl (some e) rows]):=by
  intro cells hc hr hu2 hl;have hR':=hR.alloc cells e [(0,0)]
  have hzz:∀ b,Zof w0 A L w b->Zof w0 A (lab1 L w.heap.size N [(0,0)]) (w.alloc (.cells cells e)) b/\(w.alloc (.cells cells e)).heap[b]?=w.heap[b]?:=fun b ⟨h1,h2,h3⟩ =>
   ⟨⟨by simp[lab1,h1];omega,by simp;omega,h3⟩,heap_alloc_old w _ b h2⟩
  refine⟨hR',⟨rfl,rfl⟩,fun j c hj=>?_⟩
  cases j with
  | succ j=>simp at hj
  | zero =>
   simp at hj
   subst hj;have key:Rep P (Zof w0 A (lab1 L w.heap.size N [(0,0)]) (w.alloc (.cells cells e))) (lab1 L w.heap.size N [(0,0)]) (w.alloc (.cells cells e)) N [(0,0)] (.slice (some ⟨w.heap.size,0,none⟩) rows.length n) (.sl (some e) rows):=by
    refine .own (by simp[lab1]) (yyd _ _) (by omega) (by simp[maxLen];omega) (by rw[hc,hes]) (fun row hrow=>by rw[hu2 row hrow,hes]) fun k row o c h1 h2=>?_
    refine .frz ?_
    rw[hes];exact(hr k row o c (by have:=(List.getElem?_eq_some_iff.1 h1).1;omega) h1 h2).mono hzz
   rw[hl] at key;simpa [Value.cells] using key
 by_cases h0:n*sz=0
 ·obtain⟨cells,h1,h2,h3,h4,h5⟩:=hprep ((Array.range (n*sz)).map ((#[]:Array Value)[· % (#[]:Array Value).size]!)) (by simp)
  obtain⟨h6,h7⟩:=hfin cells h2 h3 h4 h5;refine⟨_,_,_,?_,h6,h7⟩
  have h1':Instr.fill (fun i=>some (i*sz,sz)) #[] (parts.toList.map fun (i,x)=>(i,a.eval x))=some cells:=by
   have:((Array.range (n*sz)).map ((#[]:Array Value)[· % (#[]:Array Value).size]!))=#[]:=by rw[h0];simp
   rwa [this] at h1
  have he:(Array.map (fun (_:Nat)=>(default:Value)) (Array.range 0))=#[]:=by simp
  simp only[] at h1'
  simp[Instr.buildSlice,run_underlying hu,sizeOf,typeInfo,hi,hs,h0,newRow]
  rw[he];rw[h1'];simp
 obtain⟨cells,h1,h2,h3,h4,h5⟩:=hprep ((Array.range (n*sz)).map (z.cells[· % z.cells.size]!)) (by simp)
 obtain⟨h6,h7⟩:=hfin cells h2 h3 h4 h5
 refine⟨_,_,_,?_,h6,h7⟩
 simp[Instr.buildSlice,run_underlying hu,sizeOf,typeInfo,hi,hs,h0,hbig,zeroValue,hz,h1,newRow]
end Go.PV

/-
 A walk over pure values: freezing;calls.
 Conditions: none.
-/
namespace Go.PV
variable {P:Program} {N:Nat} {w0:World} {A:Nat->Prop} {I:Bor}
def frzL (r:Nat) (L:Lab):Lab:=fun b=>match L b with
 | some (s,q)=>if s=r/\q≠[] then none else some (s,q)
 | none=>none
theorem yyq {L:Lab} {r b:Nat} {l:Nat×Path} (h:frzL r L b=some l):L b=some l/\¬ (l.1=r/\l.2≠[]):=by
 unfold frzL at h
 split at h
 ·rename_i s q hb
  split at h
  ·cases h
  rename_i hn;obtain rfl:=Option.some.inj h
  exact⟨hb,hn⟩
 cases h
theorem ycu {cs:List C} {j:Nat} {c:C} (h:(eraR cs)[j]?=some c):∃ c0,cs[j]?=some c0/\c=era c0:=by
 rw[yam,List.getElem?_map] at h
 cases hj:cs[j]? with
 | none=>simp[hj] at h
 | some c0=>simp[hj] at h;exact⟨c0,rfl,h.symm⟩
theorem Rel.frz {M:Nat} {σ:St} {a:Act} {w:World} {L:Lab} (hR:Rel P N M w0 A I σ a w L) (r:Nat) :
  ∃ L',Rel P N M w0 A I (frz r σ) a w L'/\(∀ b,Zof w0 A L w b->Zof w0 A L' w b)/\(isTup (σ r)=false->∀ q b,q≠[]->L b=some (r,q)->Zof w0 A L' w b)/\(∀ s b q,s≠r->L b=some (s,q)->L' b=some (s,q))/\(∀ b l,L' b=some l->L b=some l):=by
 cases ht:isTup (σ r) with
 | true=>exact⟨L,by unfold Go.PV.frz;rw[ht];exact hR,fun _ h=>h,fun h=>(by cases h),fun _ _ _ _ h=>h,fun _ _ h=>h⟩
 | false =>
  have hz:∀ b,Zof w0 A L w b->Zof w0 A (frzL r L) w b/\w.heap[b]?=w.heap[b]?:=fun b h=>⟨⟨by simp[frzL,h.1],h.2⟩,rfl⟩
  have hzr:∀ q b,q≠[]->L b=some (r,q)->Zof w0 A (frzL r L) w b:=fun q b hq hb=>by
   have h1:=hR.lab b _ hb;refine⟨by simp[frzL,hb,hq],h1.1,?_⟩
   rcases h1.2.1 with h | h
   ·exact .inr h
   exact .inl (hR.hA.2 b h)
  have hlab:∀ s,s≠r->∀ b q,L b=some (s,q)->frzL r L b=some (s,q)/\w.heap[b]?=w.heap[b]?:=fun s h1 b q hb=>⟨by simp[frzL,hb,h1],rfl⟩
  have hlab0:∀ b s,L b=some (s,[])->frzL r L b=some (s,[]):=fun b s hb=>by simp[frzL,hb]
  have hσ:Go.PV.frz r σ=fun s=>if s=r then frzSV (σ s) else killD r (σ s):=by unfold Go.PV.frz;rw[ht];rfl
  have hroot:∀ x,isRoot (σ x)=true->isRoot (Go.PV.frz r σ x)=true/\isBox (Go.PV.frz r σ x)=isBox (σ x):=by
   intro x hx;rw[hσ];simp only[];by_cases hxr:x=r
   ·subst hxr
    rw[if_pos rfl];cases h:σ x <;> rw[h] at hx ht <;> simp_all [frzSV,isRoot,isBox,isTup]
   rw[if_neg hxr];cases h:σ x <;> rw[h] at hx <;> simp_all [killD,isRoot,isBox]
  refine⟨frzL r L,⟨hR.dfr,hR.siz,hR.ev,?_,?_,?_,hR.hA,hR.pin,?_⟩,fun b h=>(hz b h).1,fun _=>hzr,fun s b q h1 h2=>(hlab s h1 b q h2).1,fun b l h=>(yyq h).1⟩
  ·exact fun b b' l h1 h2=>hR.inj _ _ _ (yyq h1).1 (yyq h2).1
  ·exact fun b l h=>hR.lab b l (yyq h).1
  ·intro s hs
   rw[hσ];simp only[hR.out s hs];split <;> rfl
  intro s;have h0:=hR.slot s;by_cases hsr:s=r
  ·subst hsr
   have e:Go.PV.frz s σ s=frzSV (σ s):=by rw[hσ];simp
   rw[e];cases hs:σ s with
   | ov g cs =>
    rw[hs] at h0;refine⟨by rw[yam,List.length_map];exact h0.1,fun j c hj=>?_⟩
    obtain⟨c0,h1,rfl⟩:=ycu hj;exact(h0.2 j c0 h1).freeze hz fun b q hb=>⟨hzr _ b (by simp) hb,rfl⟩
   | box cs =>
    rw[hs] at h0;obtain⟨b,h1,h2,arr,ee,h3,h4,h5⟩:=h0;refine⟨b,h1,hlab0 b s h2,arr,ee,h3,by rw[yam,List.length_map];exact h4,fun j c hj=>?_⟩
    obtain⟨c0,h6,rfl⟩:=ycu hj;exact⟨.frz ((h5 j c0 h6).1.freeze hz fun b q hb=>⟨hzr _ b (by simp) hb,rfl⟩),fun t hc=>(h5 j c0 h6).2 t (yuy1 hc)⟩
   | tup l=>rw[hs] at ht;simp[isTup] at ht
   | u=>trivial
   | p v=>rw[hs] at h0;exact h0
   | d g cs=>rw[hs] at h0;exact FrzV.mono h0 hz
   | fadr cs=>rw[hs] at h0;exact RelS.keep (sv:=.fadr cs) h0 hz (fun _ _ h=>by cases h) (fun _ h=>by cases h)
   | ref r' q n =>
    rw[hs] at h0;have hne:r'≠s:=fun h=>by subst h;have:=h0.1;rw[hs] at this;simp[isRoot] at this
    exact RelS.keep (sv:=.ref r' q n) h0 hz (fun _ _ h=>by cases h) (fun x hx hxr=>by
     simp only[refOf,Option.some.injEq] at hx;subst hx;exact⟨hlab r' hne,rfl,(hroot r' hxr).1,(hroot r' hxr).2⟩)
   | addr r' q =>
    rw[hs] at h0;have hne:r'≠s:=fun h=>by subst h;have:=h0.1;rw[hs] at this;simp[isRoot] at this
    exact RelS.keep (sv:=.addr r' q) h0 hz (fun _ _ h=>by cases h) (fun x hx hxr=>by
     simp only[refOf,Option.some.injEq] at hx;subst hx;exact⟨hlab r' hne,rfl,(hroot r' hxr).1,(hroot r' hxr).2⟩)
  have e:Go.PV.frz r σ s=killD r (σ s):=by rw[hσ];simp[hsr]
  rw[e];have whole:refOf (σ s)≠some r->RelS P (Zof w0 A (frzL r L) w) (frzL r L) w (fun x=>a.tmps.getD x undef) (Go.PV.frz r σ) s (a.tmps.getD s undef) (σ s):=fun hne =>
   h0.keep hz (fun b q _ hb=>hlab s hsr b q hb) fun x hx hxr=>⟨hlab x (fun h=>hne (h▸hx)),rfl,(hroot x hxr).1,(hroot x hxr).2⟩
  cases hs:σ s with
  | ref r' q n =>
   by_cases hr':r'=r
   ·subst hr'
    simp only[killD,if_true];by_cases hq:q=[(0,0)]
    ·rw[if_pos hq]
     rw[hs] at h0;obtain⟨h1,h2⟩:=h0;refine⟨(hroot r' h1).1,?_⟩
     rcases h2 with⟨h3,h4,h5⟩ | ⟨q0,i,o,b,arr,ee,h3,hbx,h4,h5,h6⟩
     ·exact .inl ⟨by rw[(hroot r' h1).2];exact h3,h4,h5⟩
     subst hq;have hq0:q0=[]:=by
      have:=congrArg List.length h3
      simp at this
      exact this
     subst hq0;exact .inr ⟨[],i,o,b,arr,ee,h3,fun h=>by rw[(hroot r' h1).2];exact hbx h,hlab0 b r' h4,h5,h6⟩
    rw[if_neg hq];trivial
   simp only[killD,if_neg hr'];have:=whole (by rw[hs];simp[refOf,hr'])
   rwa [hs] at this
  | addr r' q =>
   by_cases hr':r'=r
   ·subst hr'
    simp only[killD,if_true];split
    ·rename_i x
     rw[hs] at h0;obtain⟨h1,q0,i,o,b,arr,ee,h3,hbx,h4,h5,h6⟩:=h0;have hq0:q0=[]:=by
      have:=congrArg List.length h3
      simp at this
      exact this
     subst hq0;exact⟨(hroot r' h1).1,[],i,o,b,arr,ee,h3,fun h=>by rw[(hroot r' h1).2];exact hbx h,hlab0 b r' h4,h5,h6⟩
    trivial
   simp only[killD,if_neg hr'];have:=whole (by rw[hs];simp[refOf,hr'])
   rwa [hs] at this
  | _ =>
   have:=whole (by rw[hs];simp[refOf])
   rw[hs] at this;exact this
theorem yfv1 {r x:Nat} {σ:St} (h:isTup (σ x)=false):isTup (frz r σ x)=false:=by
 unfold frz
 split
 ·exact h
 by_cases hx:x=r
 ·simp only[if_pos hx];cases hs:σ x <;> simp_all [frzSV,isTup]
 simp only[if_neg hx]
 cases hs:σ x with
 | ref r' q n=>simp only[killD];split <;> (try split) <;> rfl
 | addr r' q=>simp only[killD];split <;> (try split) <;> rfl
 | tup l=>rw[hs] at h;exact h
 | _=>rfl
theorem ycz {M:Nat} {σ:St} {a:Act} {w:World} {L:Lab} (hR:Rel P N M w0 A I σ a w L):∀ (R:List Nat),(∀ r∈R,isTup (σ r)=false) ->
  ∃ L',Rel P N M w0 A I (frzAll R σ) a w L'/\(∀ b,Zof w0 A L w b->Zof w0 A L' w b)/\(∀ r∈R,∀ q b,q≠[]->L b=some (r,q)->Zof w0 A L' w b) /\
  (∀ s,s∉R->∀ b q,L b=some (s,q)->L' b=some (s,q))/\(∀ b l,L' b=some l->L b=some l)
 | [],_=>⟨L,hR,fun _ h=>h,fun r hr=>(by cases hr),fun _ _ _ _ h=>h,fun _ _ h=>h⟩
 | r::R,ht=>by
  obtain⟨L1,h1,h2,h3,h7,h8⟩:=hR.frz r;have hno:=ht r (by simp)
  -- what is labelled for another stays labelled or is frozen
  obtain⟨L2,h4,h5,h6,h9,h10⟩:=ycz h1 R (fun x hx=>yfv1 (ht x (by simp[hx])))
  refine⟨L2,h4,fun b h=>h5 b (h2 b h),fun x hx q b hq hb=>?_,fun s hs b q hb=>h9 s (fun h=>hs (by simp[h])) b q (h7 s b q (fun h=>hs (by simp[h])) hb),fun b l h=>h8 b l (h10 b l h)⟩
  rcases List.mem_cons.1 hx with rfl | hx'
  ·exact h5 b (h3 hno q b hq hb)
  by_cases hxr:x=r
  ·subst hxr;exact h5 b (h3 hno q b hq hb)
  exact h6 x hx' q b hq (h7 x b q hxr hb)
theorem Rep.move_own {Z Z':Nat->Prop} {L L':Lab} {w w':World} {s s':Nat} {p:Path} {v:Value} {c:C} (h:Rep P Z L w s p v c) :
  ∀ (p':Path),wnC c=true->(∀ b q,L b=some (s,p++q)->L' b=some (s',p'++q)/\w'.heap[b]?=w.heap[b]?)->Rep P Z' L' w' s' p' v c:=by
 induction h with
 | frz h =>
  intro p' hc _
  cases h with
  | raw h=>exact .frz (.raw h)
  | nil=>simp[wnC] at hc
  | sl=>simp[wnC] at hc
  | fn=>simp[wnC] at hc
  | pt=>simp[wnC] at hc
  | dead=>simp[wnC] at hc
  | bp h=>exact .frz (.bp h)
  | er h=>exact .frz (.er h)
 | onil=>exact fun _ _ _=>.onil
 | @own p g cap arr e rows hl hg hn hm ha hsz hr ih =>
  intro p' hc hL
  have h0:=hL g [] (by simpa using hl)
  simp only[List.append_nil] at h0;have hall:∀ (l:List (List C)),wnL l=true->∀ row∈l,wnR row=true:=by
   intro l;induction l with
   | nil=>simp
   | cons r l ih=>intro h row hrow;simp[wnL] at h;rcases List.mem_cons.1 hrow with rfl | h';exact h.1;exact ih h.2 row h'
  have hall2:∀ (l:List C),wnR l=true->∀ c∈l,wnC c=true:=by
   intro l;induction l with
   | nil=>simp
   | cons r l ih=>intro h row hrow;simp[wnR] at h;rcases List.mem_cons.1 hrow with rfl | h';exact h.1;exact ih h.2 row h'
  simp[wnC] at hc
  refine .own h0.1 (h0.2.trans hg) hn hm ha hsz fun i row o c h1 h2=>?_
  refine ih i row o c h1 h2 (p'++[(i,o)]) (hall2 _ (hall _ hc _ (List.mem_of_getElem? h1)) _ (List.mem_of_getElem? h2)) fun b q hb=>?_
  have:=hL b ((i,o)::q) (by simpa using hb)
  simpa using this
theorem yzh1 {l:List C} (h:wnR l=true) {c:C} (hc:c∈l):wnC c=true:=by
 induction l with
 | nil=>cases hc
 | cons r l ih=>simp[wnR] at h;rcases List.mem_cons.1 hc with rfl | h';exact h.1;exact ih h.2 h'
theorem ygv1 {σ:St} {a:Act} {w:World} {L:Lab} (hR:Rel P N N w0 A I σ a w L) {s r k:Nat} {q:Path} {tv:Value} {cs:List C}
  (h:RelS P (Zof w0 A L w) L w (tmOf a) σ s tv (.ref r q (some k))) (hg:getRow (rows1 (σ r)) q=some cs) (hk:k<=cs.length) :
  VShape true tv k/\∀ (j:Nat) (c:C),(cs.take k)[j]?=some c->∃ p,p≠[]/\Rep P (Zof w0 A L w) L w r p (tv.cells.getD j undef) c:=by
 obtain⟨hroot,h⟩:=h
 rcases yct (σ r) with h0 | ⟨cs0,h0⟩
 ·rw[h0] at hg
  cases q with
  | nil=>simp[getRow] at hg
  | cons y q=>cases q <;> (obtain⟨y1,y2⟩:=y;simp[getRow] at hg)
 obtain⟨rd,hkids,hv,hbx⟩:=yzy hR h0
 rw[h0] at hg
 rcases h with⟨hnb,rfl,h3⟩ | ⟨q0,i,o,b,arr,e,rfl,hb,hl,hh,h3⟩
 ·obtain⟨row,h1,h2⟩:=yyi hg
  simp at h1
  subst h1;simp at h2
  subst h2;obtain⟨h4,h5⟩:=h3;refine⟨h5,fun j c hj=>?_⟩
  obtain⟨hjk,hj'⟩:=yho hj;have:=hkids 0 cs 0 c
  have h6:=hkids 0 cs j c rfl hj'
  rw[(hv hnb).2 j (by omega)] at h6;rw[h4];exact⟨_,by simp,h6⟩
 simp only at h3
 have fin:∀ {rows':List (List C)} {row:List C},NodeB P (Zof w0 A L w) L w r q0 b arr e rows'->rows'[i]?=some row->cs=row.drop o ->
   VShape true tv k/\∀ (j:Nat) (c:C),(cs.take k)[j]?=some c->∃ p,p≠[]/\Rep P (Zof w0 A L w) L w r p (tv.cells.getD j undef) c:=by
  intro rows' row hn h1 h2
  subst h2;have hin:∀ j,j<k->i*esz P e+(o+j)<arr.size:=fun j hj=>hn.inb i row (o+j) h1 (by simp at hk;omega)
  have hsz:k=0\/i*esz P e+o+k<=arr.size:=by
   rcases Nat.eq_zero_or_pos k with h | h
   ·exact .inl h
   right;have:=hin (k-1) (by omega);omega
  subst h3;refine⟨⟨_,rfl,?_⟩,fun j c hj=>?_⟩
  ·simp;omega
  obtain⟨hjk,hj'⟩:=yho hj;have:=(hn.cell h1 (yuw hj')).2
  refine⟨q0++[(i,o+j)],by simp,?_⟩
  have e1:(Value.agg (arr.extract (i*esz P e+o) (i*esz P e+o+k))).cells.getD j undef=arr.getD (i*esz P e+(o+j)) undef:=by
   have h4:=hin j hjk;simp only[Value.cells,Array.getD_eq_getD_getElem?];rw[Array.getElem?_extract];rw[if_pos (by omega),Nat.add_assoc]
  rw[e1];exact this
 by_cases hq:q0=[]
 ·subst hq
  obtain⟨b',arr',e',hn,_,_⟩:=hbx (hb rfl)
  obtain rfl:=hR.inj _ _ _ hl hn.lab
  rw[hn.heap] at hh;simp at hh
  obtain⟨rfl,rfl⟩:=hh;obtain⟨row,h1,h2⟩:=yyi hg;exact fin hn h1 h2
 obtain⟨b',arr',e',rows',row,hn,h1,h2⟩:=yfq q0 _ [] rd hkids hq hg
 simp only[List.nil_append] at hn
 obtain rfl:=hR.inj _ _ _ hl hn.lab
 rw[hn.heap] at hh
 simp at hh
 obtain⟨rfl,rfl⟩:=hh
 exact fin hn h1 h2
def Reads (w0:World) (A:Nat->Prop) (L:Lab) (w:World) (R:List Nat):Nat->Prop:=fun b=>Zof w0 A L w b\/∃ r∈R,∃ q,q≠[]/\L b=some (r,q)
def ArgV (Z:Nat->Prop) (w:World) (v:Value):Arg->Prop
 | .v x=>v=x
 | .d g cs=>FrzV Z w g v cs
 | .ptr _=>False
theorem yio1 {Z:Nat->Prop} {w:World} {g:Bool} {v:Value} {cs:List C} (h:FrzV Z w g v cs):ArgV Z w v (mkA g cs):=by
 unfold mkA
 cases hr:raws cs with
 | none=>exact h
 | some vs =>
  simp only[];show v=mkV g vs
  have hcs:=ynz hr;subst hcs;obtain⟨h1,h2⟩:=h;simp only[List.length_map] at h1;have hj:∀ j x,vs[j]?=some x->v.cells.getD j undef=x:=fun j x hx=>(h2 j (.raw x) (by simp[hx])).raw_eq
  unfold VShape at h1;cases g with
  | true =>
   simp only[if_true] at h1;obtain⟨arr,rfl,hs⟩:=h1;simp only[mkV,if_true];congr 1
   apply Array.ext'
   apply List.ext_getElem?
   intro j;simp only[Value.cells] at hj;cases hx:vs[j]? with
   | none=>have:=List.getElem?_eq_none_iff.1 hx;simp;omega
   | some x =>
    have hlt:=(List.getElem?_eq_some_iff.1 hx).1
    have:=hj j x hx
    rw[Array.getD_eq_getD_getElem?,Array.getElem?_eq_getElem (by omega)] at this;simp at this
    simp[hx,show j<arr.size by omega,this]
  | false =>
   simp only[Bool.false_eq_true,if_false] at h1;match vs,h1.2 with
   | [x],_ =>
    have:=hj 0 x rfl
    rw[h1.1] at this;simpa [mkV] using this
theorem yqk1 {rt:Nat->SV} {r:Nat} {q:Path} {arg:Arg} (h:toArg rt (.addr r q)=some arg):∃ cs,arg=.ptr cs:=by
 rcases q with _ | ⟨⟨i,o⟩,_ | ⟨y,q⟩⟩
 ·simp[toArg] at h
 ·cases i <;> cases o <;> simp[toArg] at h
  cases hr:rt r <;> simp[hr] at h
  exact⟨_,h.symm⟩
 simp[toArg] at h
theorem yus1 {σ:St} {a:Act} {w:World} {L:Lab} (hR:Rel P N N w0 A I σ a w L) {R:List Nat} {rt:Nat->SV} (hrt:∀ r,rt r=σ r\/rt r=.u) {s:Nat} {tv:Value} {sv:SV} {arg:Arg}
  (h:RelS P (Zof w0 A L w) L w (tmOf a) σ s tv sv) (ha:toArg rt sv=some arg) (hp:sOp.notPtr arg=true) (hr:∀ r∈rootOf sv,r∈R) :
  ArgV (Reads w0 A L w R) w tv arg/\(∀ r∈rootOf sv,isTup (σ r)=false):=by
 have hz:∀ b,Zof w0 A L w b->Reads w0 A L w R b/\w.heap[b]?=w.heap[b]?:=fun b h=>⟨.inl h,rfl⟩
 cases sv with
 | p v=>simp[toArg] at ha;subst ha;exact⟨h,fun r hr=>by cases hr⟩
 | d g cs=>simp[toArg] at ha;subst ha;exact⟨FrzV.mono h hz,fun r hr=>by cases hr⟩
 | fadr cs=>simp[toArg] at ha;subst ha;exact⟨FrzV.mono (yrq1 h) hz,fun r hr=>by cases hr⟩
 | ref r q n =>
  simp only[toArg] at ha;have hrR:r∈R:=hr r (by simp[rootOf])
  have hfz:∀ {p:Path} {v:Value} {c:C},p≠[]->Rep P (Zof w0 A L w) L w r p v c->Frz (Reads w0 A L w R) w v (era c):=fun {p v c} hp hrep =>
   hrep.freeze hz fun b q hb=>⟨.inr ⟨r,hrR,_,by simp[hp],hb⟩,rfl⟩
  split at ha
  ·rename_i g cs hd
   obtain rfl:=Option.some.inj ha
   simp only[deref] at hd;have hntup:∀ cs,getRow (rows1 (rt r)) q=some cs->rt r=σ r/\isTup (σ r)=false:=by
    intro cs hg;rcases hrt r with e | e
    ·refine⟨e,?_⟩
     rw[e] at hg;cases hs:σ r with
     | tup l =>
      rw[hs] at hg;cases q with
      | nil=>simp[getRow] at hg
      | cons y q=>cases q <;> (obtain⟨y1,y2⟩:=y;simp[getRow,rows1] at hg)
     | _=>rfl
    rw[e] at hg;cases q with
    | nil=>simp[getRow] at hg
    | cons y q=>cases q <;> (obtain⟨y1,y2⟩:=y;simp[getRow,rows1] at hg)
   split at hd
   ·rename_i c cs' hg
    simp at hd
    obtain⟨rfl,rfl⟩:=hd;obtain⟨e,hnt⟩:=hntup _ hg;rw[e] at hg;have hrep:=ywh1 hR h hg;refine⟨yio1 ⟨⟨ync hrep.oneCell,by simp[eraR]⟩,fun j c' hj=>?_⟩,fun x hx=>by simp[rootOf] at hx;subst hx;exact hnt⟩
    obtain⟨c0,h1,rfl⟩:=ycu hj;cases j with
    | succ j=>simp at h1
    | zero =>
     simp at h1
     subst h1;rw[ync hrep.oneCell];have hq:q≠[]:=by rintro rfl;simp[getRow] at hg
     exact hfz hq hrep
   ·rename_i cs' k hg
    split at hd
    ·rename_i hk
     simp at hd
     obtain⟨rfl,rfl⟩:=hd;obtain⟨e,hnt⟩:=hntup _ hg;rw[e] at hg;obtain⟨h1,h2⟩:=ygv1 hR h hg hk;refine⟨yio1 ⟨by rw[yam,List.length_map,List.length_take,Nat.min_eq_left hk];exact h1,fun j c' hj=>?_⟩,fun x hx=>by simp[rootOf] at hx;subst hx;exact hnt⟩
     obtain⟨c0,h3,rfl⟩:=ycu hj;obtain⟨p,hp,hrep⟩:=h2 j c0 h3;exact hfz hp hrep
    cases hd
   cases hd
  cases ha
 | addr r q =>
  obtain⟨cs,rfl⟩:=yqk1 ha;simp[sOp.notPtr] at hp
 | _=>simp[toArg] at ha
def ArgsV (Z:Nat->Prop) (w:World):List Value->List Arg->Prop
 | [],[]=>True
 | v::vs,x::axs=>ArgV Z w v x/\ArgsV Z w vs axs
 | _,_=>False
theorem ArgsV.append {Z:Nat->Prop} {w:World}:∀ {vs vs':List Value} {axs as':List Arg},ArgsV Z w vs axs->ArgsV Z w vs' as'->ArgsV Z w (vs++vs') (axs++as')
 | [],_,[],_,_,h=>h
 | _::_,_,_::_,_,h,h'=>⟨h.1,ArgsV.append h.2 h'⟩
 | [],_,_::_,_,h,_=>h.elim
 | _::_,_,[],_,h,_=>h.elim
theorem ArgsV.rep {Z:Nat->Prop} {w:World}:∀ {vs:List Value} {axs:List Arg},ArgsV Z w vs axs->ArgsRep Z w vs axs
 | [],[],_=>trivial
 | v::vs,.v x::axs,h=>⟨h.1,ArgsV.rep h.2⟩
 | v::vs,.d g cs::axs,h=>⟨h.1,ArgsV.rep h.2⟩
 | v::vs,.ptr cs::axs,h=>h.1.elim
 | [],_::_,h=>h.elim
 | _::_,[],h=>h.elim
theorem ydz {σ:St} {a:Act} {w:World} {L:Lab} (hR:Rel P N N w0 A I σ a w L) {R:List Nat} {rt:Nat->SV} (hrt:∀ r,rt r=σ r\/rt r=.u):∀ (l:List Operand) (axs:List Arg),
  toArgs rt (l.map (evS σ))=some axs->sOp.noPtr axs=true->(∀ r∈(l.map (evS σ)).flatMap rootOf,r∈R) ->
  ArgsV (Reads w0 A L w R) w (l.map a.eval) axs/\(∀ r∈(l.map (evS σ)).flatMap rootOf,isTup (σ r)=false)
 | [],axs,h,_,_=>by simp[toArgs] at h;subst h;simp[ArgsV]
 | x::l,axs,h,hp,hr=>by
  simp only[List.map_cons,toArgs] at h;split at h
  ·rename_i ar as' ha has
   obtain rfl:=Option.some.inj h
   simp[sOp.noPtr] at hp
   have hx:noTup (evS σ x)=true:=by cases hx:evS σ x <;> simp_all [noTup,toArg]
   have h1:=yus1 (R:=R) hR hrt (ysh hR 0 x hx) ha hp.1 (fun r hr'=>hr r (by simp[hr']))
   have h2:=ydz hR hrt l as' has (by simp[sOp.noPtr];exact hp.2) (fun r hr'=>hr r (by simp at hr' ⊢;exact .inr hr'))
   refine⟨⟨h1.1,h2.1⟩,fun r hr'=>?_⟩
   simp only[List.map_cons,List.flatMap_cons,List.mem_append] at hr'
   rcases hr' with h | h
   ·exact h1.2 r h
   exact h2.2 r h
  cases h
theorem yrk1 {σ:St} {a:Act} {w:World} {L:Lab} (hR:Rel P N N w0 A I σ a w L) {R:List Nat} {x:Operand} {f:FuncId} {caps:List Arg} (h:sOp.fnOf (evS σ x)=some (f,caps)) :
  ∃ vs,a.eval x=.func (.func f) #[] vs/\ArgsV (Reads w0 A L w R) w vs.toList caps:=by
 have hz:∀ b,Zof w0 A L w b->Reads w0 A L w R b/\w.heap[b]?=w.heap[b]?:=fun b h=>⟨.inl h,rfl⟩
 unfold sOp.fnOf at h
 split at h
 ·rename_i f' fs cs hx
  split at h
  ·rename_i hsz
   simp at h
   obtain⟨rfl,rfl⟩:=h;refine⟨#[],?_,trivial⟩
   rw[yjk1 hR hx,Array.eq_empty_of_size_eq_zero hsz.1,Array.eq_empty_of_size_eq_zero hsz.2]
  cases h
 ·rename_i f' caps' hx
  simp at h
  obtain⟨rfl,rfl⟩:=h;have hev:=ysh hR 0 x (by rw[hx];rfl)
  rw[hx] at hev;have hf:=hev.2 0 _ rfl;have hc:(a.eval x).cells=#[a.eval x]:=hev.1.1
  rw[hc] at hf;simp at hf
  generalize a.eval x=tv at hf
  cases hf with
  | @fn _ _ vals hn hs hr =>
   refine⟨vals,rfl,?_⟩
   have key:∀ (caps:List (Bool×List C)) (l:List Value),l.length=caps.length->(∀ (i:Nat) (g:Bool) (cs:List C),caps[i]?=some (g,cs)->FrzV (Zof w0 A L w) w g ((l[i]?).getD undef) cs) ->
     ArgsV (Reads w0 A L w R) w l (caps.map fun (g,cs)=>mkA g cs):=by
    intro caps;induction caps with
    | nil=>intro l hl _;cases l with | nil=>trivial | cons _ _=>simp at hl
    | cons y caps ih =>
     intro l hl hh;cases l with
     | nil=>simp at hl
     | cons v l =>
      obtain⟨g,cs⟩:=y;refine⟨yio1 (FrzV.mono (by simpa using hh 0 g cs rfl) hz),ih l (by simpa using hl) fun i g cs hi=>by simpa using hh (i+1) g cs (by simpa using hi)⟩
   refine key caps' vals.toList (by simpa using hn) fun i g cs hi=>?_
   have e:(vals.toList[i]?).getD undef=vals.getD i undef:=by simp
   rw[e];exact⟨hs i g cs hi,fun j c hj=>hr i g cs j c hi hj⟩
 cases h
end Go.PV

/-
 A walk over pure values: calls are sound;operations that only yield are sound.
 Conditions: none.
-/
namespace Go.PV
variable {P:Program} {N:Nat} {w0:World} {A:Nat->Prop} {I:Bor}
def labC (L:Lab) (w:World) (N:Nat) (Lr:Lab):Lab:=fun b=>if b<w.heap.size then L b else match Lr b with
 | some (s,q)=>if s=0 then some (N,q) else none
 | none=>none
theorem ysk1 {Z Z':Nat->Prop} {L L':Lab} {w:World} {s s' i:Nat} {v:Value} {r:RV} {tm:Nat->Value} {σ:St} {B:Nat} (h:RVat P Z L w s i v r)
  (hz:simpleR r=true\/∀ b,Z b->Z' b) (hl:∀ b q,L b=some (s,(i,B)::q)->True) (hl':∀ b j q,L b=some (s,(i,j)::q)->L' b=some (s',(i,j)::q)):RVat P Z' L' w s' i v r:=by
 cases r with
 | p x=>exact h
 | d g cs =>
  rcases hz with hz | hz
  ·simp[simpleR] at hz
  exact FrzV.mono h fun b hb=>⟨hz b hb,rfl⟩
 | ov g cs =>
  refine⟨h.1,fun j c hj=>?_⟩
  rcases hz with hz | hz
  ·exact(h.2 j c hj).move_own [(i,j)] (yzh1 hz (List.mem_of_getElem? hj)) fun b q hb=>⟨by simpa using hl' b j q (by simpa using hb),rfl⟩
  exact(h.2 j c hj).move [(i,j)] (fun b hb=>⟨hz b hb,rfl⟩) fun b q hb=>⟨by simpa using hl' b j q (by simpa using hb),rfl⟩
theorem ytk1 {Z:Nat->Prop} {L:Lab} {w:World} {tm:Nat->Value} {σ:St} {s:Nat} {v:Value} {l:List RV} (h:ResAt P Z L w s v l):RelS P Z L w tm σ s v (resSV l):=by
 have tup:(∃ arr:Array Value,v=.tuple arr/\arr.size=l.length/\∀ j r,l[j]?=some r->RVat P Z L w s j (arr.getD j undef) r)->RelS P Z L w tm σ s v (.tup (l.map RV.sv)):=by
  rintro⟨arr,h1,h2,h3⟩
  refine⟨arr,h1,by simpa using h2,fun j y hj=>?_⟩
  rw[List.getElem?_map] at hj;cases hr:l[j]? with
  | none=>simp[hr] at hj
  | some r =>
   simp[hr] at hj
   subst hj;have:=h3 j r hr
   cases r <;> exact this
 match l,h,tup with
 | [r],h,_=>cases r <;> exact h
 | [],h,tup=>exact tup h
 | _::_::_,h,tup=>exact tup h
theorem ysq1 {σ:St} {a:Act} {w:World} {L:Lab} (hR:Rel P N N w0 A I σ a w L) {rt:Nat->SV} (hrt:∀ r,rt r=σ r\/rt r=.u) {fn:Operand} {args:List Operand} {f:FuncId} {caps axs:List Arg} {res:Res}
  (hf:sOp.fnOf (evS σ fn)=some (f,caps)) (ha:toArgs rt (args.map (evS σ))=some axs) (hp:sOp.noPtr axs=true) (hm:Meets P f (axs++caps) res) (ho:res.outs=[]) {fz:Bool} (hfz:fz=true\/res.vals.all simpleR=true) :
  ∃ vs,a.eval fn=.func (.func f) #[] vs/\Calls P f (args.toArray.map a.eval++vs) w fun e w'=>∃ v L1,e=.returned v /\
   Rel P N (N+1) w0 A I (if fz then frzAll ((args.map (evS σ)).flatMap rootOf) σ else σ) a w' L1 /\
   RelS P (Zof w0 A L1 w') L1 w' (tmOf a) (if fz then frzAll ((args.map (evS σ)).flatMap rootOf) σ else σ) N v (resSV res.vals):=by
 let R:=(args.map (evS σ)).flatMap rootOf
 obtain⟨vs,hv,hcaps⟩:=yrk1 (R:=R) hR hf
 obtain⟨hargs,hnt⟩:=ydz (R:=R) hR hrt args axs ha hp (fun r h=>h)
 refine⟨vs,hv,?_⟩
 have hlow:∀ b,Reads w0 A L w R b->b<w.heap.size:=by
  rintro b (h | ⟨r,_,q,_,h⟩)
  ·exact h.2.1
  exact(hR.lab b _ h).1
 have hc:=hm.2 w (Reads w0 A L w R) (args.toArray.map a.eval++vs) ⟨hlow,(ytw hR).mono fun b h=>⟨.inl h,rfl⟩⟩ (by
  have:=(hargs.append hcaps).rep
  simpa using this)
 refine hc.mono ?_
 rintro e w' ⟨v,Lr,rfl,hpost⟩
 -- the state that the call leaves behind
 have hst:∃ Lf,Rel P N N w0 A I (if fz then frzAll R σ else σ) a w Lf/\(fz=true->∀ b,Reads w0 A L w R b->Zof w0 A Lf w b):=by
  cases fz with
  | false=>exact⟨L,hR,fun h=>by cases h⟩
  | true =>
   obtain⟨L',h1,h2,h3,_,_⟩:=ycz hR R hnt;refine⟨L',h1,fun _ b hb=>?_⟩
   rcases hb with h | ⟨r,hr,q,hq,h⟩
   ·exact h2 b h
   exact h3 r hr q b hq h
 obtain⟨Lf,hRf,hzf⟩:=hst
 have hG:Grow N Lf w (labC Lf w N Lr) w':=by
  refine⟨hpost.ev.os,hpost.ev.tape,hpost.ev.output,hpost.ev.size,fun b h=>hpost.ev.block b h (yhe1 b),fun b h=>by simp[labC,h],fun b h l hl=>?_,?_⟩
  ·simp only[labC,if_neg (by omega:¬ b<w.heap.size)] at hl
   split at hl
   ·rename_i s q hb
    split at hl
    ·obtain rfl:=Option.some.inj hl
     exact⟨rfl,(hpost.lab b _ hb).1⟩
    cases hl
   cases hl
  intro b b' l h1 h2
  have hN:∀ b l,b<w.heap.size->Lf b=some l->l.1<N:=fun b l _ h=>(hRf.lab b l h).2.2
  simp only[labC] at h1 h2;split at h1 <;> split at h2
  ·exact hRf.inj _ _ _ h1 h2
  ·rename_i hb _
   have:=hN b l hb h1
   split at h2
   ·split at h2
    ·obtain rfl:=Option.some.inj h2;simp at this
    cases h2
   cases h2
  ·rename_i hb
   have:=hN b' l hb h2
   split at h1
   ·split at h1
    ·obtain rfl:=Option.some.inj h1;simp at this
    cases h1
   cases h1
  split at h1
  ·rename_i s q hb
   split at h1
   ·obtain rfl:=Option.some.inj h1
    rename_i hs;split at h2
    ·rename_i s' q' hb'
     split at h2
     ·rename_i hs'
      simp at h2
      subst h2 hs hs'
      exact hpost.inj _ _ _ hb hb'
     cases h2
    cases h2
   cases h1
  cases h1
 refine⟨v,_,rfl,hRf.grow hG,ytk1 ?_⟩
 have hmove:∀ i v r,r∈res.vals->RVat P (fun b=>Lr b=none/\b<w'.heap.size/\(Reads w0 A L w R b\/w.heap.size<=b)) Lr w' 0 i v r ->
   RVat P (Zof w0 A (labC Lf w N Lr) w') (labC Lf w N Lr) w' N i v r:=by
  intro i v r hr h;refine ysk1 (B:=0) (tm:=tmOf a) (σ:=σ) h ?_ (fun _ _ _=>trivial) fun b j q hb=>?_
  ·rcases hfz with hfz | hall
   ·right
    rintro b ⟨h1,h2,h3⟩
    have hsz:=hR.ev.size;rcases Nat.lt_or_ge b w.heap.size with hlt | hge
    ·rcases h3 with h3 | h3
     ·have:=hzf hfz b h3
      exact⟨by simp[labC,hlt,this.1],h2,this.2.2⟩
     omega
    exact⟨by simp[labC,show ¬ b<w.heap.size by omega,h1],h2,.inr (by omega)⟩
   exact .inl (List.all_eq_true.1 hall r hr)
  have hge:w.heap.size<=b:=(hpost.lab b _ hb).2
  simp[labC,show ¬ b<w.heap.size by omega,hb]
 have hval:=hpost.val
 match hl:res.vals,hval with
 | [r],hval=>exact hmove 0 v r (by rw[hl];simp) hval
 | [],hval=>exact hval.imp fun arr h=>⟨h.1,h.2.1,fun j r hj=>by simp at hj⟩
 | r1::r2::l,hval =>
  exact hval.imp fun arr h=>⟨h.1,h.2.1,fun j r hj=>hmove j _ r (by rw[hl];exact List.mem_of_getElem? hj) (h.2.2 j r hj)⟩
theorem yjo1 {a:Act} {o:Oper} {w:World} {fn:Operand} {args:Array Operand} {ts:Array TypeId} {f:FuncId} {vs:Array Value} (ho:o.op=.call { callee:=.value fn,args:=args,argTypes:=ts })
  (hf:a.eval fn=.func (.func f) #[] vs) (hc:callable P f=true):(execOp a.eval o).run P w=.ok (.enter f (args.map a.eval++vs)) w:=by
 unfold callable at hc
 cases hfn:P.funcs[f]? with
 | none=>simp[hfn] at hc
 | some fd =>
  simp[hfn] at hc
  have h1:fd.body≠none:=by intro h;simp[h] at hc
  simp[execOp,ho,resolve,hf,Deferred.ofValue,invoke,callFunc,hfn,h1,hc.2]
theorem yoz {a:Act} {o:Oper} {w:World} {next:Act->World->Prop} {Q:Exit->Act->World->Prop} {fn:Operand} {args:Array Operand} {ts:Array TypeId} {f:FuncId} {vs:Array Value}
  (ho:o.op=.call { callee:=.value fn,args:=args,argTypes:=ts }) (hf:a.eval fn=.func (.func f) #[] vs) (hc:callable P f=true)
  (h:Calls P f (args.map a.eval++vs) w fun e w'=>∃ v,e=.returned v/\next (a.put o.dst v) w'):o.wp P a w next Q:=by
 unfold Oper.wp
 rw[yjo1 ho hf hc]
 simp only[Oper.upon]
 refine h.mono ?_
 rintro e w' ⟨v,rfl,hn⟩
 exact hn
theorem yyy1 {w:World} {op:BinOp} {t:TypeId} {x y:Operand} {k:IntKind} {a b:Int} {F:Prop} {K:SV->Prop} (h:intK op k a b F K) :
  F\/∃ v,K (.p v)/\(do eqGuard op t x y (.int k a) (.int k b);binOp op t (.int k a) (.int k b):Sem Value).run P w=.ok v w:=by
 cases op <;> first
  | exact .inl h
  | exact .inr ⟨_,h,by simp[eqGuard,binOp,Op.intArith,Op.intCmp]⟩
  | exact .inr ⟨_,h.2,by simp[eqGuard,binOp,Op.intDiv,h.1]⟩
theorem yhv1 {w:World} {op:BinOp} {t:TypeId} {x y:Operand} {a b:Bool} {F:Prop} {K:SV->Prop} (h:boolK P op t a b F K) :
  F\/∃ v,K (.p v)/\(do eqGuard op t x y (.bool a) (.bool b);binOp op t (.bool a) (.bool b):Sem Value).run P w=.ok v w:=by
 have he:P.underlying t=some .bool->(Op.equal t (.bool a) (.bool b)).run P w=.ok (a==b) w:=fun h0=>by
  show(Op.equalIn (9999+1) t (.bool a) (.bool b)).run P w=_
  unfold Op.equalIn;rw[Sem.run_bind,run_underlying h0];rfl
 cases op <;> first
  | exact .inl h
  | exact .inr ⟨_,h.2,by simp[eqGuard,binOp,he h.1]⟩
theorem yzy1 {w:World} {op:BinOp} {t:TypeId} {x y:Operand} {a b:ByteArray} {F:Prop} {K:SV->Prop} (h:strK op a b F K) :
  F\/∃ v,K (.p v)/\(do eqGuard op t x y (.string a) (.string b);binOp op t (.string a) (.string b):Sem Value).run P w=.ok v w:=by
 cases op with
 | eql=>exact .inr ⟨_,h,by simp[eqGuard,binOp,Op.stringOp]⟩
 | neq=>exact .inr ⟨_,h,by simp[eqGuard,binOp,Op.stringOp]⟩
 | add =>
  have h1:¬ (((a.size+b.size:Nat):Int)>IntKind.i64.max):=by
   have:=h.1
   simp[IntKind.max,IntKind.signed,IntKind.bits]
   omega
  refine .inr ⟨_,h.2,?_⟩
  unfold eqGuard binOp Op.stringOp
  simp only[h1];simp
 | _=>exact .inl h
theorem yaz1 {w:World} {op:BinOp} {t:TypeId} {x:Operand} {c:Value} {v:Value} {b:Bool} {F:Prop} {K:SV->Prop} (hv:erV b v) (h:errK P op t b F K) :
  F\/∃ r,K (.p r)/\(do eqGuard op t x (.const c) v .nilIface;binOp op t v .nilIface:Sem Value).run P w=.ok r w:=by
 have hg:eqGuard op t x (.const c) v .nilIface=pure ():=by
  unfold erV at hv;split at hv
  ·rw[hv];cases op <;> cases x <;> rfl
  obtain⟨te,pe,rfl⟩:=hv;cases op <;> rfl
 rw[hg]
 unfold errK at h
 cases op with
 | eql =>
  refine .inr ⟨_,h.2,?_⟩
  unfold erV at hv;cases b
  ·obtain⟨te,pe,rfl⟩:=hv
   simp[run_eql_held_nil w t te pe h.1]
  rw[if_pos rfl] at hv;subst hv;simp[run_eql_nil_nil w t h.1]
 | neq =>
  refine .inr ⟨_,h.2,?_⟩
  unfold erV at hv;cases b
  ·obtain⟨te,pe,rfl⟩:=hv
   simp[run_neq_held_nil w t te pe h.1]
  rw[if_pos rfl] at hv;subst hv;simp[run_neq_nil_nil w t h.1]
 | _=>exact .inl h
theorem ybz1 {w:World} {op:BinOp} {t:TypeId} {x y:Operand} {ev:Operand->SV} {a:Act} (her:∀ z b,ev z=.d false [.er b]->erV b (a.eval z)) (hev:∀ z v,ev z=.p v->a.eval z=v) {F:Prop} {K:SV->Prop} (h:binK P op t (ev x) (evN ev y) F K) :
  F\/∃ v,K (.p v)/\(do eqGuard op t x y (a.eval x) (a.eval y);binOp op t (a.eval x) (a.eval y):Sem Value).run P w=.ok v w:=by
 unfold binK at h
 split at h
 ·rename_i hx hy
  rw[hev _ _ hx,hev _ _ (ypy1 hy)];rcases h with⟨rfl,h⟩ | h
  ·exact yyy1 h
  exact .inl h
 ·rename_i hx hy
  rw[hev _ _ hx,hev _ _ (ypy1 hy)];exact yhv1 h
 ·rename_i hx hy
  rw[hev _ _ hx,hev _ _ (ypy1 hy)];exact yzy1 h
 ·rename_i b hx hy
  obtain⟨c,rfl⟩:=ybv1 hy;rw[hev _ _ (ypy1 hy)];exact yaz1 (her _ _ hx) h
 exact .inl h
end Go.PV

/-
 A walk over pure values: every operation that only yields is sound.
 Conditions: none.
-/
namespace Go.PV
variable {P:Program} {N:Nat} {w0:World} {A:Nat->Prop} {I:Bor}
theorem yiv1 {σ:St} {a:Act} {w:World} {L:Lab} (hR:Rel P N N w0 A I σ a w L) {o:Oper} (hs:∀ cs b,o.op≠.select cs b) {v:Value} (h:PureRun P (evS σ) o v):(execOp a.eval o).run P w=.ok (.value v) w:=by
 obtain⟨ρ,h1,h2⟩:=h
 rw[execOp_congr (ρ':=ρ) o hs fun x hx=>yjk1 hR (h1 x hx)]
 exact h2 w
theorem ycz1 {σ:St} {a:Act} {w:World} {L:Lab} (hR:Rel P N N w0 A I σ a w L) {rt:Nat->SV} (hrt:∀ r,rt r=σ r\/rt r=.u) {t ty:TypeId} {x:Operand} {K:SV->Prop} (h:lenK P rt t (evS σ x) K) :
  ∃ v,K (.p v)/\(Builtin.len_ #[t] ty #[a.eval x]).run P w=.ok v w:=by
 unfold lenK at h
 split at h
 ·rename_i s hx
  rw[yjk1 hR hx];exact⟨_,h.2,by simp[Builtin.len_,run_underlying h.1,goInt]⟩
 obtain⟨o,rows,h1,h2,h3⟩:=h
 have hx:noTup (evS σ x)=true:=by cases hx:evS σ x <;> simp_all [noTup,slOf,deref]
 obtain⟨ad,cap,hv⟩:=yok1 hR hrt (ysh hR 0 x hx) h1
 obtain⟨⟨e,sz⟩,he⟩:=Option.isSome_iff_exists.1 h2
 obtain⟨i,hu,_⟩:=yrk he
 rw[hv]
 exact⟨_,h3,by simp[Builtin.len_,run_underlying hu,goInt]⟩
theorem yvs1 {σ:St} {a:Act} {w:World} {L:Lab} (hR:Rel P N N w0 A I σ a w L) {rt:Nat->SV} (hrt:∀ r,rt r=σ r\/rt r=.u) {s d e:TypeId} {x:Operand} {o:Option TypeId} {b:UInt8} {bs:List UInt8}
  (h:slOf rt (evS σ x)=some (o,(b::bs).map fun c=>[.raw (.int .u8 (c.toNat:Int))])) (hs:P.underlying s=some (.slice e)) (he:P.underlying e=some (.int .u8)) (hd:P.underlying d=some .string) :
  (convert s d (a.eval x)).run P w=.ok (.string ⟨(b::bs).toArray⟩) w:=by
 have hx:noTup (evS σ x)=true:=by cases hx:evS σ x <;> simp_all [noTup,slOf,deref]
 have hev:=ysh hR 0 x hx
 have hget:∀ j (hj:j<(b::bs).length),((b::bs).map fun c=>[C.raw (.int .u8 (c.toNat:Int))])[j]?=some [.raw (.int .u8 (((b::bs)[j]).toNat:Int))]:=fun j hj=>by
  rw[List.getElem?_map,List.getElem?_eq_getElem hj];rfl
 have hlen:((b::bs).map fun c=>[C.raw (.int .u8 (c.toNat:Int))]).length=(b::bs).length:=List.length_map ..
 generalize ((b::bs).map fun c=>[C.raw (.int .u8 (c.toNat:Int))])=rows at h hget hlen
 have key:∃ ad cap,a.eval x=.slice (some ad) (b::bs).length cap/\∀ j (hj:j<(b::bs).length),w.cell? (ad.add j)=some (.int .u8 (((b::bs)[j]).toNat:Int)):=by
  rcases yle1 hR hrt hev h with⟨rfl,hf⟩ | ⟨r,q,e',hxr,rfl,hrep,cs,hgr⟩
  ·generalize a.eval x=tv at hf ⊢
   cases hf with
   | nil=>simp at hlen
   | @sl blk off cap sz rows vs hn hz hsz hc hr =>
    refine⟨⟨blk,off,none⟩,cap,by rw[hlen],fun j hj=>?_⟩
    have h1:=hc j _ 0 _ (hget j hj) rfl
    have h2:=hr j _ 0 _ (hget j hj) rfl
    have hsz1:sz=1:=by have:=hsz _ (List.mem_of_getElem? (hget j hj));simpa using this.symm
    subst hsz1;rw[Addr.add_lit];generalize vs j 0=y at h1 h2
    cases h2
    simpa using h1
  generalize a.eval x=tv at hrep ⊢
  rcases hrep.node with⟨_,h0⟩ | ⟨blk,arr,cap,rfl,h1,h2,h3,h4,hn⟩
  ·rw[h0] at hlen;simp at hlen
  refine⟨⟨blk,0,none⟩,cap,by rw[hlen],fun j hj=>?_⟩
  have h5:=hn.kids j _ 0 _ (hget j hj) rfl
  have hsz1:esz P e'=1:=by have:=h4 _ (List.mem_of_getElem? (hget j hj));simpa using this.symm
  have h6:=hn.inb j _ 0 (hget j hj) (by simp)
  rw[hsz1] at h5 h6
  rw[Addr.add_lit];simp only[Nat.mul_one,Nat.add_zero] at h5 h6;have h7:w.cell? ⟨blk,0+j,none⟩=some (arr.getD j undef):=by simp[World.cell?,hn.heap,h6]
  rw[h7];generalize arr.getD j undef=y at h5
  cases h5 with
  | frz h8=>cases h8;rfl
 obtain⟨ad,cap,h1,h2⟩:=key
 rw[h1]
 exact run_convert_bytes_back w s d e ad cap (b::bs) hs he hd h2
theorem yjg1 {t:TypeId} {k:Nat} (h:fieldOne P t k=true) (arr:Array Value) (hs:arr.size=1) (w:World):(Instr.field t (.agg arr) k).run P w=.ok (arr.getD 0 undef) w:=by
 unfold fieldOne at h
 split at h
 ·rename_i fs hu
  split at h
  ·rename_i f hf
   simp only[Bool.and_eq_true,beq_iff_eq] at h;obtain⟨h1,h2⟩:=h;split at h2
   ·rename_i e hs2
    have hg:arr[0]?=some (arr.getD 0 undef):=by simp[hs]
    have hagg:(isAgg f.type).run P w=.ok false w:=yvh1 hs2 w
    unfold Instr.field;rw[Sem.run_bind,run_underlying hu w];simp only[Result.andThen_ok,hf,asAgg,h1];rw[Sem.run_bind];simp only[Sem.run_pure,Result.andThen_ok];unfold part;rw[Sem.run_bind,hagg]
    simp only[Result.andThen_ok,hg];rfl
   cases h2
  cases h
 cases h
theorem yai1 {σ:St} {a:Act} {w:World} {L:Lab} (hR:Rel P N N w0 A I σ a w L) {rt:Nat->SV} (hrt:∀ r,rt r=σ r\/rt r=.u) {o:Oper} {K:SV->Prop} {next:Act->World->Prop} {Q:Exit->Act->World->Prop}
  (h:sOp P (evS σ) rt o K)
  (hn:∀ v w' L1 sv,K sv->Rel P N (N+1) w0 A I σ a w' L1->RelS P (Zof w0 A L1 w') L1 w' (tmOf a) σ N v sv->next (a.put o.dst v) w'):o.wp P a w next Q:=by
 have hev:∀ z v,evS σ z=.p v->a.eval z=v:=fun z v hz=>yjk1 hR hz
 have same:∀ {v:Value} {sv:SV},(execOp a.eval o).run P w=.ok (.value v) w->K sv->RelS P (Zof w0 A L w) L w (tmOf a) σ N v sv->o.wp P a w next Q :=
  fun {v sv} h1 h2 h3=>yot h1 (hn v w L sv h2 hR.up h3)
 have pureR:(∀ cs b,o.op≠.select cs b)->(∃ v,PureRun P (evS σ) o v/\K (.p v))->o.wp P a w next Q:=fun hs ⟨v,h1,h2⟩=>same (yiv1 hR hs h1) h2 rfl
 have grown:∀ {v:Value} {sv:SV} {w':World} {L1:Lab},(execOp a.eval o).run P w=.ok (.value v) w'->K sv->Rel P N (N+1) w0 A I σ a w' L1->RelS P (Zof w0 A L1 w') L1 w' (tmOf a) σ N v sv->o.wp P a w next Q :=
  fun {v sv w' L1} h1 h2 h3 h4=>yot h1 (hn v w' L1 sv h2 h3 h4)
 cases hop:o.op with
 | move x =>
  simp only[sOp,hop] at h;exact same (by simp[execOp,hop]) h.2 (ysh hR N x h.1)
 | pick c x y =>
  simp only[sOp,hop] at h;obtain⟨t,h1,h2,h3⟩:=h;refine same (v:=if t then a.eval x else a.eval y) ?_ h3 ?_
  ·simp[execOp,hop,hev _ _ h1,asBool]
  cases t
  ·simp at h2 h3 ⊢;exact ysh hR N y h2
  simp at h2 h3 ⊢;exact ysh hR N x h2
 | binOp op t x y t' =>
  simp only[sOp,hop] at h;have her:∀ z b,evS σ z=.d false [.er b]->erV b (a.eval z):=fun z b hz=>by
   have h1:=ysh hR N z (by rw[hz];rfl)
   rw[hz] at h1;obtain⟨h2,h3⟩:=h1;have h4:=h3 0 _ rfl;have h5:(a.eval z).cells=#[a.eval z]:=h2.1
   rw[h5] at h4;exact yvy1 (by simpa using h4)
  rcases ybz1 (w:=w) (a:=a) (x:=x) (y:=y) her hev h with hF | ⟨v,h1,h2⟩
  ·exact pureR (by rw[hop];intro _ _ h;cases h) hF
  refine same (v:=v) ?_ h1 rfl
  simp only[execOp,hop];rw[Sem.run_bind,h2];rfl
 | unOp op t x =>
  cases op with
  | neg =>
   simp only[sOp,hop] at h;obtain⟨k,n,h1,h2⟩:=h;refine same (v:=.int k (k.wrap (0-n))) ?_ h2 rfl
   simp[execOp,hop,hev _ _ h1,Op.unary,Op.intArith]
  | not =>
   simp only[sOp,hop] at h;obtain⟨b,h1,h2⟩:=h;refine same (v:=.bool (!b)) ?_ h2 rfl
   simp[execOp,hop,hev _ _ h1,Op.unary]
  | _=>simp[sOp,hop] at h
 | convert src dst x =>
  simp only[sOp,hop] at h;rcases h with h | ⟨o1,b,bs,e,h1,h2,h3,h4,h5⟩
  ·exact pureR (by rw[hop];intro _ _ h;cases h) h
  refine same (v:=.string ⟨(b::bs).toArray⟩) ?_ h5 rfl
  simp only[execOp,hop];rw[Sem.run_bind,yvs1 hR hrt h1 h2 h3 h4];rfl
 | load t x =>
  simp only[sOp,hop] at h;obtain⟨v,sv,h1,h2,h3⟩:=yev1 hR hrt h;refine same (v:=v) ?_ h2 (h3 N)
  simp[execOp,hop,h1]
 | fieldAddr t x k =>
  simp only[sOp,hop] at h;obtain⟨off,h1,h2⟩:=h;obtain⟨v,sv,h3,h4,h5⟩:=yxy1 (K:=K) hR h1 h2
  refine same (v:=v) ?_ h4 (h5 N)
  simp[execOp,hop,h3]
 | nilCheck x =>
  simp only[sOp,hop] at h;have hp:∀ sv,evS σ x=sv->noTup sv=true->(∃ ad:Addr,a.eval x=.pointer (some ad))->K sv->o.wp P a w next Q:=fun sv h1 h2 ⟨ad,h3⟩ h4=>by
   refine same (v:=a.eval x) ?_ h4 ?_
   ·simp only[execOp,hop,h3];rfl
   rw[← h1];exact ysh hR N x (by rw[h1];exact h2)
  split at h
  ·rename_i cs hx
   have h1:=ysh hR N x (by rw[hx];rfl)
   rw[hx] at h1;obtain⟨b,off,_,h2,_⟩:=h1;exact hp _ hx rfl ⟨_,h2⟩ h
  ·rename_i r q hx
   have h1:=ysh hR N x (by rw[hx];rfl)
   rw[hx] at h1;obtain⟨_,q0,i,o',b,arr,e,_,_,_,_,h2⟩:=h1;exact hp _ hx rfl ⟨_,h2⟩ h
  exact h.elim
 | indexAddr t x i =>
  simp only[sOp,hop] at h;obtain⟨v,sv,h1,h2,h3⟩:=ywy1 hR hrt h;refine same (v:=v) ?_ h2 (h3 N)
  simp[execOp,hop,h1]
 | extract x k =>
  simp only[sOp,hop] at h;obtain⟨l,y,h1,h2,h3,h4⟩:=h;obtain⟨t,rfl,ht⟩:=ydv1 h1;have hs:=hR.slot t;rw[ht] at hs;obtain⟨arr,h5,h6,h7⟩:=hs;have h8:=h7 k y h2;have hk:k<arr.size:=by have:=(List.getElem?_eq_some_iff.1 h2).1;omega
  refine same (v:=arr.getD k undef) ?_ h4 ?_
  ·have:a.eval (.tmp t)=.tuple arr:=h5
   simp[execOp,hop,this,Instr.extract,hk]
  cases y <;> simp[isDR] at h3
  ·exact h8
  exact h8
 | alloc t =>
  simp only[sOp,hop] at h;obtain⟨cs,h1,h2⟩:=h;obtain⟨v,w',L1,h3,h4,h5⟩:=yrs1 hR h1;exact grown (by simp[execOp,hop,h3]) h2 h4 h5
 | makeSlice t l c =>
  simp only[sOp,hop] at h;obtain⟨n,h1,h2,h3,e,sz,h4,z,h5,h6,h7⟩:=h;obtain⟨v,w',L1,h8,h9,h10⟩:=yig1 hR h4 h3 h5 h6;exact grown (by simp[execOp,hop,hev _ _ h1,hev _ _ h2,h8]) h7 h9 h10
 | buildSlice t n parts =>
  simp only[sOp,hop] at h;obtain⟨e,sz,h1,rows,h2,h3,h4,h5,h6,h7⟩:=h;obtain⟨v,w',L1,h8,h9,h10⟩:=yne1 hR h1 h2 h3 h4 h5 h6;exact grown (by simp only[execOp,hop];rw[Sem.run_bind,h8];rfl) h7 h9 h10
 | slice t x lo hi mx =>
  cases mx with
  | some m=>simp[sOp,hop] at h
  | none =>
   simp only[sOp,hop] at h;split at h
   ·rename_i rows hx
    obtain⟨e,sz,h1,l,hh,h2,h3,h4,h5,h6,h7⟩:=h;obtain⟨v,h8,h9⟩:=yts1 hR hx h1 h2 h3 h4 h5 h6;refine same (v:=v) ?_ h7 (h9 N)
    simp[execOp,hop,h8]
   exact pureR (by rw[hop];intro _ _ h;cases h) h
 | build t parts =>
  simp only[sOp,hop] at h;obtain⟨cs,h1,h2⟩:=h;obtain⟨v,h3,h4⟩:=yss1 hR h1;refine same (v:=v) ?_ h2 (h4 N)
  simp only[execOp,hop];rw[Sem.run_bind,h3];rfl
 | makeFunc fn first caps =>
  cases fn with
  | func f =>
   simp only[sOp,hop] at h;obtain⟨h0,axs,h1,h2⟩:=h;have hf:first=#[]:=Array.eq_empty_of_size_eq_zero h0
   subst hf;refine same (v:=.func (.func f) #[] (caps.map a.eval)) ?_ h2 (ygj1 hR h1 N)
   simp[execOp,hop,Instr.makeFunc]
  | _=>simp[sOp,hop] at h
 | field t x k =>
  simp only[sOp,hop] at h;rcases h with h | ⟨r,h1,h2,h3,h4,h5⟩
  ·exact pureR (by rw[hop];intro _ _ h;cases h) h
  have hσ:rt r=σ r:=by
   rcases hrt r with e | e
   ·exact e
   rw[e] at h2;cases h2
  rw[hσ] at h2 h3
  have h6:=ysh hR N x (by rw[h1];rfl)
  rw[h1] at h6;obtain⟨_,h7 | ⟨q0,i,o1,b,arr,e,hq,hb,_⟩⟩:=h6
  ·obtain⟨_,_,h8,arr,h9,h10⟩:=h7
   refine same (v:=arr.getD 0 undef) (sv:=.ref r [(0,0)] none) ?_ h5 ⟨h2,.inl ⟨h3,rfl,?_⟩⟩
   ·simp only[execOp,hop,h9]
    rw[Sem.run_bind,yjg1 h4 arr h10];rfl
   show arr.getD 0 undef=(tmOf a r).cells.getD 0 undef
   rw[← h8,h9];rfl
  exfalso
  cases q0 with
  | nil=>rw[hb rfl] at h3;cases h3
  | cons y q0=>simp at hq
 | index t x i =>
  simp only[sOp,hop] at h;exact pureR (by rw[hop];intro _ _ h;cases h) h
 | call c =>
  obtain⟨callee,args,ts⟩:=c;have hns:∀ cs b,o.op≠.select cs b:=by rw[hop];intro _ _ h;cases h
  cases callee with
  | value fn =>
   simp only[sOp,hop] at h;obtain⟨f,caps,axs,res,h1,h2,h3,h4,h5,h6,h7⟩:=h;obtain⟨vs,h8,h9⟩:=ysq1 (fz:=false) hR hrt h1 h2 h3 h4 h5 (.inr h6)
   refine yoz hop h8 h4.1 ?_
   have:args.toList.toArray=args:=by simp
   rw[this] at h9;refine h9.mono ?_
   rintro e w' ⟨v,L1,rfl,h10,h11⟩
   exact⟨v,rfl,hn v w' L1 _ h7 h10 h11⟩
  | invoke r m =>
   simp only[sOp,hop] at h;exact pureR hns h
  | builtin b =>
   cases b with
   | len =>
    simp only[sOp,hop] at h;obtain⟨x,t,h1,h2,h3⟩:=h;subst h1 h2
    obtain⟨v,h4,h5⟩:=ycz1 (ty:=o.type) hR hrt h3
    refine same (v:=v) ?_ h4 rfl
    simp[execOp,hop,resolve,invoke,builtin,h5]
   | min =>
    simp only[sOp,hop] at h;obtain⟨x,y,k,m,n,h1,h2,h3,h4⟩:=h;refine same (v:=.int k (if n<m then n else m)) ?_ h4 rfl
    have:args=#[x,y]:=by rw[← h1]
    subst this;simp[execOp,hop,resolve,invoke,builtin,Builtin.min_,hev _ _ h2,hev _ _ h3,Builtin.min2]
   | max =>
    simp only[sOp,hop] at h;obtain⟨x,y,k,m,n,h1,h2,h3,h4⟩:=h;refine same (v:=.int k (if m<n then n else m)) ?_ h4 rfl
    have:args=#[x,y]:=by rw[← h1]
    subst this;simp[execOp,hop,resolve,invoke,builtin,Builtin.max_,hev _ _ h2,hev _ _ h3,Builtin.max2]
   | _ =>
    simp only[sOp,hop] at h;exact pureR hns h
 | _=>simp[sOp,hop] at h
end Go.PV

/-
 A walk over pure values: a place within data replaced.
 Conditions: none.
-/
namespace Go.PV
variable {P:Program} {N:Nat} {w0:World} {A:Nat->Prop} {I:Bor}
theorem yjv1 (l:List C) (o:Nat) (q:Path) (cs:List C):setR l o q cs=l.modify o (fun c=>setC c q cs):=by
 induction l generalizing o with
 | nil=>simp[setR]
 | cons c l ih =>
  cases o with
  | zero=>simp[setR]
  | succ o=>simp[setR,ih]
theorem yww (rows:List (List C)) (i o:Nat) (cs:List C):setL rows [(i,o)] cs=rows.modify i (fun r=>r.take o++cs++r.drop (o+cs.length)):=by
 induction rows generalizing i with
 | nil=>simp[setL]
 | cons r l ih =>
  cases i with
  | zero=>simp[setL]
  | succ i=>simp[setL,ih]
theorem ywu (rows:List (List C)) (i o:Nat) (x:Nat×Nat) (q:Path) (cs:List C):setL rows ((i,o)::x::q) cs=rows.modify i (fun r=>r.modify o (fun c=>setC c (x::q) cs)):=by
 induction rows generalizing i with
 | nil=>simp[setL]
 | cons r l ih =>
  cases i with
  | zero=>simp[setL,yjv1]
  | succ i=>simp[setL,ih]
theorem yfs {α:Type} {l:List α} {i j:Nat} {f:α->α} {y:α} (h:(l.modify i f)[j]?=some y):∃ x,l[j]?=some x/\y=if i=j then f x else x:=by
 rw[List.getElem?_modify] at h
 cases hj:l[j]? with
 | none=>simp[hj] at h
 | some x=>simp[hj] at h;exact⟨x,rfl,h.symm⟩
theorem yoe1 {row cs:List C} {o j:Nat} {c:C} (hle:o+cs.length<=row.length) (h:(row.take o++cs++row.drop (o+cs.length))[j]?=some c) :
  (o<=j/\j<o+cs.length/\cs[j-o]?=some c)\/(¬ (o<=j/\j<o+cs.length)/\row[j]?=some c):=by
 by_cases h1:j<o
 ·right
  rw[List.append_assoc,List.getElem?_append_left (by simp;omega),List.getElem?_take,if_pos h1] at h
  exact⟨by omega,h⟩
 by_cases h2:j<o+cs.length
 ·left
  rw[List.getElem?_append_left (by simp;omega),List.getElem?_append_right (by simp;omega)] at h
  simp only[List.length_take] at h;rw[show min o row.length=o from by omega] at h;exact⟨by omega,h2,h⟩
 right
 rw[List.getElem?_append_right (by simp;omega)] at h
 simp only[List.length_append,List.length_take,List.getElem?_drop] at h
 rw[show o+cs.length+(j-(min o row.length+cs.length))=j from by omega] at h
 exact⟨by omega,h⟩
theorem ypz {row cs:List C} {o:Nat} (hle:o+cs.length<=row.length):(row.take o++cs++row.drop (o+cs.length)).length=row.length:=by
 simp;omega
def under (q0:Path) (i o n:Nat) (q:Path):Prop:=∃ j q',j<n/\q=q0++(i,o+j)::q'
structure SetUp (P:Program) (Z:Nat->Prop) (L:Lab) (w:World) (Z':Nat->Prop) (L':Lab) (w':World) (r:Nat) (q0:Path) (i o:Nat) (cs:List C) (vs:Nat->Value):Prop where
 z:∀ b,Z b->Z' b/\w'.heap[b]?=w.heap[b]?
 keep:∀ b q,L b=some (r,q)->¬ under q0 i o cs.length q->L' b=some (r,q)
 heap:∀ b q,L b=some (r,q)->¬ under q0 i o cs.length q->q≠q0->w'.heap[b]?=w.heap[b]?
 new:∀ (j:Nat) (c:C),cs[j]?=some c->Rep P Z' L' w' r (q0++[(i,o+j)]) (vs j) c
theorem yvm {q0:Path} {i o n:Nat} {q:Path} (h:q.length<=q0.length):¬ under q0 i o n q:=by
 rintro⟨j,q',_,rfl⟩
 simp at h
 omega
theorem SetUp.move {Z Z':Nat->Prop} {L L':Lab} {w w':World} {r:Nat} {q0:Path} {i o:Nat} {cs:List C} {vs:Nat->Value} (S:SetUp P Z L w Z' L' w' r q0 i o cs vs)
  {p:Path} {v:Value} {c:C} (h:Rep P Z L w r p v c) (hp:∀ q,p++q≠q0/\¬ under q0 i o cs.length (p++q)):Rep P Z' L' w' r p v c :=
 h.move p S.z fun b q hb=>⟨S.keep b _ hb (hp q).2,S.heap b _ hb (hp q).2 (hp q).1⟩
def NewBlock (P:Program) (L:Lab) (w w':World) (r:Nat) (q0:Path) (i o n:Nat) (vs:Nat->Value):Prop :=
 ∀ (b:Nat) (arr:Array Value) (e:TypeId),L b=some (r,q0)->w.heap[b]?=some (.cells arr e (0,0))->∃ arr':Array Value,w'.heap[b]?=some (.cells arr' e (0,0))/\arr'.size=arr.size /\
  ∀ k,arr'.getD k undef=if i*esz P e+o<=k/\k<i*esz P e+o+n then vs (k-(i*esz P e+o)) else arr.getD k undef
theorem yxu {p q0:Path} {x y:Nat×Nat} {q q':Path} (hxy:x≠y):p++x::q≠p++y::q':=by
 intro h
 have:=List.append_cancel_left h
 simp at this
 exact hxy this.1
theorem yuk1 {Z Z':Nat->Prop} {L L':Lab} {w w':World} {r:Nat} {q0:Path} {i o:Nat} {cs:List C} {vs:Nat->Value} (S:SetUp P Z L w Z' L' w' r q0 i o cs vs)
  {rows:List (List C)} {rd rd':Nat->Nat->Value} (hk:Kids P Z L w r q0 rd rows) {row:List C} (hrow:rows[i]?=some row) (hle:o+cs.length<=row.length)
  (hrd:∀ (i':Nat) (row':List C) (o':Nat) (c:C),rows[i']?=some row'->row'[o']?=some c->rd' i' o'=if i'=i/\o<=o'/\o'<o+cs.length then vs (o' - o) else rd i' o') :
  Kids P Z' L' w' r q0 rd' (setL rows [(i,o)] cs):=by
 rw[yww]
 intro i' row' o' c h1 h2
 obtain⟨row1,h3,rfl⟩:=yfs h1
 by_cases hi:i=i'
 ·subst hi
  rw[if_pos rfl] at h2;obtain rfl:row1=row:=by rw[hrow] at h3;exact(Option.some.inj h3).symm
  have hlt:o'<row1.length:=by
   have:=(List.getElem?_eq_some_iff.1 h2).1
   rw[ypz hle] at this;exact this
  rw[hrd i row1 o' _ h3 (List.getElem?_eq_getElem hlt)];rcases yoe1 hle h2 with⟨h4,h5,h6⟩ | ⟨h4,h5⟩
  ·rw[if_pos ⟨rfl,h4,h5⟩]
   have:=S.new _ c h6
   rwa [show o+(o' - o)=o' from by omega] at this
  rw[if_neg (by rintro⟨_,a,b⟩;exact h4 ⟨a,b⟩)]
  refine S.move (hk i row1 o' c h3 h5) fun q=>⟨?_,?_⟩
  ·simp
  rintro⟨j,q',hj,he⟩
  simp at he
  omega
 rw[if_neg hi] at h2
 rw[hrd i' row1 o' c h3 h2,if_neg (by rintro⟨h,_⟩;exact hi h.symm)]
 refine S.move (hk i' row1 o' c h3 h2) fun q=>⟨?_,?_⟩
 ·simp
 rintro⟨j,q',hj,he⟩
 simp at he
 exact hi he.1.1.symm
theorem ykg1 {Z Z':Nat->Prop} {L L':Lab} {w w':World} {r i o:Nat} {cs:List C} {vs:Nat->Value}:∀ (q:Path) (p0:Path) (rows:List (List C)) (rd:Nat->Nat->Value) (old:List C),
  SetUp P Z L w Z' L' w' r (p0++q) i o cs vs->NewBlock P L w w' r (p0++q) i o cs.length vs->q≠[]->Kids P Z L w r p0 rd rows->getRow rows (q++[(i,o)])=some old->cs.length<=old.length->0<cs.length ->
  Kids P Z' L' w' r p0 rd (setL rows (q++[(i,o)]) cs)
 | [],_,_,_,_,_,_,h,_,_,_,_=>absurd rfl h
 | (i1,o1)::q,p0,rows,rd,old,S,B,_,hk,hg,hle,hpos=>by
  obtain⟨x,q',hq'⟩:∃ x q',q++[(i,o)]=x::q':=by
   cases q with
   | nil=>exact⟨_,_,rfl⟩
   | cons x q=>exact⟨_,_,rfl⟩
  have hpath:(i1,o1)::q++[(i,o)]=(i1,o1)::x::q':=by rw[List.cons_append,hq']
  rw[hpath] at hg ⊢
  obtain⟨row1,e,rows',h1,h2,h3⟩:=ybt hg;rw[ywu];intro i' row' o' c h4 h5
  obtain⟨row2,h6,rfl⟩:=yfs h4
  -- the label of the node below
  have hout:∀ (i' o':Nat),(i',o')≠(i1,o1)->∀ qq,p0++[(i',o')]++qq≠p0++(i1,o1)::q/\¬ under (p0++(i1,o1)::q) i o cs.length (p0++[(i',o')]++qq):=by
   intro i' o' hne qq
   refine⟨?_,?_⟩
   ·rw[List.append_assoc]
    exact yxu (q0:=[]) hne
   rintro⟨j,q',hj,he⟩
   rw[List.append_assoc,List.append_assoc] at he;exact yxu (q0:=[]) hne he
  by_cases hi:i1=i'
  ·subst hi
   rw[if_pos rfl] at h5;obtain rfl:row2=row1:=by rw[h1] at h6;exact(Option.some.inj h6).symm
   obtain⟨c0,h7,rfl⟩:=yfs h5;by_cases ho:o1=o'
   ·subst ho
    rw[if_pos rfl];obtain rfl:c0=.sl (some e) rows':=by rw[h2] at h7;exact(Option.some.inj h7).symm
    have hrep:=hk i1 row2 o1 _ h1 h2;simp only[setC];generalize hv:rd i1 o1=v at hrep ⊢
    cases hrep with
    | frz h=>cases h
    | onil =>
     cases q <;> (obtain⟨x1,x2⟩:=x;cases q' <;> simp[getRow] at h3)
    | @own _ g cap arr _ _ hl hgp hn hm ha hsz hr =>
     have hnl:¬ under (p0++(i1,o1)::q) i o cs.length (p0++[(i1,o1)]):=yvm (by simp)
     have hl':=S.keep g _ hl hnl
     have hkids:Kids P Z L w r (p0++[(i1,o1)]) (fun i o=>arr.getD (i*esz P e+o) undef) rows':=fun i row o c a b=>hr i row o c a b
     have hlen:(setL rows' (x::q') cs).length=rows'.length:=by
      obtain⟨x1,x2⟩:=x;cases q' with
      | nil=>rw[yww];simp
      | cons y q''=>rw[ywu];simp
     by_cases hq:q=[]
     ·subst hq
      simp at hq'
      obtain⟨rfl,rfl⟩:=hq'
      obtain⟨rowx,h8,h9⟩:=yyi h3;have hle2:o+cs.length<=rowx.length:=by rw[h9,List.length_drop] at hle;have:=hle;omega
      obtain⟨arr',ha1,ha2,ha3⟩:=B g arr e hl hgp;have hrowsz:=hsz rowx (List.mem_of_getElem? h8)
      have key:Kids P Z' L' w' r (p0++[(i1,o1)]) (fun i o=>arr'.getD (i*esz P e+o) undef) (setL rows' [(i,o)] cs):=by
       refine yuk1 S hkids h8 hle2 fun i'' row'' o'' c'' h10 h11=>?_
       show arr'.getD (i''*esz P e+o'') undef=_
       rw[ha3];have ho'':o''<esz P e:=by have:=hsz row'' (List.mem_of_getElem? h10);have:=(List.getElem?_eq_some_iff.1 h11).1;omega
       by_cases hii:i''=i
       ·subst hii
        by_cases hr1:o<=o''/\o''<o+cs.length
        ·rw[if_pos (by omega),if_pos ⟨rfl,hr1⟩]
         congr 1
         omega
        rw[if_neg (by omega),if_neg (by rintro⟨_,h⟩;exact hr1 h)]
       have e2:¬ (i''=i/\o<=o''/\o''<o+cs.length):=by rintro⟨h,_⟩;exact hii h
       rw[if_neg e2];rw[if_neg];rintro⟨h12,h13⟩
       rcases Nat.lt_or_gt_of_ne hii with hlt | hgt
       ·have:i''*esz P e+esz P e<=i*esz P e:=by
         calc i''*esz P e+esz P e=(i''+1)*esz P e:=by rw[Nat.add_mul,Nat.one_mul]
          _<=i*esz P e:=Nat.mul_le_mul_right _ (by omega)
        omega
       have:i*esz P e+esz P e<=i''*esz P e:=by
        calc i*esz P e+esz P e=(i+1)*esz P e:=by rw[Nat.add_mul,Nat.one_mul]
         _<=i''*esz P e:=Nat.mul_le_mul_right _ (by omega)
       omega
      rw[← hlen] ;refine .own hl' ha1 (by rw[hlen];exact hn) hm (by rw[ha2];exact ha) ?_ key
      intro rowy hy;obtain⟨iy,hiy⟩:=List.mem_iff_getElem?.1 hy
      rw[yww] at hiy;obtain⟨rowz,h10,rfl⟩:=yfs hiy;by_cases hiyi:i=iy
      ·subst hiyi
       rw[if_pos rfl];rw[h8] at h10;obtain rfl:=Option.some.inj h10
       rw[ypz hle2];exact hrowsz
      rw[if_neg hiyi];exact hsz rowz (List.mem_of_getElem? h10)
     have hg':w'.heap[g]?=w.heap[g]?:=S.heap g _ hl hnl (by
      intro h;have:=congrArg List.length h
      simp at this
      cases q with
      | nil=>exact hq rfl
      | cons=>simp at this)
     have key:=ykg1 q (p0++[(i1,o1)]) rows' (fun i o=>arr.getD (i*esz P e+o) undef) old (by simpa using S) (by simpa using B) hq hkids (by rw[hq'];exact h3) hle hpos
     rw[hq'] at key;rw[← hlen];refine .own hl' (hg'.trans hgp) (by rw[hlen];exact hn) hm ha ?_ key
     intro rowy hy;obtain⟨iy,hiy⟩:=List.mem_iff_getElem?.1 hy
     obtain⟨x1,x2⟩:=x;cases q' with
     | nil =>
      cases q with
      | nil=>exact absurd rfl hq
      | cons y q=>cases q <;> simp at hq'
     | cons y q'' =>
      rw[ywu] at hiy;obtain⟨rowz,h10,rfl⟩:=yfs hiy;split
      ·rw[List.length_modify];exact hsz rowz (List.mem_of_getElem? h10)
      exact hsz rowz (List.mem_of_getElem? h10)
   rw[if_neg ho];exact S.move (hk i1 row2 o' c0 h6 h7) (hout i1 o' (by simp;exact fun h=>ho h.symm))
  rw[if_neg hi] at h5;exact S.move (hk i' row2 o' c h6 h5) (hout i' o' (by simp;exact fun h _=>hi h.symm))
end Go.PV

/-
 A walk over pure values: stores are sound.
 Conditions: none.
-/
namespace Go.PV
variable {P:Program} {N:Nat} {w0:World} {A:Nat->Prop} {I:Bor}
theorem yqy1 {σ:St} {a:Act} {w:World} {L:Lab} (hR:Rel P N N w0 A I σ a w L) {s:Nat} {tv:Value} {sv:SV} {cs:List C} {mv:Option Nat} (h:RelS P (Zof w0 A L w) L w (tmOf a) σ s tv sv) (hm:mvCells σ sv=some (cs,mv)) :
  tv.cells.size=cs.length/\(mv=none/\(∀ (j:Nat) (c:C),cs[j]?=some c->Frz (Zof w0 A L w) w (tv.cells.getD j undef) c) \/
   ∃ r g,mv=some r/\(σ r=.ov g cs\/σ r=.box cs)/\True/\∀ (j:Nat) (c:C),cs[j]?=some c->Rep P (Zof w0 A L w) L w r [(0,j)] (tv.cells.getD j undef) c):=by
 have shape:∀ {g:Bool} {v:Value} {n:Nat},VShape g v n->v.cells.size=n:=by
  intro g v n hv;unfold VShape at hv;split at hv
  ·obtain⟨arr,rfl,h⟩:=hv;exact h
  rw[hv.1,hv.2];rfl
 cases sv with
 | p v =>
  have h:tv=v:=h
  subst h;simp only[mvCells] at hm;split at hm
  ·rename_i hs
   simp at hm
   obtain⟨rfl,rfl⟩:=hm;have:=ybz (P:=P) (Z:=Zof w0 A L w) (L:=L) (w:=w) (tm:=tmOf a) (σ:=σ) (s:=s) (tv:=tv) (sv:=.p tv) (g:=aggB tv) (cs:=cellsV tv) rfl (by simp only[sOp.cellsF,if_pos hs])
   exact⟨this.1.1,.inl ⟨rfl,this.1.2⟩⟩
  cases hm
 | d g cs' =>
  simp[mvCells] at hm
  obtain⟨rfl,rfl⟩:=hm;exact⟨shape h.1,.inl ⟨rfl,h.2⟩⟩
 | ref r q n =>
  have hq:q=[(0,0)]:=by
   rcases q with _ | ⟨⟨i,o⟩,_ | ⟨y,q⟩⟩
   ·simp[mvCells] at hm
   ·cases i <;> cases o <;> simp[mvCells] at hm
    rfl
   simp[mvCells] at hm
  subst hq;simp only[mvCells] at hm;have hv:∀ {g:Bool} {cs0:List C},isBox (σ r)=false->VShape g (tmOf a r) cs0.length->n=(if g then some cs0.length else none)->tv=tmOf a r:=by
   intro g cs0 hb hs hn;obtain⟨_,h⟩:=h;rcases h with⟨_,_,h3⟩ | ⟨q0,i,o,b,arr,e,hq,hbx,_⟩
   ·subst hn
    cases g with
    | true=>exact h3.1
    | false =>
     simp only[Bool.false_eq_true,if_false] at h3 hs;unfold VShape at hs;simp only[Bool.false_eq_true,if_false] at hs;rw[h3];show(tmOf a r).cells.getD 0 undef=_
     rw[hs.1];rfl
   have hq0:q0=[]:=by
    have:=congrArg List.length hq
    simp at this
    exact this
   rw[hbx hq0] at hb;cases hb
  have hslot:=hR.slot r;split at hm
  ·rename_i g cs0 hs
   rw[hs] at hslot;by_cases hn:n=(if g=true then some cs0.length else none)
   ·rw[if_pos hn] at hm
    simp only[Option.some.injEq,Prod.mk.injEq] at hm;obtain⟨rfl,rfl⟩:=hm;have:=hv (by rw[hs];rfl) hslot.1 hn
    subst this;exact⟨shape hslot.1,.inr ⟨r,g,rfl,.inl hs,trivial,hslot.2⟩⟩
   rw[if_neg hn] at hm;cases hm
  ·rename_i g cs0 hs
   rw[hs] at hslot;by_cases hn:n=(if g=true then some cs0.length else none)
   ·rw[if_pos hn] at hm
    simp only[Option.some.injEq,Prod.mk.injEq] at hm;obtain⟨rfl,rfl⟩:=hm;have:=hv (by rw[hs];rfl) hslot.1 hn
    subst this;exact⟨shape hslot.1,.inl ⟨rfl,hslot.2⟩⟩
   rw[if_neg hn] at hm;cases hm
  ·rename_i cs0 hs
   rw[hs] at hslot;split at hm
   ·rename_i hn
    simp only[Option.some.injEq,Prod.mk.injEq] at hm;obtain⟨rfl,rfl⟩:=hm;obtain⟨b,_,hlb,arr,e,hheap,hsz,hrep⟩:=hslot;obtain⟨_,h⟩:=h;rcases h with⟨hb,_⟩ | ⟨q0,i,o,b',arr',e',hq,_,hlb',hheap',hval⟩
    ·rw[hs] at hb;cases hb
    have hq0:q0=[]/\i=0/\o=0:=by
     rcases q0 with _ | ⟨y,q0⟩
     ·simp at hq;exact⟨rfl,hq.1.symm,hq.2.symm⟩
     have:=congrArg List.length hq;simp at this
    obtain⟨rfl,rfl,rfl⟩:=hq0;obtain rfl:=hR.inj _ _ _ hlb hlb'
    rw[hheap] at hheap'
    simp only[Option.some.injEq,Obj.cells.injEq] at hheap'
    obtain⟨rfl,rfl,_⟩:=hheap'
    have hcell:tv.cells.size=cs0.length/\∀ j,j<cs0.length->tv.cells.getD j undef=arr.getD j undef:=by
     rcases hn with rfl | ⟨rfl,h1⟩
     ·simp only[Nat.zero_mul,Nat.zero_add] at hval
      subst hval;refine⟨by simp[Value.cells];omega,fun j hj=>?_⟩
      simp only[Value.cells,Array.getD_eq_getD_getElem?];rw[Array.getElem?_extract_of_lt (by omega)];simp[show j<arr.size by omega]
     simp only[Nat.zero_mul,Nat.zero_add] at hval;have h2:=(hrep 0 cs0[0] (by simp[h1])).1.oneCell
     have h3:arr.getD 0 undef=tv:=by rw[Array.getD_eq_getD_getElem?,hval.1];rfl
     rw[h3] at h2;rw[ync h2];refine⟨by simp[h1],fun j hj=>?_⟩
     have:j=0:=by omega
     subst this;rw[h3];rfl
    refine⟨hcell.1,.inr ⟨r,true,rfl,.inr hs,trivial,fun j c hj=>?_⟩⟩
    rw[hcell.2 j (List.getElem?_eq_some_iff.1 hj).1];exact(hrep j c hj).1
   cases hm
  cases hm
 | _=>simp[mvCells] at hm
theorem yxw {t:TypeId} {g:Bool} {n:Nat} (ht:tyC P t=some (g,n)) {w:World} {b off:Nat} {arr:Array Value} {e:TypeId} (hb:w.heap[b]?=some (.cells arr e (0,0))) {v:Value} (hv:v.cells.size=n) (h1:∀ x∈v.cells.toList,x.oneCell'=true)
  (hle:off+n<=arr.size):(Instr.storeAt t (.pointer (some ⟨b,off,none⟩)) v).run P w=.ok () (w.setRow b (arr.toList.take off++v.cells.toList++arr.toList.drop (off+n)).toArray):=by
 obtain⟨d,i,hu,hi,hs,_⟩:=ymk1 ht
 have:=run_storeCells_at (P:=P) b off e v.cells.toList 0 arr w hb (by simp;omega) h1
 simp only[Nat.add_zero,Array.length_toList,hv] at this
 simp[Instr.storeAt,Instr.sureAddr,storeVar,sizeOf,typeInfo,hi,hs,hv,this]
theorem ygq {arr:Array Value} {vs:Array Value} {off:Nat} (hle:off+vs.size<=arr.size):(arr.toList.take off++vs.toList++arr.toList.drop (off+vs.size)).toArray.size=arr.size /\
  ∀ k,(arr.toList.take off++vs.toList++arr.toList.drop (off+vs.size)).toArray.getD k undef=if off<=k/\k<off+vs.size then vs.getD (k-off) undef else arr.getD k undef:=by
 refine⟨by simp;omega,fun k=>?_⟩
 simp only[Array.getD_eq_getD_getElem?,List.getElem?_toArray]
 by_cases h1:k<off
 ·rw[if_neg (by omega),List.append_assoc,List.getElem?_append_left (by simp;omega),List.getElem?_take,if_pos h1]
  simp
 by_cases h2:k<off+vs.size
 ·rw[if_pos (by omega),List.getElem?_append_left (by simp;omega),List.getElem?_append_right (by simp;omega)]
  simp only[List.length_take,Array.length_toList];rw[show min off arr.size=off from by omega];simp
 rw[if_neg (by omega),List.getElem?_append_right (by simp;omega)]
 simp only[List.length_append,List.length_take,Array.length_toList,List.getElem?_drop]
 rw[show off+vs.size+(k-(min off arr.size+vs.size))=k from by omega]
 simp
open Classical in
noncomputable def stLab (L:Lab) (r:Nat) (q0:Path) (i o n:Nat) (mv:Option Nat):Lab:=fun b=>match L b with
 | none=>none
 | some (s,q)=>if mv=some s then(match q with
   | (0,j)::q'=>if j<n then some (r,q0++(i,o+j)::q') else none
   | _=>none)
  else if s=r/\under q0 i o n q then none else some (s,q)
theorem yqz {L:Lab} {r:Nat} {q0:Path} {i o n:Nat} {mv:Option Nat} {b:Nat} {l:Nat×Path} (h:stLab L r q0 i o n mv b=some l) :
  (∃ s j q',mv=some s/\L b=some (s,(0,j)::q')/\j<n/\l=(r,q0++(i,o+j)::q'))\/(L b=some l/\mv≠some l.1/\¬ (l.1=r/\under q0 i o n l.2)):=by
 unfold stLab at h
 split at h
 ·cases h
 rename_i s q hb
 split at h
 ·rename_i hm
  split at h
  ·rename_i j q'
   split at h
   ·rename_i hj
    exact .inl ⟨s,j,q',hm,hb,hj,(Option.some.inj h).symm⟩
   cases h
  cases h
 rename_i hm
 split at h
 ·cases h
 rename_i hu
 obtain rfl:=Option.some.inj h
 exact .inr ⟨hb,hm,hu⟩
theorem yvk1 {L:Lab} {r:Nat} {q0:Path} {i o n:Nat} {mv:Option Nat} {b s:Nat} {q:Path} (h:L b=some (s,q)) (hm:mv≠some s) (hu:¬ (s=r/\under q0 i o n q)):stLab L r q0 i o n mv b=some (s,q):=by
 simp only[stLab,h,if_neg hm,if_neg hu]
theorem yko1 {L:Lab} {r:Nat} {q0:Path} {i o n:Nat} {mv:Option Nat} (hi:∀ b b' l,L b=some l->L b'=some l->b=b') :
  ∀ b b' l,stLab L r q0 i o n mv b=some l->stLab L r q0 i o n mv b'=some l->b=b':=by
 intro b b' l h1 h2
 rcases yqz h1 with⟨s,j,q',m1,e1,j1,rfl⟩ | ⟨e1,m1,u1⟩ <;> rcases yqz h2 with⟨s2,j2,q2,m2,e2,jj2,l2⟩ | ⟨e2,m2,u2⟩
 ·simp at l2
  obtain⟨rfl,rfl⟩:=l2;rw[m1] at m2;obtain rfl:=Option.some.inj m2
  exact hi _ _ _ e1 e2
 ·exact absurd ⟨rfl,j,q',j1,rfl⟩ u2
 ·subst l2
  exact absurd ⟨rfl,j2,q2,jj2,rfl⟩ u1
 exact hi _ _ _ e1 e2
end Go.PV

/-
 A walk over pure values: stores are sound,joined.
 Conditions: none.
-/
namespace Go.PV
variable {P:Program} {N:Nat} {w0:World} {A:Nat->Prop} {I:Bor}
theorem ylc1 {cs0 cs old:List C} {q0:Path} {i o:Nat} (hg:getRow [cs0] (q0++[(i,o)])=some old) (hle:cs.length<=old.length) (hpos:0<cs.length) :
  ∃ cs1,setL [cs0] (q0++[(i,o)]) cs=[cs1]/\cs1.length=cs0.length:=by
 cases q0 with
 | nil =>
  obtain⟨row,h1,h2⟩:=yyi hg;rw[List.nil_append,yww];cases i with
  | succ i=>simp at h1
  | zero =>
   simp at h1
   subst h1 h2
   refine⟨_,rfl,ypz ?_⟩
   simp at hle
   omega
 | cons x q0 =>
  obtain⟨i1,o1⟩:=x;obtain⟨y,q',hq'⟩:∃ x q',q0++[(i,o)]=x::q':=by
   cases q0 with
   | nil=>exact⟨_,_,rfl⟩
   | cons x q=>exact⟨_,_,rfl⟩
  rw[List.cons_append,hq'] at hg ⊢
  rw[ywu];obtain⟨row1,e,rows',h1,h2,h3⟩:=ybt hg;cases i1 with
  | succ i=>simp at h1
  | zero=>exact⟨_,rfl,by simp⟩
theorem ykv1 {c:C} {q:Path} {cs:List C} {t:TypeId} (h:setC c q cs=.bp t):c=.bp t:=by
 cases c with
 | bp t'=>exact h
 | raw v=>simp[setC] at h
 | sl o rows=>simp[setC] at h
 | fn f caps=>simp[setC] at h
 | pt cs=>simp[setC] at h
 | er b=>simp[setC] at h
 | dead=>simp[setC] at h
theorem ylv1 {cs0 cs1 cs:List C} {x:Nat×Nat} {y:Nat×Nat} {q:Path} {j:Nat} {t:TypeId} (h1:setL [cs0] (x::y::q) cs=[cs1]) (h:cs1[j]?=some (.bp t)):cs0[j]?=some (.bp t):=by
 obtain⟨i,o⟩:=x
 rw[ywu] at h1
 cases i with
 | zero =>
  simp at h1
  subst h1;rw[List.getElem?_modify] at h;cases hl:cs0[j]? with
  | none=>rw[hl] at h;simp at h
  | some c =>
   rw[hl] at h;have h2:(if o=j then setC c (y::q) cs else c)=.bp t:=Option.some.inj h
   split at h2
   ·rw[ykv1 h2]
   rw[h2]
 | succ i =>
  simp at h1
  subst h1;exact h
theorem yvc1 {σ σ':St} {a:Act} {w w':World} {L L':Lab} {Z':Nat->Prop} {tm':Nat->Value} (hR:Rel P N N w0 A I σ a w L) {r i o:Nat} {q0:Path} {cs old:List C} {vs:Nat->Value} (hown:isOwnR (σ r)=true)
  (S:SetUp P (Zof w0 A L w) L w Z' L' w' r q0 i o cs vs) (B:NewBlock P L w w' r q0 i o cs.length vs) (hg:getRow (rows1 (σ r)) (q0++[(i,o)])=some old) (hle:cs.length<=old.length) (hpos:0<cs.length)
  (hbx:q0=[]->isBox (σ r)=true) (hnb:nb cs=true):RelS P Z' L' w' tm' σ' r (tmOf a r) (setCs (σ r) (q0++[(i,o)]) cs):=by
 have hs:=hR.slot r
 have one:∀ {cs0:List C} {i:Nat} {row:List C},([cs0]:List (List C))[i]?=some row->i=0/\row=cs0:=fun {cs0 i row} h=>by
  cases i with
  | zero=>simp at h;exact⟨rfl,h.symm⟩
  | succ i=>simp at h
 cases hr:σ r with
 | ov g cs0 =>
  rw[hr] at hs hg hbx
  simp only[rows1] at hg;have hq:q0≠[]:=fun h=>by have:=hbx h;simp[isBox] at this
  obtain⟨cs1,h1,h2⟩:=ylc1 hg hle hpos;have hk:Kids P (Zof w0 A L w) L w r [] (fun _ o=>(tmOf a r).cells.getD o undef) [cs0]:=fun i row o c h3 h4=>by
   obtain⟨rfl,rfl⟩:=one h3;exact hs.2 o c h4
  have key:=ykg1 q0 [] [cs0] _ old (by simpa using S) (by simpa using B) hq hk hg hle hpos
  simp only[setCs,h1,List.headD];rw[h1] at key;exact⟨by rw[h2];exact hs.1,fun j c hj=>key 0 cs1 j c rfl hj⟩
 | box cs0 =>
  rw[hr] at hs hg
  simp only[rows1] at hg;obtain⟨b,hv,hl,arr,e,hh,hsz,hk0⟩:=hs;obtain⟨cs1,h1,h2⟩:=ylc1 hg hle hpos;have hk:Kids P (Zof w0 A L w) L w r [] (fun _ o=>arr.getD o undef) [cs0]:=fun i row o c h3 h4=>by
   obtain⟨rfl,rfl⟩:=one h3;exact(hk0 o c h4).1
  simp only[setCs,h1,List.headD];have hl':L' b=some (r,[]):=S.keep b _ hl (yvm (by simp))
  by_cases hq:q0=[]
  ·subst hq
   obtain⟨row,h3,h4⟩:=yyi hg;obtain⟨rfl,rfl⟩:=one h3;obtain⟨arr',ha1,ha2,ha3⟩:=B b arr e hl hh;have key:=yuk1 S hk (rd':=fun _ o=>arr'.getD o undef) h3 (by rw[h4] at hle;simp at hle;omega) fun i' row' o' c h5 h6=>by
    obtain⟨rfl,rfl⟩:=one h5;rw[ha3];simp
   rw[List.nil_append] at h1;rw[h1] at key;refine⟨b,hv,hl',arr',e,ha1,by rw[ha2,hsz,h2],fun j c hj=>⟨key 0 cs1 j c rfl hj,fun tb hcb=>?_⟩⟩
   have hcs:cs1=row.take o++cs++row.drop (o+cs.length):=by
    rw[yww] at h1;simpa using h1.symm
   rw[hcs] at hj;rcases yoe1 (by rw[h4] at hle;simp at hle;omega) hj with⟨g1,g2,g3⟩ | ⟨g1,g2⟩
   ·exact absurd hcb (ykk1 hnb g3)
   have:=(hk0 j c g2).2 tb hcb
   rw[ha3,if_neg (by simp only[Nat.zero_mul,Nat.zero_add];exact g1)]
   exact this
  have key:=ykg1 q0 [] [cs0] _ old (by simpa using S) (by simpa using B) hq hk hg hle hpos
  rw[h1] at key;have hh':w'.heap[b]?=w.heap[b]?:=S.heap b _ hl (yvm (by simp)) (fun h=>hq h.symm)
  refine⟨b,hv,hl',arr,e,hh'.trans hh,by rw[h2];exact hsz,fun j c hj=>⟨key 0 cs1 j c rfl hj,fun tb hcb=>?_⟩⟩
  obtain⟨x,q1,rfl⟩:∃ x q1,q0=x::q1:=by
   cases q0 with
   | nil=>exact absurd rfl hq
   | cons x q1=>exact⟨x,q1,rfl⟩
  obtain⟨y,q2,hy⟩:∃ y q2,q1++[(i,o)]=y::q2:=by
   cases q1 with
   | nil=>exact⟨_,_,rfl⟩
   | cons z q=>exact⟨_,_,rfl⟩
  rw[List.cons_append,hy] at h1;subst hcb;exact(hk0 j _ (ylv1 h1 hj)).2 tb rfl
 | _=>rw[hr] at hown;simp[isOwnR] at hown
theorem yyu {x:SV} {q:Path} {cs:List C} (h:isOwnR x=true):isRoot (setCs x q cs)=true/\isBox (setCs x q cs)=isBox x:=by
 cases x <;> simp_all [isOwnR,setCs,isRoot,isBox]
theorem yet {x:SV} (h:isOwnR x=true):isRoot x=true:=by cases x <;> simp_all [isOwnR,isRoot]
theorem ywk1 (r:Nat) (x:SV):killAgg r x=.u\/(killAgg r x=x/\∀ q n,x=.ref r q n->n=none):=by
 cases x with
 | ref r' q n =>
  cases n with
  | none=>right;exact⟨rfl,fun q n h=>by simp at h;exact h.2.2.symm⟩
  | some n =>
   by_cases h:r'=r
   ·left;simp[killAgg,h]
   right;exact⟨by simp[killAgg,h],fun q n hx=>by simp at hx;exact absurd hx.1 h⟩
 | _=>right;exact⟨rfl,fun q n h=>by cases h⟩
theorem ylo1 (r:Nat) (x:SV):killBx r x=.u\/(killBx r x=x/\(refOf x≠some r\/∃ y,x=.addr r [y])):=by
 cases x with
 | ref r' q n =>
  by_cases h:r'=r
  ·left;simp[killBx,h]
  right;exact⟨by simp[killBx,h],.inl (by simp[refOf,h])⟩
 | addr r' q =>
  by_cases h:r'=r
  ·subst h
   rcases q with _ | ⟨y,_ | ⟨z,q⟩⟩
   ·left;simp[killBx]
   ·right;exact⟨by simp[killBx],.inr ⟨y,rfl⟩⟩
   left;simp[killBx]
  right;exact⟨by simp[killBx,h],.inl (by simp[refOf,h])⟩
 | _=>right;exact⟨rfl,.inl (by simp[refOf])⟩
theorem ylg1 {r:Nat} {x:SV} (h:isRoot x=true):killAgg r x=x:=by cases x <;> simp_all [killAgg,isRoot]
theorem yhj1 {r:Nat} {x:SV} (h:isRoot x=true):killBx r x=x:=by cases x <;> simp_all [killBx,isRoot]
theorem yxk1 {cs:List C} {vs:List Value} (h:raws cs=some vs) {c:C} (hc:c∈cs):∃ v,c=.raw v:=by
 rw[ynz h] at hc
 obtain⟨v,_,rfl⟩:=List.mem_map.1 hc
 exact⟨v,rfl⟩
theorem Rep.raw_scal {Z:Nat->Prop} {L:Lab} {w:World} {s:Nat} {p:Path} {v v':Value} (h:Rep P Z L w s p v (.raw v')):scal v=true:=by
 cases h with
 | frz h=>cases h with | raw h=>exact h
def StR (Z:Nat->Prop) (w:World) (v:Value) (c:C):Prop:=Frz Z w v c\/(v=.slice none 0 0/\∃ e,c=.sl (some e) [])
theorem StR.rep {Z:Nat->Prop} {w:World} {v:Value} {c:C} (h:StR Z w v c) {L:Lab} {s:Nat} {p:Path}:Rep P Z L w s p v c:=by
 rcases h with h | ⟨rfl,e,rfl⟩
 ·exact .frz h
 exact .onil
theorem StR.mono {Z Z':Nat->Prop} {w w':World} {v:Value} {c:C} (h:StR Z w v c) (hz:∀ b,Z b->Z' b/\w'.heap[b]?=w.heap[b]?):StR Z' w' v c:=by
 rcases h with h | h
 ·exact .inl (h.mono hz)
 exact .inr h
theorem StR.oneCell {Z:Nat->Prop} {w:World} {v:Value} {c:C} (h:StR Z w v c):v.oneCell'=true:=by
 rcases h with h | ⟨rfl,e,rfl⟩
 ·exact h.oneCell
 rfl
theorem ype1 {σ:St} {a:Act} {w:World} {L:Lab} (hR:Rel P N N w0 A I σ a w L) {o:Oper} {t:TypeId} {ea ex:Operand} {K:St->Prop} {next:Act->World->Prop} {Q:Exit->Act->World->Prop} (hop:o.op=.store t ea ex)
  {cs:List C} {mv:Option Nat} (h:stKc P σ o t (evS σ ea) cs mv K) (hsz:(a.eval ex).cells.size=cs.length)
  (hvals:(mv=none/\(∀ (j:Nat) (c:C),cs[j]?=some c->StR (Zof w0 A L w) w ((a.eval ex).cells.getD j undef) c)) \/
   ∃ r g,mv=some r/\(σ r=.ov g cs\/σ r=.box cs)/\True/\∀ (j:Nat) (c:C),cs[j]?=some c->Rep P (Zof w0 A L w) L w r [(0,j)] ((a.eval ex).cells.getD j undef) c)
  (hn:∀ w' σ' L',K σ'->Rel P N N w0 A I σ' a w' L'->next a w'):o.wp P a w next Q:=by
 obtain⟨hd,g,n,r,q,old,ht,hpos,hown,hea,hg,hle,hlen,hnb,hne,hK⟩:=h
 have h1:=ysh hR 0 ea (by rw[hea];rfl)
 rw[hea] at h1
 obtain⟨q0,i,oo,b,arr,e,rows,row,rfl,hnode,hrow,hold,hva⟩:=yke1 hR h1 hg
 have hb0:q0=[]->isBox (σ r)=true:=by
  obtain⟨_,q1,i1,o1,b1,_,_,hq,hbx,_⟩:=h1;obtain⟨rfl,_⟩:=List.append_inj' hq rfl
  exact hbx
 have hrl:oo+n<=row.length:=by rw[hold] at hle;simp at hle;omega
 have hin:i*esz P e+oo+n<=arr.size:=by have:=hnode.inb i row (oo+(n-1)) hrow (by omega);omega
 have hone:∀ x∈(a.eval ex).cells.toList,x.oneCell'=true:=by
  intro x hx;obtain⟨j,hj⟩:=List.mem_iff_getElem?.1 hx
  have hjl:j<cs.length:=by have:=(List.getElem?_eq_some_iff.1 hj).1;simp at this;omega
  have hc:=List.getElem?_eq_getElem hjl
  have hv:(a.eval ex).cells.getD j undef=x:=by simp at hj;simp[hj]
  rcases hvals with⟨_,hf⟩ | ⟨_,_,_,_,_,hf⟩
  ·have:=(hf j _ hc).oneCell;rwa [hv] at this
  have:=(hf j _ hc).oneCell;rwa [hv] at this
 have hvn:(a.eval ex).cells.size=n:=by omega
 have hrun:=yxw (P:=P) ht hnode.heap hvn hone hin
 obtain⟨ha2,ha3⟩:=ygq (arr:=arr) (vs:=(a.eval ex).cells) (off:=i*esz P e+oo) (by omega)
 rw[hvn] at ha2 ha3
 generalize hA':(arr.toList.take (i*esz P e+oo)++(a.eval ex).cells.toList++arr.toList.drop (i*esz P e+oo+n)).toArray=arr' at hrun ha2 ha3
 have hexec:(execOp a.eval o).run P w=.ok .skip (w.setRow b arr'):=by
  simp only[execOp,hop,hva];rw[Sem.run_bind,hrun];rfl
 have hput:a.put o.dst undef=a:=by rw[hd];rfl
 have fin:∀ σ' L',K σ'->Rel P N N w0 A I σ' a (w.setRow b arr') L'->o.wp P a w next Q:=by
  intro σ' L' hk hr
  unfold Oper.wp;rw[hexec,Oper.upon_skip,hput];exact hn _ _ _ hk hr
 have hheap:∀ b',b'≠b->(w.setRow b arr').heap[b']?=w.heap[b']?:=fun b' hb'=>setRow_other w b b' arr' hb'
 have hheapb:(w.setRow b arr').heap[b]?=some (.cells arr' e (0,0)):=setRow_heap w b arr arr' e (0,0) hnode.heap
 have hbl:b<w.heap.size:=(hR.lab b _ hnode.lab).1
 have hev:Ev I w0 (w.setRow b arr'):=by
  refine⟨hR.ev.os,hR.ev.tape,hR.ev.output,by simpa using hR.ev.size,fun b' h3 h4=>?_⟩
  have hbb:b'≠b:=by
   rintro rfl
   rcases(hR.lab b' _ hnode.lab).2.1 with h5 | h5
   ·omega
   exact h4 h5
  exact(hheap b' hbb).trans (hR.ev.block b' h3 h4)
 have hzb:∀ b',Zof w0 A L w b'->b'≠b:=by rintro b' ⟨h3,_⟩ rfl;rw[hnode.lab] at h3;cases h3
 have B:NewBlock P L w (w.setRow b arr') r q0 i oo cs.length (fun j=>(a.eval ex).cells.getD j undef):=by
  intro b2 arr2 e2 h3 h4;obtain rfl:=hR.inj _ _ _ h3 hnode.lab
  rw[hnode.heap] at h4;simp at h4
  obtain⟨rfl,rfl⟩:=h4;refine⟨arr',hheapb,ha2,fun k=>?_⟩
  rw[ha3,hlen]
 have hg':cs.length<=old.length:=by omega
 by_cases hsc:((raws (old.take n)).isSome&&(raws cs).isSome)=true
 ·rw[if_pos hsc] at hK
  simp only[Bool.and_eq_true] at hsc;obtain⟨vo,hvo⟩:=Option.isSome_iff_exists.1 hsc.1;obtain⟨vc,hvc⟩:=Option.isSome_iff_exists.1 hsc.2;have hz:∀ b',Zof w0 A L w b'->Zof w0 A L (w.setRow b arr') b'/\(w.setRow b arr').heap[b']?=w.heap[b']?:=fun b' h3 =>
   ⟨⟨h3.1,by simpa using h3.2.1,h3.2.2⟩,hheap b' (hzb b' h3)⟩
  have S:SetUp P (Zof w0 A L w) L w (Zof w0 A L (w.setRow b arr')) L (w.setRow b arr') r q0 i oo cs (fun j=>(a.eval ex).cells.getD j undef):=by
   refine⟨hz,fun b' q' h3 _=>h3,fun b' q' h3 _ h5=>hheap b' ?_,fun j c hj=>?_⟩
   ·rintro rfl
    rw[hnode.lab] at h3;simp at h3
    exact h5 h3.symm
   obtain⟨v,rfl⟩:=yxk1 hvc (List.mem_of_getElem? hj)
   rcases hvals with⟨_,hf⟩ | ⟨_,_,_,_,_,hf⟩
   ·exact((hf j _ hj).mono hz).rep
   have h3:=hf j _ hj;have h4:=h3.raw_eq;rw[h4];exact .frz (.raw (h4▸h3.raw_scal))
  have hroot:=fun σ' tm'=>yvc1 (σ':=σ') (tm':=tm') hR hown S B hg hg' (by omega) hb0 hnb
  refine fin _ L hK ⟨hR.dfr,hR.siz,hev,hR.inj,fun b' l h3=>by simpa using hR.lab b' l h3,fun s hs=>?_,hR.hA,hR.pin,fun s=>?_⟩
  ·have:s≠r:=by rintro rfl;have:=yet hown;rw[hR.out s hs] at this;simp[isRoot] at this
   simp[stScal,this,hR.out s hs,killAgg]
  by_cases hsr:s=r
  ·subst hsr
   have:stScal σ s (q0++[(i,oo)]) cs s=setCs (σ s) (q0++[(i,oo)]) cs:=by simp[stScal]
   rw[this];exact hroot _ _
  have e1:stScal σ r (q0++[(i,oo)]) cs s=killAgg r (σ s):=by simp[stScal,hsr]
  rw[e1];have rootk:∀ x,isRoot (σ x)=true->isRoot (stScal σ r (q0++[(i,oo)]) cs x)=true/\isBox (stScal σ r (q0++[(i,oo)]) cs x)=isBox (σ x):=by
   intro x hx;by_cases hxr:x=r
   ·subst hxr;simp only[stScal];exact yyu hown
   simp only[stScal,if_neg hxr,ylg1 hx];exact⟨hx,trivial⟩
  have hlabk:∀ s',s'≠r->∀ b' q',L b'=some (s',q')->L b'=some (s',q')/\(w.setRow b arr').heap[b']?=w.heap[b']?:=fun s' h3 b' q' h4=>⟨h4,hheap b' (by
   rintro rfl
   rw[hnode.lab] at h4;simp at h4
   exact h3 h4.1.symm)⟩
  rcases ywk1 r (σ s) with h3 | ⟨h3,h4⟩
  ·rw[h3];trivial
  rw[h3];have h0:=hR.slot s;by_cases href:refOf (σ s)=some r
  ·cases hss:σ s with
   | ref r' q' n' =>
    rw[hss] at href h0
    simp[refOf] at href
    subst href;obtain rfl:=h4 q' n' (by rw[hss])
    obtain⟨h5,h6⟩:=h0;refine⟨(rootk r' h5).1,?_⟩
    rcases h6 with⟨h7,h8,h9⟩ | ⟨q1,i1,o1,b1,arr1,e1',h7,h8,h9,h10,h11,h12⟩
    ·exact .inl ⟨by rw[(rootk r' h5).2];exact h7,h8,h9⟩
    right
    by_cases hb1:b1=b
    ·subst hb1
     rw[hnode.heap] at h10;simp at h10
     obtain⟨rfl,rfl⟩:=h10;refine⟨q1,i1,o1,b1,arr',e,h7,fun h=>by rw[(rootk r' h5).2];exact h8 h,h9,hheapb,?_,h12⟩
     have hk:=ha3 (i1*esz P e+o1)
     have hlt:i1*esz P e+o1<arr.size:=(Array.getElem?_eq_some_iff.1 h11).1
     have hnin:¬ (i*esz P e+oo<=i1*esz P e+o1/\i1*esz P e+o1<i*esz P e+oo+n):=by
      rintro⟨h13,h14⟩
      have hj:(i1*esz P e+o1)-(i*esz P e+oo)<n:=by omega
      have hjr:oo+((i1*esz P e+o1)-(i*esz P e+oo))<row.length:=by omega
      have hcell:=(hnode.cell hrow (List.getElem?_eq_getElem hjr)).2
      have hmem:row[oo+((i1*esz P e+o1)-(i*esz P e+oo))]∈old.take n:=by
       rw[hold];refine List.mem_of_getElem? (i:=(i1*esz P e+o1)-(i*esz P e+oo)) ?_
       rw[List.getElem?_take,if_pos hj,List.getElem?_drop,List.getElem?_eq_getElem hjr]
      obtain⟨v,hv⟩:=yxk1 hvo hmem;rw[hv] at hcell;have hscal:=hcell.raw_scal;rw[show i*esz P e+(oo+((i1*esz P e+o1)-(i*esz P e+oo)))=i1*esz P e+o1 from by omega] at hscal
      rw[Array.getD_eq_getD_getElem?,h11] at hscal;simp only[Option.getD_some] at hscal;rw[h12] at hscal;cases hscal
     rw[if_neg hnin] at hk;have hlt':i1*esz P e+o1<arr'.size:=by omega
     simp only[Array.getD_eq_getD_getElem?,h11,Option.getD_some] at hk;rw[Array.getElem?_eq_getElem hlt'] at hk ⊢
     simpa using hk
    exact⟨q1,i1,o1,b1,arr1,e1',h7,fun h=>by rw[(rootk r' h5).2];exact h8 h,h9,(hheap b1 hb1).trans h10,h11,h12⟩
   | addr r' q' =>
    rw[hss] at href h0
    simp[refOf] at href
    subst href;obtain⟨h5,q1,i1,o1,b1,arr1,e1',h7,h8,h9,h10,h11⟩:=h0;by_cases hb1:b1=b
    ·subst hb1
     rw[hnode.heap] at h10;simp at h10
     obtain⟨rfl,rfl⟩:=h10;exact⟨(rootk r' h5).1,q1,i1,o1,b1,arr',e,h7,fun h=>by rw[(rootk r' h5).2];exact h8 h,h9,hheapb,h11⟩
    exact⟨(rootk r' h5).1,q1,i1,o1,b1,arr1,e1',h7,fun h=>by rw[(rootk r' h5).2];exact h8 h,h9,(hheap b1 hb1).trans h10,h11⟩
   | _=>rw[hss] at href;simp[refOf] at href
  refine h0.keep hz (fun b' q' _ h5=>hlabk s hsr b' q' h5) fun x hxx hxr=>?_
  have hxr':x≠r:=fun h=>href (h▸hxx)
  exact⟨hlabk x hxr',rfl,(rootk x hxr).1,(rootk x hxr).2⟩
 rw[if_neg hsc] at hK
 have hmvr:∀ s,mv=some s->s≠r:=fun s h3 h4=>hne (h4▸h3)
 have hmvlt:∀ s,mv=some s->isRoot (σ s)=true:=fun s h3=>by
  rcases hvals with⟨h4,_⟩ | ⟨s',g',h4,h5,_⟩
  ·rw[h4] at h3;cases h3
  rw[h4] at h3;obtain rfl:=Option.some.inj h3;rcases h5 with h5 | h5 <;> rw[h5] <;> rfl
 let L':=stLab L r q0 i oo cs.length mv
 have hzk:∀ b',Zof w0 A L w b'->Zof w0 A L' (w.setRow b arr') b'/\(w.setRow b arr').heap[b']?=w.heap[b']?:=fun b' h3 =>
  ⟨⟨by simp[L',stLab,h3.1],by simpa using h3.2.1,h3.2.2⟩,hheap b' (hzb b' h3)⟩
 have hkeep:∀ s q' b',L b'=some (s,q')->mv≠some s->¬ (s=r/\under q0 i oo cs.length q')->L' b'=some (s,q'):=fun s q' b' h3 h4 h5=>yvk1 h3 h4 h5
 have hrne:mv≠some r:=hne
 have S:SetUp P (Zof w0 A L w) L w (Zof w0 A L' (w.setRow b arr')) L' (w.setRow b arr') r q0 i oo cs (fun j=>(a.eval ex).cells.getD j undef):=by
  refine⟨hzk,fun b' q' h3 h4=>hkeep r q' b' h3 hrne (fun h=>h4 h.2),fun b' q' h3 _ h5=>hheap b' ?_,fun j c hj=>?_⟩
  ·rintro rfl
   rw[hnode.lab] at h3;simp at h3
   exact h5 h3.symm
  rcases hvals with⟨_,hf⟩ | ⟨s,g',hms,hss,_,hf⟩
  ·exact((hf j _ hj).mono hzk).rep
  refine(hf j _ hj).move _ hzk fun b' q' h3=>⟨?_,hheap b' ?_⟩
  ·have hjl:j<cs.length:=(List.getElem?_eq_some_iff.1 hj).1
   show stLab L r q0 i oo cs.length mv b'=_
   simp only[List.singleton_append] at h3;simp[stLab,h3,hms,hjl]
  rintro rfl
  rw[hnode.lab] at h3;simp at h3
  exact hmvr s hms h3.1.symm
 have hroot:=fun σ' tm'=>yvc1 (σ':=σ') (tm':=tm') hR hown S B hg hg' (by omega) hb0 hnb
 -- the state in which what moved is gone
 have hgone:∀ s,s≠r->goneO σ mv s=.u\/(goneO σ mv s=σ s/\mv≠some s/\∀ x,refOf (σ s)=some x->mv≠some x):=by
  intro s hs;cases mv with
  | none=>exact .inr ⟨rfl,by simp,fun _ _=>by simp⟩
  | some m =>
   simp only[goneO,gone];by_cases hsm:s=m
   ·left;rw[if_pos hsm]
   rw[if_neg hsm];rcases ymm m (σ s) with⟨h3,h4⟩ | h3
   ·right;exact⟨h3,by simp;exact fun h=>hsm h.symm,fun x hx=>by simp;rintro rfl;exact h4 hx⟩
   left;exact h3
 have hgr:goneO σ mv r=σ r:=by
  cases mv with
  | none=>rfl
  | some m =>
   have:r≠m:=fun h=>hne (by rw[h])
   simp[goneO,gone,this,yii (yet hown)]
 refine fin _ L' hK ⟨hR.dfr,hR.siz,hev,yko1 hR.inj,fun b' l h3=>?_,fun s hs=>?_,hR.hA,hR.pin,fun s=>?_⟩
 ·rcases yqz h3 with⟨s,j,q',h4,h5,h6,rfl⟩ | ⟨h4,h5,h6⟩
  ·have:=hR.lab b' _ h5
   exact⟨by simpa using this.1,this.2.1,(hR.lab b _ hnode.lab).2.2⟩
  simpa using hR.lab b' l h4
 ·have hsr:s≠r:=by rintro rfl;have:=yet hown;rw[hR.out s hs] at this;simp[isRoot] at this
  simp only[stStruct,if_neg hsr];rcases hgone s hsr with h3 | ⟨h3,_⟩
  ·rw[h3];rfl
  rw[h3,hR.out s hs];rfl
 by_cases hsr:s=r
 ·subst hsr
  have:stStruct (goneO σ mv) s (q0++[(i,oo)]) cs s=setCs (σ s) (q0++[(i,oo)]) cs:=by simp[stStruct,hgr]
  rw[this];exact hroot _ _
 have e1:stStruct (goneO σ mv) r (q0++[(i,oo)]) cs s=killBx r (goneO σ mv s):=by simp[stStruct,hsr]
 rw[e1]
 rcases hgone s hsr with h3 | ⟨h3,h4,h5⟩
 ·rw[h3];trivial
 rw[h3]
 have rootk:∀ x,mv≠some x->isRoot (σ x)=true->isRoot (stStruct (goneO σ mv) r (q0++[(i,oo)]) cs x)=true/\isBox (stStruct (goneO σ mv) r (q0++[(i,oo)]) cs x)=isBox (σ x):=by
  intro x hxm hx;by_cases hxr:x=r
  ·subst hxr;simp only[stStruct,hgr];exact yyu hown
  have:goneO σ mv x=σ x:=by
   cases mv with
   | none=>rfl
   | some m =>
    have:x≠m:=fun h=>hxm (by rw[h])
    simp[goneO,gone,this,yii hx]
  simp only[stStruct,if_neg hxr,this,yhj1 hx];exact⟨hx,trivial⟩
 have hlabk:∀ s',s'≠r->mv≠some s'->∀ b' q',L b'=some (s',q')->L' b'=some (s',q')/\(w.setRow b arr').heap[b']?=w.heap[b']?:=fun s' h6 h7 b' q' h8=>⟨hkeep s' q' b' h8 h7 (fun h=>h6 h.1),hheap b' (by
  rintro rfl
  rw[hnode.lab] at h8;simp at h8
  exact h6 h8.1.symm)⟩
 rcases ylo1 r (σ s) with h6 | ⟨h6,h7⟩
 ·rw[h6];trivial
 rw[h6]
 have h0:=hR.slot s
 rcases h7 with h7 | ⟨y,h7⟩
 ·refine h0.keep hzk (fun b' q' _ h8=>hlabk s hsr h4 b' q' h8) fun x hxx hxr=>?_
  have hxr':x≠r:=fun h=>h7 (h▸hxx)
  have hxm:=h5 x hxx;exact⟨hlabk x hxr' hxm,rfl,(rootk x hxm hxr).1,(rootk x hxm hxr).2⟩
 rw[h7] at h0 ⊢
 obtain⟨h8,q1,i1,o1,b1,arr1,e1',h9,h10,h11,h12,h13⟩:=h0
 have hq1:q1=[]:=by
  have:=congrArg List.length h9
  simp at this
  exact this
 subst hq1
 have hl1:L' b1=some (r,[]):=hkeep r [] b1 h11 hrne (fun h=>yvm (by simp) h.2)
 refine⟨(rootk r hrne h8).1,[],i1,o1,b1,?_⟩
 by_cases hb1:b1=b
 ·subst hb1
  rw[hnode.heap] at h12;simp at h12
  obtain⟨rfl,rfl⟩:=h12;exact⟨arr',e,h9,fun h=>by rw[(rootk r hrne h8).2];exact h10 h,hl1,hheapb,h13⟩
 exact⟨arr1,e1',h9,fun h=>by rw[(rootk r hrne h8).2];exact h10 h,hl1,(hheap b1 hb1).trans h12,h13⟩
theorem yyk1 {σ:St} {a:Act} {w:World} {L:Lab} (hR:Rel P N N w0 A I σ a w L) {o:Oper} {t:TypeId} {ea ex:Operand} {K:St->Prop} {next:Act->World->Prop} {Q:Exit->Act->World->Prop} (hop:o.op=.store t ea ex)
  (h:stK P σ o t (evS σ ea) (evS σ ex) K) (hn:∀ w' σ' L',K σ'->Rel P N N w0 A I σ' a w' L'->next a w'):o.wp P a w next Q:=by
 obtain⟨hd,g,n,r,q,old,cs,mv,ht,hpos,hown,hea,hg,hle,hmv,hlen,hnb,hne,hK⟩:=h
 have hx:noTup (evS σ ex)=true:=by cases hx:evS σ ex <;> simp_all [noTup,mvCells]
 obtain⟨hsz,hvals⟩:=yqy1 hR (ysh hR 0 ex hx) hmv
 refine ype1 hR hop (cs:=cs) (mv:=mv) ⟨hd,g,n,r,q,old,ht,hpos,hown,hea,hg,hle,hlen,hnb,hne,hK⟩ hsz ?_ hn
 rcases hvals with⟨h1,hf⟩ | h1
 ·exact .inl ⟨h1,fun j c hj=>.inl (hf j c hj)⟩
 exact .inr h1
theorem yws1 {t e:TypeId} {x:Operand} (h:nilSl P t x=some e):x=.const (.slice none 0 0):=by
 unfold nilSl at h
 split at h
 ·rfl
 cases h
theorem ymo1 {σ:St} {a:Act} {w:World} {L:Lab} (hR:Rel P N N w0 A I σ a w L) {o:Oper} {t e:TypeId} {ea ex:Operand} {K:St->Prop} {next:Act->World->Prop} {Q:Exit->Act->World->Prop} (hop:o.op=.store t ea ex)
  (he:nilSl P t ex=some e) (h:stKc P σ o t (evS σ ea) [.sl (some e) []] none K) (hn:∀ w' σ' L',K σ'->Rel P N N w0 A I σ' a w' L'->next a w'):o.wp P a w next Q:=by
 obtain rfl:=yws1 he
 refine ype1 hR hop h rfl (.inl ⟨rfl,fun j c hj=>?_⟩) hn
 cases j with
 | zero =>
  simp at hj
  subst hj;exact .inr ⟨rfl,e,rfl⟩
 | succ j=>simp at hj
end Go.PV

/-
 A walk over pure values: assignments,boxes,results taken apart,calls that freeze.
 Conditions: none.
-/
namespace Go.PV
variable {P:Program} {N:Nat} {w0:World} {A:Nat->Prop} {I:Bor}
theorem Rel.drop {σ:St} {a:Act} {w:World} {L:Lab} (hR:Rel P N (N+1) w0 A I σ a w L):∃ L',Rel P N N w0 A I σ a w L':=by
 let L':Lab:=fun b=>match L b with
  | some (s,q)=>if s=N then none else some (s,q)
  | none=>none
 have hsome:∀ b l,L' b=some l->L b=some l/\l.1≠N:=by
  intro b l h;simp only[L'] at h;split at h
  ·rename_i s q hb
   split at h
   ·cases h
   rename_i hn;obtain rfl:=Option.some.inj h
   exact⟨hb,hn⟩
  cases h
 have hkeep:∀ s,s≠N->∀ b q,L b=some (s,q)->L' b=some (s,q)/\w.heap[b]?=w.heap[b]?:=fun s hs b q hb=>⟨by simp[L',hb,hs],rfl⟩
 have hz:∀ b,Zof w0 A L w b->Zof w0 A L' w b/\w.heap[b]?=w.heap[b]?:=fun b h=>⟨⟨by simp[L',h.1],h.2⟩,rfl⟩
 have rootN:∀ r,isRoot (σ r)=true->r≠N:=fun r hr e=>by subst e;rw[hR.out r (Nat.le_refl _)] at hr;simp[isRoot] at hr
 have labN:∀ r,isLab (σ r)=true->r≠N:=fun r hr e=>by subst e;rw[hR.out r (Nat.le_refl _)] at hr;simp[isLab] at hr
 refine⟨L',hR.dfr,hR.siz,hR.ev,fun b b' l h1 h2=>hR.inj _ _ _ (hsome b l h1).1 (hsome b' l h2).1,fun b l h=>?_,hR.out,hR.hA,hR.pin,fun s=>?_⟩
 ·have h1:=hR.lab b l (hsome b l h).1
  have h2:=(hsome b l h).2
  exact⟨h1.1,h1.2.1,by omega⟩
 refine(hR.slot s).keep hz (fun b q hr hb=>?_) fun r _ hr=>⟨hkeep r (rootN r hr),rfl,hr,rfl⟩
 exact hkeep s (labN s hr) b q hb
theorem yut {σ:St} {a:Act} {w:World} {L:Lab} {tv:Value} {sv:SV} (hR:Rel P N (N+1) w0 A I σ a w L) (h:RelS P (Zof w0 A L w) L w (tmOf a) σ N tv sv) (d:Option Tmp) (hd:∀ k,d=some k->I.pins.length<=k/\k<N) :
  ∃ L',Rel P N N w0 A I (putO d sv σ) (a.put d tv) w L':=by
 cases d with
 | none=>exact hR.drop
 | some k=>exact⟨_,hR.put (hd k rfl) h⟩
def toN (N:Nat):Path->Option (Nat×Path)
 | []=>none
 | x::q=>some (N,x::q)
theorem Rel.takeN {σ:St} {a:Act} {w:World} {L:Lab} (hR:Rel P N N w0 A I σ a w L) (r:Nat):Rel P N (N+1) w0 A I (gone σ r) a w (mapL L r (toN N)) :=
 hR.take (by omega) rfl fun q l h=>by
  cases q with
  | nil=>cases h
  | cons x q =>
   simp[toN] at h
   subst h;refine⟨by simp,fun b=>.inl fun hb=>?_,fun q' h'=>?_⟩
   ·have:=(hR.lab b _ hb).2.2;simp at this
   cases q' with
   | nil=>cases h'
   | cons y q'=>simp[toN] at h';simp[h']
theorem ymg1 {σ:St} {a:Act} {w:World} {L:Lab} (hR:Rel P N N w0 A I σ a w L) {r d:Nat} {g:Bool} {cs:List C} (hr:σ r=.ov g cs) (hd:I.pins.length<=d/\d<N) :
  ∃ L',Rel P N N w0 A I (trans σ r d) (a.put (some d) (tmOf a r)) w L':=by
 have h1:=hR.takeN r
 have hs:=hR.slot r
 rw[hr] at hs
 refine⟨relab (mapL L r (toN N)) N d,?_⟩
 unfold trans
 refine h1.put hd ?_
 rw[hr]
 refine RepV.keep hs (fun b h=>⟨⟨by simp[mapL,h.1],h.2⟩,rfl⟩) fun b j q hb=>⟨by simp[mapL,hb,toN],rfl⟩
theorem yno1 {σ:St} {a:Act} {w:World} {L:Lab} (hR:Rel P N N w0 A I σ a w L) {r d:Nat} {l:List SV} (hr:σ r=.tup l) (hd:I.pins.length<=d/\d<N) :
  ∃ L',Rel P N N w0 A I (trans σ r d) (a.put (some d) (tmOf a r)) w L':=by
 have h1:=hR.takeN r
 have hs:=hR.slot r
 rw[hr] at hs
 refine⟨relab (mapL L r (toN N)) N d,?_⟩
 unfold trans
 refine h1.put hd ?_
 rw[hr]
 have hz:∀ b,Zof w0 A L w b->Zof w0 A (mapL L r (toN N)) w b/\w.heap[b]?=w.heap[b]?:=fun b h=>⟨⟨by simp[mapL,h.1],h.2⟩,rfl⟩
 obtain⟨arr,e1,e2,e3⟩:=hs
 refine⟨arr,e1,e2,fun j y hj=>?_⟩
 have:=e3 j y hj
 cases y with
 | p v=>exact this
 | d g cs=>exact FrzV.mono this hz
 | ov g cs=>exact RepV.keep this hz fun b j q hb=>⟨by simp[mapL,hb,toN],rfl⟩
 | _=>trivial
theorem Rel.same {M:Nat} {σ:St} {a a':Act} {w:World} {L:Lab} (hR:Rel P N M w0 A I σ a w L) (hd:a'.defers=a.defers) (hs:a'.tmps.size=a.tmps.size) (ht:∀ s,a'.tmps.getD s undef=a.tmps.getD s undef) :
  Rel P N M w0 A I σ a' w L:=by
 have:(fun s=>a'.tmps.getD s undef)=fun s=>a.tmps.getD s undef:=funext ht
 refine⟨hd.trans hR.dfr,hs.trans hR.siz,hR.ev,hR.inj,hR.lab,hR.out,hR.hA,fun s v h=>(ht s).trans (hR.pin s v h),fun s=>?_⟩
 rw[this,ht]
 exact hR.slot s
theorem yfp {σ:St} {a:Act} {w:World} {L:Lab} (hR:Rel P N N w0 A I σ a w L) {s r:Nat} {n:Option Nat} {tv:Value} (h:RelS P (Zof w0 A L w) L w (tmOf a) σ s tv (.ref r [(0,0)] n))
  {g:Bool} {cs:List C} (hr:σ r=.ov g cs\/σ r=.d g cs) (hn:n=if g then some cs.length else none):tv=tmOf a r:=by
 have hs:=hR.slot r
 have hsh:VShape g (tmOf a r) cs.length:=by
  rcases hr with hr | hr <;> rw[hr] at hs <;> exact hs.1
 obtain⟨_,h⟩:=h
 rcases h with⟨_,_,h3⟩ | ⟨q0,i,o,b,arr,e,hq,hbx,_⟩
 ·subst hn
  cases g with
  | true=>exact h3.1
  | false =>
   simp only[Bool.false_eq_true,if_false] at h3;unfold VShape at hsh;simp only[Bool.false_eq_true,if_false] at hsh;rw[h3];show(tmOf a r).cells.getD 0 undef=_
   rw[hsh.1];rfl
 have hq0:q0=[]:=by
  have:=congrArg List.length hq
  simp at this
  exact this
 have:=hbx hq0
 rcases hr with hr | hr <;> rw[hr] at this <;> simp[isBox] at this
def dropP:Path->Path->Option Path
 | [],p=>some p
 | x::q,y::p=>if x=y then dropP q p else none
 | _::_,[]=>none
theorem dropP_iff:∀ {q p t:Path},dropP q p=some t↔p=q++t
 | [],p,t=>by simp[dropP]
 | x::q,y::p,t=>by
  simp only[dropP,List.cons_append,List.cons.injEq];by_cases h:x=y
  ·rw[if_pos h,dropP_iff (q:=q)];simp[h]
  rw[if_neg h];constructor
  ·intro h1;cases h1
  intro h1;exact absurd h1.1.symm h
 | x::q,[],t=>by simp[dropP]
theorem yxs1 {σ:St} {a:Act} {w:World} {L:Lab} (hR:Rel P N N w0 A I σ a w L) {r d s:Nat} {q:Path} {tv:Value} {c:C} {cs:List C} (h:RelS P (Zof w0 A L w) L w (tmOf a) σ s tv (.ref r q none))
  (hg:getRow (rows1 (σ r)) q=some (c::cs)) (hd:I.pins.length<=d/\d<N):∃ L',Rel P N N w0 A I (Go.PV.put (gone σ r) d (.ov false [c])) (a.put (some d) tv) w L':=by
 have hrep:=ywh1 hR h hg
 have hq:q≠[]:=by
  rintro rfl
  rcases h.2 with⟨_,h,_⟩ | ⟨q0,i,o,b,arr,e,h,_⟩
  ·cases h
  have:=congrArg List.length h;simp at this
 have h1:Rel P N (N+1) w0 A I (gone σ r) a w (mapL L r fun p=>(dropP q p).map fun t=>(N,(0,0)::t)):=by
  refine hR.take (by omega) ?_ fun p l hl=>?_
  ·cases hx:dropP q [] with
   | none=>rfl
   | some t=>exact absurd (List.append_eq_nil_iff.1 (dropP_iff.1 hx).symm).1 hq
  cases hx:dropP q p with
  | none=>rw[hx] at hl;cases hl
  | some t =>
   rw[hx] at hl;simp only[Option.map_some,Option.some.injEq] at hl;subst hl;refine⟨by simp,fun b=>.inl fun hb=>?_,fun p' h'=>?_⟩
   ·have:=(hR.lab b _ hb).2.2;simp at this
   cases hx':dropP q p' with
   | none=>rw[hx'] at h';cases h'
   | some t' =>
    rw[hx'] at h'
    simp only[Option.map_some,Option.some.injEq,Prod.mk.injEq,true_and,List.cons.injEq] at h'
    subst h'
    rw[dropP_iff.1 hx,dropP_iff.1 hx']
 refine⟨_,h1.put hd ⟨⟨ync hrep.oneCell,rfl⟩,fun j c' hj=>?_⟩⟩
 cases j with
 | succ j=>simp at hj
 | zero =>
  simp at hj
  subst hj;rw[ync hrep.oneCell];refine hrep.move [(0,0)] (fun b hb=>⟨⟨by simp[mapL,hb.1],hb.2⟩,rfl⟩) fun b t hb=>⟨?_,rfl⟩
  simp only[mapL,hb,if_true];rw[dropP_iff.2 rfl];rfl
theorem ydz1 {σ:St} {a:Act} {w:World} {L:Lab} (hR:Rel P N N w0 A I σ a w L) {o:Oper} {d:Nat} {x:Operand} {K:St->Prop} (hd:I.pins.length<=d/\d<N) (h:asgK P σ o d x K) :
  ∃ σ' L',K σ'/\Rel P N N w0 A I σ' (a.put (some d) (a.eval x)) w L':=by
 have put:∀ {sv:SV},K (Go.PV.put σ d sv)->RelS P (Zof w0 A L w) L w (tmOf a) σ N (a.eval x) sv->∃ σ' L',K σ'/\Rel P N N w0 A I σ' (a.put (some d) (a.eval x)) w L' :=
  fun {sv} hk hs=>⟨_,_,hk,hR.up.put hd hs⟩
 unfold asgK at h
 split at h
 ·obtain⟨e,sz,_,hk⟩:=h
  refine put hk ⟨⟨rfl,rfl⟩,fun j c hj=>?_⟩
  cases j with
  | zero=>simp at hj;subst hj;exact .onil
  | succ j=>simp at hj
 ·exact put h rfl
 ·exact put h rfl
 ·exact h.elim
 rename_i t
 have hev:=fun hx=>ysh hR N (.tmp t) hx
 have hst:=hR.slot t
 have anyS:∀ {sv:SV},σ t=sv->isLab sv=false->RelS P (Zof w0 A L w) L w (tmOf a) σ N (a.eval (.tmp t)) sv:=fun {sv} hs hr=>by
  have:=hst
  rw[hs] at this;refine RelS.keep (s:=t) (tv:=a.eval (.tmp t)) this (fun b h=>⟨h,rfl⟩) (fun b q h=>by rw[hr] at h;cases h) fun r _ hrt=>⟨fun _ _ h=>⟨h,rfl⟩,rfl,hrt,rfl⟩
 split at h
 ·rename_i g cs hs
  obtain⟨hne,hk⟩:=h;obtain⟨L',hr⟩:=ymg1 hR hs hd;exact⟨_,_,hk,hr⟩
 ·rename_i cs hs
  obtain⟨hne,hk⟩:=h;have:=hev (by simp[evS,hs,noTup])
  rw[show evS σ (.tmp t)=.addr t [(0,0)] from by simp[evS,hs]] at this
  exact put hk this
 ·rename_i r q n hs
  have hrel:=anyS hs rfl;split at h
  ·rename_i hrd
   subst hrd;obtain⟨hq,hn,hm,hk⟩:=h;subst hq hn
   refine⟨σ,L,hk,hR.same rfl (by simp[Act.put]) fun s=>?_⟩
   rw[yje1 a _ (hR.siz▸hd.2)];split
   ·rename_i hsr
    subst hsr;split at hm
    ·rename_i c hss
     exact yfp hR hrel (.inl hss) rfl
    exact hm.elim
   rfl
  rename_i hrd;split at h
  ·rename_i hq
   subst hq;split at h
   ·rename_i g cs hss
    obtain⟨hn,hk⟩:=h;obtain⟨L',hr⟩:=ymg1 hR hss hd;refine⟨_,L',hk,?_⟩
    rw[yfp hR hrel (.inl hss) hn];exact hr
   ·rename_i g cs hss
    obtain⟨hn,hk⟩:=h;refine put hk ?_
    have h2:=hR.slot r;rw[hss] at h2;rw[yfp hR hrel (.inr hss) hn];exact h2
   exact h.elim
  rcases h with h | ⟨c,cs,rfl,hg,hk⟩
  ·exact put h hrel
  obtain⟨L',hr⟩:=yxs1 hR hrel hg hd;exact⟨_,L',hk,hr⟩
 ·exact h.elim
 ·rename_i r q hs
  exact put h.2 (anyS hs rfl)
 rename_i h1 h2 h3 h4 h5
 refine put h ?_
 cases hs:σ t with
 | u=>trivial
 | p v=>exact anyS hs rfl
 | d g cs=>rw[hs] at hst;exact hst
 | fadr cs=>exact anyS hs rfl
 | ov g cs=>exact absurd hs (h1 g cs)
 | box cs=>exact absurd hs (h2 cs)
 | ref r q n=>exact absurd hs (h3 r q n)
 | tup l=>exact absurd hs (h4 l)
 | addr r q=>exact absurd hs (h5 r q)
theorem ytq1 {t:TypeId} (v:Value) (w:World):(Instr.box t v).run P w=.ok (.pointer (some ⟨w.heap.size,0,none⟩)) (w.alloc (.cells v.cells t)):=by
 simp[Instr.box,newVar,newRow]
theorem Rel.alloc2 {σ:St} {a:Act} {w:World} {L:Lab} (hR:Rel P N (N+1) w0 A I σ a w L) (cells:Array Value) (e:TypeId) (q:Path) (hfree:∀ b,L b≠some (N,q)) :
  Rel P N (N+1) w0 A I σ a (w.alloc (.cells cells e)) (lab1 L w.heap.size N q):=by
 have hb:∀ b l,L b=some l->b<w.heap.size:=fun b l h=>(hR.lab b l h).1
 have hz:∀ b,Zof w0 A L w b->Zof w0 A (lab1 L w.heap.size N q) (w.alloc (.cells cells e)) b/\(w.alloc (.cells cells e)).heap[b]?=w.heap[b]?:=fun b ⟨h1,h2,h3⟩ =>
  ⟨⟨by simp[lab1,h1];omega,by simp;omega,h3⟩,heap_alloc_old w _ b h2⟩
 have hlab:∀ s b q',L b=some (s,q')->lab1 L w.heap.size N q b=some (s,q')/\(w.alloc (.cells cells e)).heap[b]?=w.heap[b]?:=fun s b q' h =>
  ⟨by have:=hb b _ h;simp[lab1,h];omega,heap_alloc_old w _ b (hb b _ h)⟩
 have hsz:=hR.ev.size
 refine⟨hR.dfr,hR.siz,⟨hR.ev.os,hR.ev.tape,hR.ev.output,by simp;omega,fun b h1 h2=>(heap_alloc_old w _ b (by omega)).trans (hR.ev.block b h1 h2)⟩,?_,?_,hR.out,hR.hA,hR.pin,fun s=>?_⟩
 ·intro b b' l h1 h2
  simp only[lab1] at h1 h2;split at h1 <;> split at h2
  ·omega
  ·obtain rfl:=Option.some.inj h1;exact absurd h2 (hfree b')
  ·obtain rfl:=Option.some.inj h2;exact absurd h1 (hfree b)
  exact hR.inj _ _ _ h1 h2
 ·intro b l h
  simp only[lab1] at h;split at h
  ·obtain rfl:=Option.some.inj h;subst b;exact⟨by simp,.inl hsz,by simp⟩
  have:=hR.lab b l h;exact⟨by simp;omega,this.2⟩
 exact(hR.slot s).keep hz (fun b q' _ h=>hlab s b q' h) fun r _ hr=>⟨hlab r,rfl,hr,rfl⟩
theorem yez1 {σ:St} {a:Act} {w:World} {L:Lab} (hR:Rel P N N w0 A I σ a w L) {x:Operand} {t:TypeId} {cs:List C} {mv:Option Nat} (hm:mvCells σ (evS σ x)=some (cs,mv)) (hnb:nb cs=true) :
  ∃ v w' L1,(Instr.box t (a.eval x)).run P w=.ok v w'/\Rel P N (N+1) w0 A I (goneO σ mv) a w' L1/\RelS P (Zof w0 A L1 w') L1 w' (tmOf a) (goneO σ mv) N v (.box cs):=by
 have hx:noTup (evS σ x)=true:=by cases hx:evS σ x <;> simp_all [noTup,mvCells]
 obtain⟨hsz,hv⟩:=yqy1 hR (ysh hR 0 x hx) hm
 rcases hv with⟨rfl,hf⟩ | ⟨r,g,rfl,hr,htv,hf⟩
 ·have h1:=hR.alloc (a.eval x).cells t []
  refine⟨_,_,_,ytq1 _ w,h1,w.heap.size,rfl,by simp[lab1],_,t,yyd _ _,hsz,fun j c hj=>⟨.frz ((hf j c hj).mono fun b ⟨h2,h3,h4⟩=>?_),fun t' hc=>absurd hc (ykk1 hnb hj)⟩⟩
  exact⟨⟨by simp[lab1,h2];omega,by simp;omega,h4⟩,heap_alloc_old w _ b h3⟩
 have h0:=hR.takeN r
 have h1:=h0.alloc2 (a.eval x).cells t [] (fun b hb=>by
  rcases yuu hb with⟨q,_,hq⟩ | ⟨hb,_⟩
  ·cases q <;> simp[toN] at hq
  have:=(hR.lab b _ hb).2.2;simp at this)
 refine⟨_,_,_,ytq1 _ w,h1,w.heap.size,rfl,by simp[lab1],_,t,yyd _ _,hsz,fun j c hj=>⟨?_,fun t' hc=>absurd hc (ykk1 hnb hj)⟩⟩
 refine(hf j c hj).move [(0,j)] (fun b ⟨h2,h3,h4⟩=>⟨⟨by simp[lab1,mapL,h2];omega,by simp;omega,h4⟩,heap_alloc_old w _ b h3⟩) fun b q hb=>?_
 have:=(hR.lab b _ hb).1
 refine⟨?_,heap_alloc_old w _ b this⟩
 simp only[List.singleton_append] at hb ⊢
 simp[lab1,mapL,hb,toN]
 omega
def toNk (N k:Nat):Path->Option (Nat×Path)
 | (i,o)::q=>if i=k then some (N,(0,o)::q) else none
 | []=>none
theorem yzk1 {σ:St} {a:Act} {w:World} {L:Lab} (hR:Rel P N N w0 A I σ a w L) {t k:Nat} {l:List SV} {g:Bool} {cs:List C} (ht:σ t=.tup l) (hk:l[k]?=some (.ov g cs)) :
  ∃ v L1,(Instr.extract (tmOf a t) k).run P w=.ok v w/\Rel P N (N+1) w0 A I (upd σ t (.tup (l.set k .u))) a w L1/\RelS P (Zof w0 A L1 w) L1 w (tmOf a) (upd σ t (.tup (l.set k .u))) N v (.ov g cs):=by
 have hs:=hR.slot t
 rw[ht] at hs
 obtain⟨arr,h1,h2,h3⟩:=hs
 have hkl:k<l.length:=(List.getElem?_eq_some_iff.1 hk).1
 have h4:=h3 k _ hk
 let L1:Lab:=fun b=>match L b with
  | some (s,q)=>if s=t then(match q with
    | (i,o)::q'=>if i=k then some (N,(0,o)::q') else some (t,(i,o)::q')
    | []=>some (t,[])) else some (s,q)
  | none=>none
 have hsome:∀ b l,L1 b=some l->(∃ o q',L b=some (t,(k,o)::q')/\l=(N,(0,o)::q'))\/(L b=some l/\(l.1=t->∀ o q',l.2≠(k,o)::q')):=by
  intro b l h;simp only[L1] at h;split at h
  ·rename_i s q hb
   split at h
   ·rename_i hst
    subst hst;split at h
    ·rename_i i o q'
     split at h
     ·rename_i hik
      subst hik;obtain rfl:=Option.some.inj h
      exact .inl ⟨o,q',hb,rfl⟩
     rename_i hik;obtain rfl:=Option.some.inj h
     exact .inr ⟨hb,fun _ o' q'' h=>by simp at h;exact hik h.1.1⟩
    obtain rfl:=Option.some.inj h
    exact .inr ⟨hb,fun _ o' q'' h=>by simp at h⟩
   rename_i hst;obtain rfl:=Option.some.inj h
   exact .inr ⟨hb,fun h=>absurd h hst⟩
  cases h
 have hkeep:∀ b s q,L b=some (s,q)->(s=t->∀ o q',q≠(k,o)::q')->L1 b=some (s,q)/\w.heap[b]?=w.heap[b]?:=by
  intro b s q hb hn;refine⟨?_,rfl⟩
  simp only[L1,hb];split
  ·rename_i hst
   subst hst;split
   ·rename_i i o q'
    rw[if_neg];rintro rfl
    exact hn rfl o q' rfl
   rfl
  rfl
 have hz:∀ b,Zof w0 A L w b->Zof w0 A L1 w b/\w.heap[b]?=w.heap[b]?:=fun b h=>⟨⟨by simp[L1,h.1],h.2⟩,rfl⟩
 have htN:t<N:=by
  rcases Nat.lt_or_ge t N with h | h
  ·exact h
  rw[hR.out t h] at ht;cases ht
 refine⟨arr.getD k undef,L1,?_,⟨hR.dfr,hR.siz,hR.ev,?_,?_,?_,hR.hA,hR.pin,fun s=>?_⟩,?_⟩
 ·rw[show tmOf a t=.tuple arr from h1]
  simp[Instr.extract,show k<arr.size by omega]
 ·intro b b' l' e1 e2
  rcases hsome b l' e1 with⟨o,q',f1,g1⟩ | ⟨f1,g1⟩ <;> rcases hsome b' l' e2 with⟨o2,q2,f2,g2⟩ | ⟨f2,g2⟩
  ·subst g1;simp at g2
   obtain⟨rfl,rfl⟩:=g2;exact hR.inj _ _ _ f1 f2
  ·subst_vars;have:=(hR.lab b' _ f2).2.2;simp at this
  ·subst g2
   have:=(hR.lab b _ f1).2.2;simp at this
  exact hR.inj _ _ _ f1 f2
 ·intro b l' e1
  rcases hsome b l' e1 with⟨o,q',f1,rfl⟩ | ⟨f1,g1⟩
  ·have:=hR.lab b _ f1
   exact⟨this.1,this.2.1,by simp⟩
  have:=hR.lab b _ f1
  exact⟨this.1,this.2.1,by omega⟩
 ·intro s hs
  have:s≠t:=by omega
  simp[upd,this,hR.out s hs]
 ·by_cases hst:s=t
  ·subst hst
   simp only[upd,if_true];refine⟨arr,h1,by simpa using h2,fun j y hj=>?_⟩
   rw[List.getElem?_set] at hj;by_cases hjk:k=j
   ·subst hjk
    simp[hkl] at hj
    subst hj;trivial
   rw[if_neg hjk] at hj;have h5:=h3 j y hj;cases y with
   | p v=>exact h5
   | d g cs=>exact FrzV.mono h5 hz
   | ov g cs=>exact RepV.keep h5 hz fun b jj q hb=>hkeep b s _ hb (fun _ o' q' h=>by simp at h;exact hjk h.1.1.symm)
   | _=>trivial
  have e:upd σ t (.tup (l.set k .u)) s=σ s:=by simp[upd,hst]
  rw[e];refine(hR.slot s).keep hz (fun b q _ hb=>hkeep b s q hb (fun h=>absurd h hst)) fun r hr hrt=>?_
  by_cases hrt2:r=t
  ·subst hrt2
   rw[ht] at hrt;simp[isRoot] at hrt
  exact⟨fun b q hb=>hkeep b r q hb (fun h=>absurd h hrt2),rfl,by simp[upd,hrt2];exact hrt,by simp[upd,hrt2]⟩
 exact RepV.keep h4 hz fun b j q hb=>⟨by simp[L1,hb],rfl⟩
end Go.PV

/-
 A walk over pure values: appends are sound.
 Conditions: none.
-/
namespace Go.PV
variable {P:Program} {N:Nat} {w0:World} {A:Nat->Prop} {I:Bor}
structure Leave (N:Nat) (gn:Nat->Prop) (L:Lab) (w:World) (L1:Lab) (w':World):Prop where
 os:w'.os=w.os
 tape:w'.tape=w.tape
 output:w'.output=w.output
 size:w.heap.size<=w'.heap.size
 blk:∀ b,b<w.heap.size->(∀ s p,L b=some (s,p)->¬ gn s)->w'.heap[b]?=w.heap[b]?
 keep:∀ b s p,L b=some (s,p)->¬ gn s->L1 b=some (s,p)
 zer:∀ b,b<w.heap.size->L b=none->L1 b=none
 lab:∀ b l,L1 b=some l->b<w'.heap.size/\((L b=some l/\¬ gn l.1)\/(l.1=N/\(w.heap.size<=b\/∃ s p,L b=some (s,p)/\p≠[])))
 inj:∀ b b' l,L1 b=some l->L1 b'=some l->b=b'
theorem Rel.leave {σ σ':St} {a:Act} {w w':World} {L L1:Lab} {gn:Nat->Prop} (hR:Rel P N N w0 A I σ a w L) (V:Leave N gn L w L1 w')
  (hσ:∀ s,σ' s=.u\/(σ' s=σ s/\¬ gn s/\∀ x,refOf (σ s)=some x->¬ gn x)) (hroot:∀ x,isRoot (σ x)=true->¬ gn x->σ' x=σ x):Rel P N (N+1) w0 A I σ' a w' L1:=by
 have hsz:=hR.ev.size
 have hz:∀ b,Zof w0 A L w b->Zof w0 A L1 w' b/\w'.heap[b]?=w.heap[b]?:=fun b ⟨h1,h2,h3⟩ =>
  ⟨⟨V.zer b h2 h1,by have:=V.size;omega,h3⟩,V.blk b h2 fun s p h=>by rw[h1] at h;cases h⟩
 have hlab:∀ s,¬ gn s->∀ b q,L b=some (s,q)->L1 b=some (s,q)/\w'.heap[b]?=w.heap[b]?:=fun s hs b q hb =>
  ⟨V.keep b s q hb hs,V.blk b (hR.lab b _ hb).1 fun s' p' h=>by rw[hb] at h;simp at h;rw[← h.1];exact hs⟩
 refine⟨hR.dfr,hR.siz,⟨V.os.trans hR.ev.os,V.tape.trans hR.ev.tape,V.output.trans hR.ev.output,Nat.le_trans hsz V.size,fun b h1 h2=>?_⟩,V.inj,fun b l h=>?_,fun s hs=>?_,hR.hA,hR.pin,fun s=>?_⟩
 ·refine(V.blk b (by omega) fun s p h _=>?_).trans (hR.ev.block b h1 h2)
  rcases(hR.lab b _ h).2.1 with h3 | h3
  ·omega
  exact h2 h3
 ·obtain⟨h1,h2⟩:=V.lab b l h
  refine⟨h1,?_⟩
  rcases h2 with⟨h2,_⟩ | ⟨h2,h3⟩
  ·have:=hR.lab b l h2;exact⟨this.2.1,by omega⟩
  refine⟨?_,by omega⟩
  rcases h3 with h3 | ⟨s,p,h3,h4⟩
  ·exact .inl (by omega)
  exact(hR.lab b _ h3).2.1
 ·rcases hσ s with h | ⟨h,_⟩
  ·exact h
  rw[h,hR.out s hs]
 rcases hσ s with h | ⟨h,hg,hx⟩
 ·rw[h];trivial
 rw[h]
 refine(hR.slot s).keep hz (fun b q _ hb=>hlab s hg b q hb) fun r hr hrt=>?_
 have hgr:=hx r hr
 have e:=hroot r hrt hgr
 exact⟨hlab r hgr,rfl,by rw[e];exact hrt,by rw[e]⟩
theorem ymv1 {σ:St} {a:Act} {w:World} {L:Lab} (hR:Rel P N N w0 A I σ a w L) {s:Nat} {tv:Value} {sv:SV} {rows:List (List C)} {mv:Option Nat} (h:RelS P (Zof w0 A L w) L w (tmOf a) σ s tv sv)
  (hs:addRows σ sv=some (rows,mv)) :
  (mv=none\/∃ m e,mv=some m/\σ m=.ov false [.sl (some e) rows]) /\
  ((rows=[]/\∃ ad cap,tv=.slice ad 0 cap)\/∃ (b off cap sz:Nat) (vs:Nat->Nat->Value),tv=.slice (some ⟨b,off,none⟩) rows.length cap/\(∀ row∈rows,row.length=sz) /\
   ∀ (i:Nat) (row:List C) (o:Nat) (c:C),rows[i]?=some row->row[o]?=some c->w.cell? ⟨b,off+i*sz+o,none⟩=some (vs i o) /\
    ((mv=none/\Frz (Zof w0 A L w) w (vs i o) c)\/∃ m,mv=some m/\Rep P (Zof w0 A L w) L w m [(0,0),(i,o)] (vs i o) c)):=by
 have hrt:∀ r,σ r=σ r\/σ r=.u:=fun _=>.inl rfl
 unfold addRows at hs
 split at hs
 ·rename_i rows' hsl
  simp at hs
  obtain⟨rfl,rfl⟩:=hs;refine⟨.inl rfl,?_⟩
  rcases yle1 hR hrt h hsl with⟨_,hf⟩ | ⟨_,_,_,_,h1,_⟩
  ·rcases hf.sl_inv with h1 | ⟨b,off,cap,sz,vs,h1,h2,h3,h4,h5,h6⟩
   ·exact .inl h1
   exact .inr ⟨b,off,cap,sz,vs,h1,h4,fun i row o c a b=>⟨h5 i row o c a b,.inl ⟨rfl,h6 i row o c a b⟩⟩⟩
  cases h1
 ·rename_i e rows' hsl
  split at hs
  ·rename_i r
   split at hs
   ·rename_i e' rows'' hσr
    simp at hs
    obtain⟨rfl,rfl⟩:=hs;rcases yle1 hR hrt h hsl with⟨h1,_⟩ | ⟨r',q',e2,h1,h2,hrep,cs,hg⟩
    ·cases h1
    simp at h1
    obtain⟨rfl,rfl⟩:=h1;rw[hσr] at hg;simp[rows1,getRow] at hg
    obtain⟨⟨rfl,rfl⟩,rfl⟩:=hg;refine⟨.inr ⟨r,e',rfl,hσr⟩,?_⟩
    rcases hrep.node with⟨rfl,rfl⟩ | ⟨b,arr,cap,rfl,h3,h4,h5,h6,hn⟩
    ·exact .inl ⟨rfl,_,_,rfl⟩
    refine .inr ⟨b,0,cap,esz P e',fun i o=>arr.getD (i*esz P e'+o) undef,rfl,h6,fun i row o c a b=>?_⟩
    have:=hn.cell a b
    exact⟨by simpa using this.1,.inr ⟨r,rfl,by simpa using this.2⟩⟩
   cases hs
  cases hs
 cases hs
def flat (sz m:Nat) (vs:Nat->Nat->Value):List Value:=(List.range (m*sz)).map fun k=>vs (k / sz) (k % sz)
theorem yzq (sz m:Nat) (vs:Nat->Nat->Value):(flat sz m vs).length=m*sz:=by simp[flat]
theorem yng1 {sz m i o:Nat} {vs:Nat->Nat->Value} (hi:i<m) (ho:o<sz):(flat sz m vs)[i*sz+o]?=some (vs i o):=by
 have hlt:i*sz+o<m*sz:=by
  calc i*sz+o<i*sz+sz:=by omega
   _=(i+1)*sz:=by rw[Nat.add_mul,Nat.one_mul]
   _<=m*sz:=Nat.mul_le_mul_right _ (by omega)
 have h1:(i*sz+o) / sz=i:=by
  rw[Nat.mul_comm,Nat.mul_add_div (by omega),Nat.div_eq_of_lt ho,Nat.add_zero]
 have h2:(i*sz+o) % sz=o:=by rw[Nat.mul_comm,Nat.mul_add_mod,Nat.mod_eq_of_lt ho]
 simp[flat,hlt,h1,h2]
theorem yog1 {sz m k:Nat} {vs:Nat->Nat->Value} {v:Value} (h:(flat sz m vs)[k]?=some v):∃ i o,i<m/\o<sz/\k=i*sz+o/\v=vs i o:=by
 have hk:k<m*sz:=by have:=(List.getElem?_eq_some_iff.1 h).1;rwa [yzq] at this
 have hsz:0<sz:=by
  rcases Nat.eq_zero_or_pos sz with h | h
  ·subst h;simp at hk
  exact h
 refine⟨k / sz,k % sz,(Nat.div_lt_iff_lt_mul hsz).2 hk,Nat.mod_lt _ hsz,?_,?_⟩
 ·have:=Nat.div_add_mod k sz;rw[Nat.mul_comm] at this;omega
 simp[flat,hk] at h;exact h.symm
def apL (N:Nat) (L:Lab) (r mv:Option Nat) (n g:Nat):Lab:=fun b=>if b=g then some (N,[(0,0)]) else match L b with
 | some (s,p)=>if r=some s then(match p with
   | (0,0)::(i,o)::p'=>if i<n then some (N,(0,0)::(i,o)::p') else none
   | _=>none)
  else if mv=some s then(match p with
   | (0,0)::(i,o)::p'=>some (N,(0,0)::(n+i,o)::p')
   | _=>none)
  else some (s,p)
 | none=>none
theorem ypg1 {L:Lab} {r mv:Option Nat} {n g b:Nat} {l:Nat×Path} (h:apL N L r mv n g b=some l) :
  (b=g/\l=(N,[(0,0)]))\/(b≠g/\∃ s i o p',r=some s/\L b=some (s,(0,0)::(i,o)::p')/\i<n/\l=(N,(0,0)::(i,o)::p')) \/
  (b≠g/\∃ s i o p',mv=some s/\L b=some (s,(0,0)::(i,o)::p')/\l=(N,(0,0)::(n+i,o)::p'))\/(b≠g/\L b=some l/\r≠some l.1/\mv≠some l.1):=by
 unfold apL at h
 split at h
 ·rename_i hb;exact .inl ⟨hb,(Option.some.inj h).symm⟩
 rename_i hb
 right
 split at h
 ·rename_i s p hl
  split at h
  ·rename_i hr
   split at h
   ·rename_i i o p'
    split at h
    ·rename_i hi;exact .inl ⟨hb,s,i,o,p',hr,hl,hi,(Option.some.inj h).symm⟩
    cases h
   cases h
  rename_i hr;split at h
  ·rename_i hm
   split at h
   ·rename_i i o p';exact .inr (.inl ⟨hb,s,i,o,p',hm,hl,(Option.some.inj h).symm⟩)
   cases h
  rename_i hm;obtain rfl:=Option.some.inj h
  exact .inr (.inr ⟨hb,hl,hr,hm⟩)
 cases h
theorem yqg1 {σ σ':St} {a:Act} {w w':World} {L:Lab} (hR:Rel P N N w0 A I σ a w L) {r mv:Option Nat} {rows rows2:List (List C)} {g cap:Nat} {arr:Array Value} {e:TypeId} (hne:mv=none\/mv≠r)
  (hos:w'.os=w.os) (htp:w'.tape=w.tape) (hou:w'.output=w.output) (hsz:w.heap.size<=w'.heap.size) (hgl:g<w'.heap.size)
  (hg:w.heap.size<=g\/∃ s,r=some s/\L g=some (s,[(0,0)])) (hblk:∀ b,b<w.heap.size->b≠g->w'.heap[b]?=w.heap[b]?)
  (harr:w'.heap[g]?=some (.cells arr e (0,0))) (hcap:rows.length+rows2.length<=cap) (hm:cap<=maxLen) (ha:arr.size=cap*esz P e) (hu:∀ row∈rows,row.length=esz P e) (hu2:∀ row∈rows2,row.length=esz P e)
  (hk1:∀ (i:Nat) (row:List C) (o:Nat) (c:C),rows[i]?=some row->row[o]?=some c->∃ s,r=some s/\Rep P (Zof w0 A L w) L w s [(0,0),(i,o)] (arr.getD (i*esz P e+o) undef) c)
  (hk2:∀ (i:Nat) (row:List C) (o:Nat) (c:C),rows2[i]?=some row->row[o]?=some c ->
   (Frz (Zof w0 A L w) w (arr.getD ((rows.length+i)*esz P e+o) undef) c)\/∃ s,mv=some s/\Rep P (Zof w0 A L w) L w s [(0,0),(i,o)] (arr.getD ((rows.length+i)*esz P e+o) undef) c)
  (hσ:∀ s,σ' s=.u\/(σ' s=σ s/\¬ (r=some s\/mv=some s)/\∀ x,refOf (σ s)=some x->¬ (r=some x\/mv=some x))) (hroot:∀ x,isRoot (σ x)=true->¬ (r=some x\/mv=some x)->σ' x=σ x) :
  ∃ L1,Rel P N (N+1) w0 A I σ' a w' L1/\RelS P (Zof w0 A L1 w') L1 w' (tmOf a) σ' N (.slice (some ⟨g,0,none⟩) (rows.length+rows2.length) cap) (.ov false [.sl (some e) (rows++rows2)]):=by
 have hlt:∀ b l,L b=some l->b<w.heap.size/\l.1<N:=fun b l h=>⟨(hR.lab b l h).1,(hR.lab b l h).2.2⟩
 have hgx:∀ s p,L g=some (s,p)->r=some s:=by
  intro s p h;rcases hg with h1 | ⟨s',h1,h2⟩
  ·have:=(hlt g _ h).1;omega
  rw[h2] at h;simp at h;rw[← h.1];exact h1
 have V:Leave N (fun s=>r=some s\/mv=some s) L w (apL N L r mv rows.length g) w':=by
  refine⟨hos,htp,hou,hsz,fun b hb hn=>hblk b hb ?_,fun b s p hb hn=>?_,fun b hb hn=>?_,fun b l hl=>?_,fun b b' l h1 h2=>?_⟩
  ·rintro rfl
   rcases hg with h1 | ⟨s',h1,h2⟩
   ·omega
   exact hn s' _ h2 (.inl h1)
  ·have hbg:b≠g:=by rintro rfl;exact hn (.inl (hgx s p hb))
   have h1:¬ r=some s:=fun h=>hn (.inl h)
   have h2:¬ mv=some s:=fun h=>hn (.inr h)
   simp[apL,hbg,hb,h1,h2]
  ·have hbg:b≠g:=by
    rintro rfl
    rcases hg with h1 | ⟨s',h1,h2⟩
    ·omega
    rw[hn] at h2;cases h2
   simp[apL,hbg,hn]
  ·rcases ypg1 hl with⟨rfl,rfl⟩ | ⟨_,s,i,o,p',_,hb,_,rfl⟩ | ⟨_,s,i,o,p',_,hb,rfl⟩ | ⟨_,hb,h1,h2⟩
   ·refine⟨hgl,.inr ⟨rfl,?_⟩⟩
    rcases hg with h1 | ⟨s',h1,h2⟩
    ·exact .inl h1
    exact .inr ⟨s',_,h2,by simp⟩
   ·exact⟨by have:=(hlt b _ hb).1;omega,.inr ⟨rfl,.inr ⟨s,_,hb,by simp⟩⟩⟩
   ·exact⟨by have:=(hlt b _ hb).1;omega,.inr ⟨rfl,.inr ⟨s,_,hb,by simp⟩⟩⟩
   exact⟨by have:=(hlt b _ hb).1;omega,.inl ⟨hb,fun h=>h.elim h1 h2⟩⟩
  rcases ypg1 h1 with⟨rfl,rfl⟩ | ⟨_,s,i,o,p',hr,hb,hi,rfl⟩ | ⟨_,s,i,o,p',hm',hb,rfl⟩ | ⟨_,hb,_,_⟩ <;>
   rcases ypg1 h2 with⟨rfl,h3⟩ | ⟨_,s2,i2,o2,p2,hr2,hb2,hi2,h3⟩ | ⟨_,s2,i2,o2,p2,hm2,hb2,h3⟩ | ⟨_,hb2,_,_⟩
  ·rfl
  ·simp at h3
  ·simp at h3
  ·have:=(hlt _ _ hb2).2;simp at this
  ·simp at h3
  ·simp at h3
   obtain⟨⟨rfl,rfl⟩,rfl⟩:=h3;rw[hr] at hr2;obtain rfl:=Option.some.inj hr2
   exact hR.inj _ _ _ hb hb2
  ·simp at h3;omega
  ·have:=(hlt _ _ hb2).2;simp at this
  ·simp at h3
  ·simp at h3;omega
  ·simp at h3
   obtain⟨⟨h4,rfl⟩,rfl⟩:=h3;rw[hm'] at hm2;obtain rfl:=Option.some.inj hm2
   rw[show i=i2 from by omega] at hb;exact hR.inj _ _ _ hb hb2
  ·have:=(hlt _ _ hb2).2;simp at this
  ·subst h3;have:=(hlt _ _ hb).2;simp at this
  ·subst h3;have:=(hlt _ _ hb).2;simp at this
  ·subst h3;have:=(hlt _ _ hb).2;simp at this
  exact hR.inj _ _ _ hb hb2
 have hrel:=hR.leave (σ':=σ') V hσ hroot
 refine⟨_,hrel,⟨rfl,rfl⟩,fun j c hj=>?_⟩
 cases j with
 | succ j=>simp at hj
 | zero =>
  simp at hj
  subst hj;have hz:∀ b,Zof w0 A L w b->Zof w0 A (apL N L r mv rows.length g) w' b/\w'.heap[b]?=w.heap[b]?:=fun b ⟨h1,h2,h3⟩ =>
   ⟨⟨V.zer b h2 h1,by omega,h3⟩,V.blk b h2 fun s p h=>by rw[h1] at h;cases h⟩
  have hnb:∀ b s i o p',L b=some (s,(0,0)::(i,o)::p')->b≠g:=by
   rintro b s i o p' hb rfl
   rcases hg with h1 | ⟨s',_,h2⟩
   ·have:=(hlt b _ hb).1;omega
   rw[hb] at h2;simp at h2
  have key:Rep P (Zof w0 A (apL N L r mv rows.length g) w') (apL N L r mv rows.length g) w' N [(0,0)] (.slice (some ⟨g,0,none⟩) (rows++rows2).length cap) (.sl (some e) (rows++rows2)):=by
   refine .own (by simp[apL]) harr (by simpa using hcap) hm ha (fun row hrow=>by rcases List.mem_append.1 hrow with h | h;exact hu row h;exact hu2 row h) fun k row o c h1 h2=>?_
   by_cases hk:k<rows.length
   ·rw[List.getElem?_append_left hk] at h1
    obtain⟨s,hr,hrep⟩:=hk1 k row o c h1 h2;refine hrep.move [(0,0),(k,o)] hz fun b q hb=>?_
    simp only[List.cons_append,List.nil_append] at hb ⊢;have hbg:=hnb b s _ _ _ hb;refine⟨by simp[apL,hbg,hb,hr,hk],hblk b (hlt b _ hb).1 hbg⟩
   rw[List.getElem?_append_right (by omega)] at h1;have hke:rows.length+(k-rows.length)=k:=by omega
   rcases hk2 (k-rows.length) row o c h1 h2 with hf | ⟨s,hr,hrep⟩
   ·rw[hke] at hf
    exact .frz (hf.mono hz)
   rw[hke] at hrep;refine hrep.move [(0,0),(k,o)] hz fun b q hb=>?_
   simp only[List.cons_append,List.nil_append] at hb ⊢;have hbg:=hnb b s _ _ _ hb;have hrs:r≠some s:=by
    rcases hne with h | h
    ·rw[h] at hr;cases hr
    intro h';exact h (hr.trans h'.symm)
   refine⟨by simp[apL,hbg,hb,hr,hrs,hke],hblk b (hlt b _ hb).1 hbg⟩
  simpa [Value.cells] using key
theorem yal1 (σ:St) (mv:Option Nat) (s:Nat):goneO σ mv s=.u\/(goneO σ mv s=σ s/\mv≠some s/\∀ x,refOf (σ s)=some x->mv≠some x):=by
 cases mv with
 | none=>exact .inr ⟨rfl,by simp,fun _ _=>by simp⟩
 | some m =>
  simp only[goneO,gone];by_cases hsm:s=m
  ·left;rw[if_pos hsm]
  rw[if_neg hsm];rcases ymm m (σ s) with⟨h3,h4⟩ | h3
  ·right;exact⟨h3,by simp;exact fun h=>hsm h.symm,fun x hx=>by simp;rintro rfl;exact h4 hx⟩
  left;exact h3
theorem yqe1 {σ:St} {mv:Option Nat} {x:Nat} (hx:isRoot (σ x)=true) (hm:mv≠some x):goneO σ mv x=σ x:=by
 cases mv with
 | none=>rfl
 | some m =>
  have:x≠m:=fun h=>hm (by rw[h])
  simp[goneO,gone,this,yii hx]
theorem ywc1 {e:TypeId} (h:apE P e=true):∃ i z,P.info? e=some i/\i.zero=some z/\i.bytes<=128/\z.cells.size=i.size:=by
 unfold apE at h
 split at h
 ·rename_i i hi
  simp at h
  obtain⟨h1,h2⟩:=h;split at h2
  ·rename_i z hz
   simp at h2
   exact⟨i,z,hi,hz,h1,h2⟩
  cases h2
 cases h
theorem ytp {t ty e:TypeId} {i:TypeInfo} (hu:P.underlying t=some (.slice e)) (hi:P.info? e=some i) (w:World) (base:Option Addr) (n cap:Nat) (hle:n<=cap) (ad:Option Addr) (cap2:Nat) :
  (Builtin.append_ #[t,t] ty #[.slice base n cap,.slice ad 0 cap2]).run P w=.ok (.slice base n cap) w:=by
 have hf:∀ ad:Option Addr,(Builtin.firstCells i.size 0 (.slice ad 0 cap2)).run P w=.ok #[] w:=by
  intro ad;cases ad with
  | none=>simp[Builtin.firstCells]
  | some a=>simp[Builtin.firstCells,loadCells,loadCellsFrom]
 cases base with
 | none=>simp[Builtin.append_,run_underlying hu,sizeOf,typeInfo,hi,Builtin.lenOf,hle,hf]
 | some b=>simp[Builtin.append_,run_underlying hu,sizeOf,typeInfo,hi,Builtin.lenOf,hle,hf,storeCells]
theorem yux {σ:St} {a:Act} {w:World} {L:Lab} (hR:Rel P N N w0 A I σ a w L) {t ty e:TypeId} {sz:Nat} {x:Operand} {rows2:List (List C)} {mv:Option Nat} (hE:slE P t=some (e,sz)) (hb:apE P e=true)
  (hs:addRows σ (evS σ x)=some (rows2,mv)) (hu2:∀ row∈rows2,row.length=sz) (hlen:rows2.length<=1099511627776) :
  ∃ v w' L1,(Builtin.append_ #[t,t] ty #[.slice none 0 0,a.eval x]).run P w=.ok v w'/\Rel P N (N+1) w0 A I (goneO σ mv) a w' L1 /\
   RelS P (Zof w0 A L1 w') L1 w' (tmOf a) (goneO σ mv) N v (.ov false [.sl (some e) rows2]):=by
 obtain⟨i,hu,hi,hsz,hes⟩:=yrk hE
 obtain⟨i',z,hi',hz,hby,hzs⟩:=ywc1 hb
 rw[hi] at hi'
 obtain rfl:=Option.some.inj hi'
 have hx:noTup (evS σ x)=true:=by cases hx:evS σ x <;> simp_all [noTup,addRows,slOf,deref]
 obtain⟨hmv,hsrc⟩:=ymv1 hR (ysh hR 0 x hx) hs
 rcases hsrc with⟨rfl,ad,cap,hv⟩ | ⟨b,off,cap,sz',vs,hv,hrow,hc⟩
 ·refine⟨.slice none 0 0,w,?_⟩
  have hrun:=ytp (ty:=ty) hu hi w none 0 0 (Nat.le_refl _) ad cap
  rw[← hv] at hrun;have hrs:∀ L1,RelS P (Zof w0 A L1 w) L1 w (tmOf a) (goneO σ mv) N (.slice none 0 0) (.ov false [.sl (some e) []]):=fun L1=>⟨⟨rfl,rfl⟩,fun j c hj=>by
   cases j with
   | zero=>simp at hj;subst hj;exact .onil
   | succ j=>simp at hj⟩
  cases mv with
  | none=>exact⟨L,hrun,hR.up,hrs L⟩
  | some m=>exact⟨_,hrun,hR.takeN m,hrs _⟩
 by_cases h0:rows2=[]
 ·subst h0
  have hrun:=ytp (ty:=ty) hu hi w none 0 0 (Nat.le_refl _) (some ⟨b,off,none⟩) cap
  simp only[List.length_nil] at hv;rw[← hv] at hrun;have hrs:∀ L1,RelS P (Zof w0 A L1 w) L1 w (tmOf a) (goneO σ mv) N (.slice none 0 0) (.ov false [.sl (some e) []]):=fun L1=>⟨⟨rfl,rfl⟩,fun j c hj=>by
   cases j with
   | zero=>simp at hj;subst hj;exact .onil
   | succ j=>simp at hj⟩
  refine⟨.slice none 0 0,w,?_⟩
  cases mv with
  | none=>exact⟨L,hrun,hR.up,hrs L⟩
  | some m=>exact⟨_,hrun,hR.takeN m,hrs _⟩
 have hpos:0<rows2.length:=List.length_pos_iff.2 h0
 have hsz':sz'=sz:=by
  cases rows2 with
  | nil=>exact absurd rfl h0
  | cons r l=>have e1:=hrow r (by simp);have e2:=hu2 r (by simp);omega
 subst hsz'
 have hbytes:rows2.length*i.bytes<=140737488355328:=by
  calc rows2.length*i.bytes<=1099511627776*128:=Nat.mul_le_mul hlen hby
   _=140737488355328:=by decide
 have hnews:∀ j v,(flat sz' rows2.length vs)[j]?=some v->w.cell? ((⟨b,off,none⟩:Addr).add j)=some v:=by
  intro j v hj;obtain⟨i1,o1,h1,h2,rfl,rfl⟩:=yog1 hj;rw[Addr.add_lit,← Nat.add_assoc];exact(hc i1 _ o1 _ (List.getElem?_eq_getElem h1) (List.getElem?_eq_getElem (by rw[hrow _ (List.getElem_mem h1)];exact h2))).1
 have hrun:=run_append_nil (P:=P) w t ty e i z hu hi hz ⟨b,off,none⟩ rows2.length cap (flat sz' rows2.length vs) (by rw[yzq,hsz]) hnews hpos (by omega) (by omega)
 have hge:=grownCap_ge w rows2.length 0 e
 have hle:=grownCap_le_maxLen w rows2.length 0 e (by simp[maxLen];omega)
 have hasz:(((flat sz' rows2.length vs).toArray++Builtin.zeroCells z.cells (grownCap w rows2.length 0 e-rows2.length)):Array Value).size=grownCap w rows2.length 0 e*esz P e:=by
  rw[Array.size_append,size_zeroCells,hzs,hsz,hes,List.size_toArray,yzq,← Nat.add_mul];congr 1
  omega
 have:=yqg1 (σ':=goneO σ mv) (w':=w.drew.alloc (.cells ((flat sz' rows2.length vs).toArray++Builtin.zeroCells z.cells (grownCap w rows2.length 0 e-rows2.length)) e)) (r:=none) (mv:=mv) (rows:=[]) (rows2:=rows2)
  (g:=w.heap.size) (cap:=grownCap w rows2.length 0 e) (e:=e) (arr:=(flat sz' rows2.length vs).toArray++Builtin.zeroCells z.cells (grownCap w rows2.length 0 e-rows2.length)) hR (by cases mv <;> simp) rfl rfl rfl (by simp) (by simp) (.inl (Nat.le_refl _))
  (fun b' hb' _=>heap_alloc_old w.drew _ b' hb') (yyd w.drew _) (by simpa using hge) hle hasz (by simp) (fun row hr=>by rw[hu2 row hr,hes]) (fun i row o c h1=>by simp at h1)
  (fun i1 row o c h1 h2=>by
   have ho:o<sz':=by have:=hu2 row (List.mem_of_getElem? h1);have:=(List.getElem?_eq_some_iff.1 h2).1;omega
   have hi1:i1<rows2.length:=(List.getElem?_eq_some_iff.1 h1).1
   have hval:((flat sz' rows2.length vs).toArray++Builtin.zeroCells z.cells (grownCap w rows2.length 0 e-rows2.length)).getD ((([]:List (List C)).length+i1)*esz P e+o) undef=vs i1 o:=by
    have hlt:i1*sz'+o<rows2.length*sz':=by
     calc i1*sz'+o<i1*sz'+sz':=by omega
      _=(i1+1)*sz':=by rw[Nat.add_mul,Nat.one_mul]
      _<=rows2.length*sz':=Nat.mul_le_mul_right _ (by omega)
    simp only[List.length_nil,Nat.zero_add,hes];rw[Array.getD_eq_getD_getElem?,Array.getElem?_append_left (by rw[List.size_toArray,yzq];exact hlt),List.getElem?_toArray,yng1 hi1 ho]
    rfl
   rw[hval];rcases(hc i1 row o c h1 h2).2 with⟨_,hf⟩ | ⟨m,hm,hrep⟩
   ·exact .inl hf
   exact .inr ⟨m,hm,hrep⟩)
  (fun s=>by
   rcases yal1 σ mv s with h | ⟨h1,h2,h3⟩
   ·exact .inl h
   exact .inr ⟨h1,by simpa using h2,fun x hx=>by simpa using h3 x hx⟩)
  (fun x hx hn=>yqe1 hx (by simpa using hn))
 obtain⟨L1,h1,h2⟩:=this
 refine⟨_,_,L1,?_,h1,by simpa using h2⟩
 rw[hv,hrun]
theorem Rel.goneN {σ:St} {a:Act} {w:World} {L:Lab} {r:Nat} {v:Value} {g:Bool} {cs:List C} (hR:Rel P N (N+1) w0 A I σ a w L) (hr:r<N) (h:RelS P (Zof w0 A L w) L w (tmOf a) σ N v (.ov g cs)) :
  ∃ L1,Rel P N (N+1) w0 A I (gone σ r) a w L1/\RelS P (Zof w0 A L1 w) L1 w (tmOf a) (gone σ r) N v (.ov g cs):=by
 refine⟨mapL L r (fun _=>none),hR.take (Nat.le_refl _) rfl (fun q l h=>by cases h),?_⟩
 refine RepV.keep h (fun b h=>⟨⟨by simp[mapL,h.1],h.2⟩,rfl⟩) fun b j q hb=>⟨?_,rfl⟩
 have:N≠r:=by omega
 simp[mapL,hb,this]
theorem yre1 {σ:St} {a:Act} {w:World} {L:Lab} (hR:Rel P N N w0 A I σ a w L) {t ty e:TypeId} {sz r:Nat} {x:Operand} {rows rows2:List (List C)} {mv:Option Nat} (hE:slE P t=some (e,sz)) (hb:apE P e=true)
  (hs:addRows σ (evS σ x)=some (rows2,mv)) (hu2:∀ row∈rows2,row.length=sz) (hr:σ r=.ov false [.sl (some e) rows]) (hne:mv≠some r) (hlen:rows.length+rows2.length<=1099511627776) :
  ∃ v w' L1,(Builtin.append_ #[t,t] ty #[tmOf a r,a.eval x]).run P w=.ok v w'/\Rel P N (N+1) w0 A I (gone (goneO σ mv) r) a w' L1 /\
   RelS P (Zof w0 A L1 w') L1 w' (tmOf a) (gone (goneO σ mv) r) N v (.ov false [.sl (some e) (rows++rows2)]):=by
 have hrN:r<N:=by
  rcases Nat.lt_or_ge r N with h | h
  ·exact h
  rw[hR.out r h] at hr;cases hr
 have hslot:=hR.slot r
 rw[hr] at hslot
 have hrep:=hslot.2 0 _ rfl
 have hcell:(tmOf a r).cells=#[tmOf a r]:=hslot.1.1
 have hrep:Rep P (Zof w0 A L w) L w r [(0,0)] (tmOf a r) (.sl (some e) rows):=by
  have h1:(tmOf a r).cells.getD 0 undef=tmOf a r:=by rw[hcell];rfl
  rw[← h1];exact hrep
 rcases hrep.node with⟨hv0,rfl⟩ | ⟨b,arr,cap,hv0,hncap,hcm,hasz,hu,hnode⟩
 ·have hv0:tmOf a r=.slice none 0 0:=hv0
  obtain⟨v,w',L1,h1,h2,h3⟩:=yux (ty:=ty) hR hE hb hs hu2 (by simpa using hlen)
  obtain⟨L2,h4,h5⟩:=h2.goneN hrN h3;exact⟨v,w',L2,by rw[hv0];exact h1,h4,by simpa using h5⟩
 have hv0:tmOf a r=.slice (some ⟨b,0,none⟩) rows.length cap:=hv0
 obtain⟨i,hu0,hi,hsz,hes⟩:=yrk hE
 obtain⟨i',z,hi',hz,hby,hzs⟩:=ywc1 hb
 rw[hi] at hi'
 obtain rfl:=Option.some.inj hi'
 have hx:noTup (evS σ x)=true:=by cases hx:evS σ x <;> simp_all [noTup,addRows,slOf,deref]
 obtain⟨hmv,hsrc⟩:=ymv1 hR (ysh hR 0 x hx) hs
 have hbw:b<w.heap.size:=(hR.lab b _ hnode.lab).1
 have hσ:∀ s,gone (goneO σ mv) r s=.u\/(gone (goneO σ mv) r s=σ s/\¬ (some r=some s\/mv=some s)/\∀ x,refOf (σ s)=some x->¬ (some r=some x\/mv=some x)):=by
  intro s;simp only[gone];by_cases hsr:s=r
  ·left;rw[if_pos hsr]
  rw[if_neg hsr];rcases yal1 σ mv s with h | ⟨h1,h2,h3⟩
  ·left;rw[h];rfl
  rw[h1];rcases ymm r (σ s) with⟨h4,h5⟩ | h4
  ·right
   refine⟨h4,?_,fun x hx=>?_⟩
   ·rintro(h | h)
    ·simp at h;exact hsr h.symm
    exact h2 h
   rintro(h | h)
   ·simp at h;subst h;exact h5 hx
   exact h3 x hx h
  left;exact h4
 have hroot:∀ x,isRoot (σ x)=true->¬ (some r=some x\/mv=some x)->gone (goneO σ mv) r x=σ x:=by
  intro x hx hn;have h1:x≠r:=fun h=>hn (.inl (by rw[h]))
  simp only[gone,if_neg h1];rw[yqe1 hx (fun h=>hn (.inr h)),yii hx]
 have hk1:∀ (arr':Array Value),(∀ k,k<rows.length*esz P e->arr'.getD k undef=arr.getD k undef)->∀ (i:Nat) (row:List C) (o:Nat) (c:C),rows[i]?=some row->row[o]?=some c ->
   ∃ s,some r=some s/\Rep P (Zof w0 A L w) L w s [(0,0),(i,o)] (arr'.getD (i*esz P e+o) undef) c:=by
  intro arr' heq i row o c h1 h2
  refine⟨r,rfl,?_⟩
  have hil:i<rows.length:=(List.getElem?_eq_some_iff.1 h1).1
  have hol:o<esz P e:=by have:=hu row (List.mem_of_getElem? h1);have:=(List.getElem?_eq_some_iff.1 h2).1;omega
  rw[heq _ (by
   calc i*esz P e+o<i*esz P e+esz P e:=by omega
    _=(i+1)*esz P e:=by rw[Nat.add_mul,Nat.one_mul]
    _<=rows.length*esz P e:=Nat.mul_le_mul_right _ (by omega))]
  simpa using hnode.kids i row o c h1 h2
 have none_case:∀ ad cap2,rows2=[]->a.eval x=.slice ad 0 cap2->∃ v w' L1,(Builtin.append_ #[t,t] ty #[tmOf a r,a.eval x]).run P w=.ok v w'/\Rel P N (N+1) w0 A I (gone (goneO σ mv) r) a w' L1 /\
   RelS P (Zof w0 A L1 w') L1 w' (tmOf a) (gone (goneO σ mv) r) N v (.ov false [.sl (some e) (rows++rows2)]):=by
  intro ad cap2 h0 hv;subst h0;have hrun:=ytp (ty:=ty) hu0 hi w (some ⟨b,0,none⟩) rows.length cap hncap ad cap2
  rw[← hv,← hv0] at hrun;obtain⟨L1,h1,h2⟩:=yqg1 (σ':=gone (goneO σ mv) r) (w':=w) (r:=some r) (mv:=mv) (rows:=rows) (rows2:=[]) (g:=b) (cap:=cap) (e:=e) (arr:=arr) hR (.inr hne) rfl rfl rfl (Nat.le_refl _) hbw
   (.inr ⟨r,rfl,hnode.lab⟩) (fun _ _ _=>rfl) hnode.heap (by simpa using hncap) hcm hasz hu (by simp) (hk1 arr fun _ _=>rfl) (fun i row o c h=>by simp at h) hσ hroot
  refine⟨_,w,L1,hrun,h1,?_⟩
  rw[hv0];simpa using h2
 rcases hsrc with⟨h0,ad,cap2,hv⟩ | ⟨b2,off,cap2,sz',vs,hv,hrow,hc⟩
 ·exact none_case ad cap2 h0 hv
 by_cases h0:rows2=[]
 ·exact none_case (some ⟨b2,off,none⟩) cap2 h0 (by rw[hv,h0];rfl)
 have hpos:0<rows2.length:=List.length_pos_iff.2 h0
 have hsz':sz'=sz:=by
  cases rows2 with
  | nil=>exact absurd rfl h0
  | cons r l=>have e1:=hrow r (by simp);have e2:=hu2 r (by simp);omega
 subst hsz'
 have hbytes:(rows.length+rows2.length)*i.bytes<=140737488355328:=by
  calc (rows.length+rows2.length)*i.bytes<=1099511627776*128:=Nat.mul_le_mul hlen hby
   _=140737488355328:=by decide
 have hnews:∀ j v,(flat sz' rows2.length vs)[j]?=some v->w.cell? ((⟨b2,off,none⟩:Addr).add j)=some v:=by
  intro j v hj;obtain⟨i1,o1,h1,h2,rfl,rfl⟩:=yog1 hj;rw[Addr.add_lit,← Nat.add_assoc];exact(hc i1 _ o1 _ (List.getElem?_eq_getElem h1) (List.getElem?_eq_getElem (by rw[hrow _ (List.getElem_mem h1)];exact h2))).1
 have hone:∀ u∈flat sz' rows2.length vs,u.oneCell'=true:=by
  intro u hu3;obtain⟨j,hj⟩:=List.mem_iff_getElem?.1 hu3
  obtain⟨i1,o1,h1,h2,rfl,rfl⟩:=yog1 hj;rcases(hc i1 _ o1 _ (List.getElem?_eq_getElem h1) (List.getElem?_eq_getElem (by rw[hrow _ (List.getElem_mem h1)];exact h2))).2 with⟨_,hf⟩ | ⟨_,_,hf⟩
  ·exact hf.oneCell
  exact hf.oneCell
 have hk2:∀ (arr':Array Value),(∀ i1 o1,i1<rows2.length->o1<sz'->arr'.getD ((rows.length+i1)*esz P e+o1) undef=vs i1 o1)->∀ (i:Nat) (row:List C) (o:Nat) (c:C),rows2[i]?=some row->row[o]?=some c ->
   (Frz (Zof w0 A L w) w (arr'.getD ((rows.length+i)*esz P e+o) undef) c)\/∃ s,mv=some s/\Rep P (Zof w0 A L w) L w s [(0,0),(i,o)] (arr'.getD ((rows.length+i)*esz P e+o) undef) c:=by
  intro arr' heq i1 row o c h1 h2
  have ho:o<sz':=by have:=hu2 row (List.mem_of_getElem? h1);have:=(List.getElem?_eq_some_iff.1 h2).1;omega
  rw[heq i1 o (List.getElem?_eq_some_iff.1 h1).1 ho];rcases(hc i1 row o c h1 h2).2 with⟨_,hf⟩ | ⟨m,hm,hrep⟩
  ·exact .inl hf
  exact .inr ⟨m,hm,hrep⟩
 have hidx:∀ i1 o1,i1<rows2.length->o1<sz'->i1*sz'+o1<rows2.length*sz':=fun i1 o1 h1 h2=>by
  calc i1*sz'+o1<i1*sz'+sz':=by omega
   _=(i1+1)*sz':=by rw[Nat.add_mul,Nat.one_mul]
   _<=rows2.length*sz':=Nat.mul_le_mul_right _ (by omega)
 by_cases hroom:rows.length+rows2.length<=cap
 ·have hfit:rows.length*i.size+(flat sz' rows2.length vs).length<=arr.size:=by
   rw[yzq,hasz,hes,hsz,← Nat.add_mul];exact Nat.mul_le_mul_right _ hroom
  have hrun:=run_append_room (P:=P) w t ty e i hu0 hi b rows.length cap arr hnode.heap ⟨b2,off,none⟩ rows2.length cap2 (flat sz' rows2.length vs) (by rw[yzq,hsz]) hnews hone hroom hfit
  rw[← hv,← hv0] at hrun;have hasz2:(arr.toList.take (rows.length*i.size)++flat sz' rows2.length vs++arr.toList.drop (rows.length*i.size+(flat sz' rows2.length vs).length)).toArray.size=arr.size /\
    ∀ k,(arr.toList.take (rows.length*i.size)++flat sz' rows2.length vs++arr.toList.drop (rows.length*i.size+(flat sz' rows2.length vs).length)).toArray.getD k undef =
     if rows.length*i.size<=k/\k<rows.length*i.size+(flat sz' rows2.length vs).length then(flat sz' rows2.length vs).toArray.getD (k-rows.length*i.size) undef else arr.getD k undef :=
   ygq (arr:=arr) (vs:=(flat sz' rows2.length vs).toArray) (off:=rows.length*i.size) (by simpa using hfit)
  generalize hA':(arr.toList.take (rows.length*i.size)++flat sz' rows2.length vs++arr.toList.drop (rows.length*i.size+(flat sz' rows2.length vs).length)).toArray=arr' at hrun hasz2
  obtain⟨L1,h1,h2⟩:=yqg1 (σ':=gone (goneO σ mv) r) (w':=w.setRow b arr') (r:=some r) (mv:=mv) (rows:=rows) (rows2:=rows2) (g:=b) (cap:=cap) (e:=e) (arr:=arr') hR (.inr hne) rfl rfl rfl (by simp) (by simpa using hbw)
   (.inr ⟨r,rfl,hnode.lab⟩) (fun b' _ hb'=>setRow_other w b b' arr' hb') (setRow_heap w b arr arr' e (0,0) hnode.heap) hroom hcm (by rw[hasz2.1];exact hasz) hu (fun row hr=>by rw[hu2 row hr,hes])
   (hk1 arr' fun k hk=>by rw[hasz2.2,if_neg (by rw[hes,← hsz] at hk;omega)])
   (hk2 arr' fun i1 o1 h1 h2=>by
    rw[hasz2.2];have h3:=hidx i1 o1 h1 h2;have h4:(rows.length+i1)*esz P e+o1=rows.length*i.size+(i1*sz'+o1):=by rw[hes,hsz,Nat.add_mul];omega
    rw[h4,if_pos ⟨by omega,by rw[yzq];omega⟩]
    rw[show rows.length*i.size+(i1*sz'+o1)-rows.length*i.size=i1*sz'+o1 from by omega];rw[Array.getD_eq_getD_getElem?,List.getElem?_toArray,yng1 h1 h2];rfl) hσ hroot
  exact⟨_,_,L1,hrun,h1,h2⟩
 have holds:∀ j v,(arr.toList.take (rows.length*i.size))[j]?=some v->w.cell? ((⟨b,0,none⟩:Addr).add j)=some v:=by
  intro j v hj;obtain⟨hj1,hj2⟩:=yho hj;rw[Addr.add_lit,Nat.zero_add];simp[World.cell?,hnode.heap]
  simpa using hj2
 have hlen2:(arr.toList.take (rows.length*i.size)).length=rows.length*i.size:=by
  rw[List.length_take,show arr.toList.length=arr.size from rfl,hasz,hes,hsz];exact Nat.min_eq_left (Nat.mul_le_mul_right _ hncap)
 have hrun:=run_append_grow (P:=P) w t ty e i z hu0 hi hz ⟨b,0,none⟩ rows.length cap _ hlen2 holds ⟨b2,off,none⟩ rows2.length cap2 (flat sz' rows2.length vs) (by rw[yzq,hsz]) hnews (by omega) (by omega) (growslice_fits (by omega) hbytes)
 rw[← hv,← hv0] at hrun
 have hge:=grownCap_ge w (rows.length+rows2.length) cap e
 have hle:=grownCap_le_maxLen w (rows.length+rows2.length) cap e (by simp[maxLen];omega)
 generalize hgc:grownCap w (rows.length+rows2.length) cap e=gc at hrun hge hle
 have hA1:((arr.toList.take (rows.length*i.size)).toArray++(flat sz' rows2.length vs).toArray).size=(rows.length+rows2.length)*sz':=by
  rw[Array.size_append,List.size_toArray,List.size_toArray,hlen2,yzq,hsz,Nat.add_mul]
 generalize hA':(arr.toList.take (rows.length*i.size)).toArray++(flat sz' rows2.length vs).toArray++Builtin.zeroCells z.cells (gc-(rows.length+rows2.length))=arr' at hrun
 have hasz2:arr'.size=gc*esz P e:=by
  rw[← hA',Array.size_append,hA1,size_zeroCells,hzs,hsz,hes,← Nat.add_mul];congr 1
  omega
 have hget:∀ k,k<(rows.length+rows2.length)*sz'->arr'[k]?=((arr.toList.take (rows.length*i.size)).toArray++(flat sz' rows2.length vs).toArray)[k]?:=fun k hk=>by
  rw[← hA',Array.getElem?_append_left (by rw[hA1];exact hk)]
 obtain⟨L1,h1,h2⟩:=yqg1 (σ':=gone (goneO σ mv) r) (w':=w.drew.alloc (.cells arr' e)) (r:=some r) (mv:=mv) (rows:=rows) (rows2:=rows2) (g:=w.heap.size) (cap:=gc) (e:=e) (arr:=arr') hR (.inr hne) rfl rfl rfl (by simp) (by simp)
  (.inl (Nat.le_refl _)) (fun b' hb' _=>heap_alloc_old w.drew _ b' hb') (yyd w.drew _) hge hle hasz2 hu (fun row hr=>by rw[hu2 row hr,hes])
  (hk1 arr' fun k hk=>by
   rw[hes] at hk;rw[Array.getD_eq_getD_getElem?,hget k (by rw[Nat.add_mul];omega),Array.getElem?_append_left (by rw[List.size_toArray,hlen2,hsz];exact hk),List.getElem?_toArray,List.getElem?_take,if_pos (by rw[hsz];exact hk)]
   simp)
  (hk2 arr' fun i1 o1 h1 h2=>by
   have h3:=hidx i1 o1 h1 h2;have h4:(rows.length+i1)*esz P e+o1=rows.length*sz'+(i1*sz'+o1):=by rw[hes,Nat.add_mul];omega
   rw[h4,Array.getD_eq_getD_getElem?,hget _ (by rw[Nat.add_mul];omega),Array.getElem?_append_right (by rw[List.size_toArray,hlen2,hsz];omega),List.size_toArray,hlen2,hsz]
   rw[show rows.length*sz'+(i1*sz'+o1)-rows.length*sz'=i1*sz'+o1 from by omega];rw[List.getElem?_toArray,yng1 h1 h2];rfl) hσ hroot
 exact⟨_,_,L1,hrun,h1,h2⟩
end Go.PV

/-
 A walk over pure values: calls to which something is lent are sound.
 Conditions: none.
-/
namespace Go.PV
variable {P:Program} {N:Nat} {w0:World} {A:Nat->Prop} {I:Bor}
def stripQ:Option Path->Path->Option Path
 | none,p=>some p
 | some q,p=>(dropP q p).map fun t=>(0,0)::t
def unstripQ:Option Path->Path->Option Path
 | none,p=>some p
 | some q,(0,0)::t=>some (q++t)
 | some _,_=>none
theorem ylg {q:Option Path} {p t:Path} (h:unstripQ q t=some p):stripQ q p=some t:=by
 cases q with
 | none=>simpa [unstripQ,stripQ,eq_comm] using h
 | some q =>
  match t,h with
  | (0,0)::t,h =>
   simp only[unstripQ,Option.some.injEq] at h;subst h;simp[stripQ,dropP_iff.2 rfl]
  | [],h=>simp[unstripQ] at h
  | (0,_+1)::_,h=>simp[unstripQ] at h
  | (_+1,_)::_,h=>simp[unstripQ] at h
theorem ygp {q:Option Path} {p t:Path} (h:stripQ q p=some t):unstripQ q t=some p:=by
 cases q with
 | none=>simpa [unstripQ,stripQ,eq_comm] using h
 | some q =>
  simp only[stripQ] at h;cases hd:dropP q p with
  | none=>rw[hd] at h;cases h
  | some t' =>
   rw[hd] at h;simp at h
   subst h;simp[unstripQ,dropP_iff.1 hd]
def lendL (L:Lab) (r:Nat) (q:Option Path):Lab:=fun b=>match L b with
 | some (s,p)=>if s=r then(stripQ q p).map fun t=>(0,t) else none
 | none=>none
theorem yth {L:Lab} {r:Nat} {q:Option Path} {b:Nat} {l:Nat×Path} (h:lendL L r q b=some l):∃ p t,L b=some (r,p)/\stripQ q p=some t/\l=(0,t):=by
 unfold lendL at h
 split at h
 ·rename_i s p hb
  split at h
  ·rename_i hs
   subst hs;cases ht:stripQ q p with
   | none=>rw[ht] at h;cases h
   | some t=>rw[ht] at h;simp at h;exact⟨p,t,hb,ht,h.symm⟩
  cases h
 cases h
theorem ydu {L:Lab} {r:Nat} {q:Option Path} {b:Nat} {p t:Path} (h:L b=some (r,p)) (h2:stripQ q p=some t):lendL L r q b=some (0,t):=by
 simp[lendL,h,h2]
theorem yse1 {L:Lab} {r:Nat} {q:Option Path} {b:Nat} (h:L b=none):lendL L r q b=none:=by simp[lendL,h]
theorem yft {L:Lab} {r s:Nat} {q:Option Path} {b:Nat} {p:Path} (h:L b=some (s,p)) (hs:s≠r):lendL L r q b=none:=by simp[lendL,h,hs]
theorem ybi1 {L:Lab} {r:Nat} {q:Option Path} {b:Nat} {p:Path} (h:L b=some (r,p)) (hs:stripQ q p=none):lendL L r q b=none:=by simp[lendL,h,hs]
def lendR (N r:Nat) (q:Option Path) (Lr:Lab):Lab:=fun b=>match Lr b with
 | some (0,p)=>(unstripQ q p).map fun x=>(r,x)
 | some (1,p)=>some (N,p)
 | _=>none
theorem yzi {N r:Nat} {q:Option Path} {Lr:Lab} {b:Nat} {l:Nat×Path} (h:lendR N r q Lr b=some l) :
  (∃ p x,Lr b=some (0,p)/\unstripQ q p=some x/\l=(r,x))\/∃ p,Lr b=some (1,p)/\l=(N,p):=by
 unfold lendR at h
 split at h
 ·rename_i p hb
  cases hx:unstripQ q p with
  | none=>rw[hx] at h;cases h
  | some x=>rw[hx] at h;simp at h;exact .inl ⟨p,x,hb,hx,h.symm⟩
 ·rename_i p hb
  exact .inr ⟨p,hb,(Option.some.inj h).symm⟩
 cases h
def lentB (L:Lab) (w:World) (r:Nat) (q:Option Path) (b:Nat):Bool:=(lendL L r q b).isSome||decide (w.heap.size<=b)
def lendF (L Lf Lr:Lab) (w:World) (N r:Nat) (q:Option Path):Lab:=fun b=>if lentB L w r q b=true then lendR N r q Lr b else Lf b
theorem yte1 {x:SV} {r r':Nat} {q:Path} {n:Option Nat} {q':Option Path} {sv:SV} (h:lendCell x r q n=some (r',q',sv)) :
  r'=r/\q'=some q/\(n=none\/n=some 1)/\isOwnR x=true/\∃ c cs,getRow (rows1 x) q=some (c::cs)/\sv=.ov n.isSome [c]:=by
 unfold lendCell at h
 split at h
 ·rename_i hc
  simp only[Bool.and_eq_true,Bool.or_eq_true,Option.isNone_iff_eq_none,beq_iff_eq] at hc;split at h
  ·rename_i c cs hg
   simp only[Option.some.injEq,Prod.mk.injEq] at h;obtain⟨rfl,rfl,rfl⟩:=h;exact⟨rfl,rfl,hc.2,hc.1,c,cs,hg,rfl⟩
  cases h
 cases h
structure CellAt (P:Program) (L:Lab) (w:World) (σ:St) (r:Nat) (q:Path) (tv:Value) (q0:Path) (i o b:Nat) (arr:Array Value) (e:TypeId) (c:C) (cs:List C):Prop where
 path:q=q0++[(i,o)]
 box:q0=[]->isBox (σ r)=true
 lab:L b=some (r,q0)
 heap:w.heap[b]?=some (.cells arr e (0,0))
 at':arr[i*esz P e+o]?=some tv
 row:getRow (rows1 (σ r)) q=some (c::cs)
theorem yuq1 {σ:St} {a:Act} {w:World} {L:Lab} (hR:Rel P N N w0 A I σ a w L) {r i o b:Nat} {q0:Path} {arr:Array Value} {e:TypeId} {c:C} {cs:List C}
  (hb:q0=[]->isBox (σ r)=true) (hl:L b=some (r,q0)) (hh:w.heap[b]?=some (.cells arr e (0,0))) (hg:getRow (rows1 (σ r)) (q0++[(i,o)])=some (c::cs)) :
  i*esz P e+o<arr.size/\Rep P (Zof w0 A L w) L w r (q0++[(i,o)]) (arr.getD (i*esz P e+o) undef) c:=by
 have hc:∀ {row:List C},c::cs=row.drop o->row[o]?=some c:=fun {row} h=>by
  have:(row.drop o)[0]?=some c:=by rw[← h];rfl
  simpa using this
 rcases yct (σ r) with h0 | ⟨cs0,h0⟩
 ·rw[h0] at hg
  cases q0 with
  | nil=>simp[getRow] at hg
  | cons y q=>cases q <;> (obtain⟨y1,y2⟩:=y;simp[getRow] at hg)
 obtain⟨rd,hk,hv,hbx⟩:=yzy hR h0
 rw[h0] at hg
 by_cases hq:q0=[]
 ·subst hq
  obtain⟨b',arr',e',hn,hsz,_⟩:=hbx (hb rfl)
  obtain rfl:=hR.inj _ _ _ hl hn.lab
  rw[hn.heap] at hh;simp at hh
  obtain⟨rfl,rfl⟩:=hh;obtain⟨row,h1,h2⟩:=yyi hg;exact⟨hn.inb i row o h1 (List.getElem?_eq_some_iff.1 (hc h2)).1,by simpa using(hn.cell h1 (hc h2)).2⟩
 obtain⟨b',arr',e',rows',row,hn,h1,h2⟩:=yfq q0 _ [] rd hk hq hg
 simp only[List.nil_append] at hn
 obtain rfl:=hR.inj _ _ _ hl hn.lab
 rw[hn.heap] at hh
 simp at hh
 obtain⟨rfl,rfl⟩:=hh
 exact⟨hn.inb i row o h1 (List.getElem?_eq_some_iff.1 (hc h2)).1,by simpa using(hn.cell h1 (hc h2)).2⟩
theorem yvq1 {σ:St} {a:Act} {w:World} {L:Lab} (hR:Rel P N N w0 A I σ a w L) {s:Nat} {tv:Value} {sv0:SV} (h:RelS P (Zof w0 A L w) L w (tmOf a) σ s tv sv0) {r:Nat} {q:Option Path} {sv:SV} (hl:lendOf σ sv0=some (r,q,sv)) :
  isOwnR (σ r)=true/\LentAt P (Zof w0 A L w) (lendL L r q) w 0 tv sv /\
   ((q=none/\σ r=sv/\tv=tmOf a r)\/∃ q1 q0 i o b arr e c cs g,q=some q1/\sv=.ov g [c]/\CellAt P L w σ r q1 (tv.cells.getD 0 undef) q0 i o b arr e c cs):=by
 have cell:∀ {r':Nat} {q':Path} {n:Option Nat},sv0=.ref r' q' n->(∀ g cs,σ r'=.ov g cs->q'≠[(0,0)])->lendCell (σ r') r' q' n=some (r,q,sv)->isOwnR (σ r)=true/\LentAt P (Zof w0 A L w) (lendL L r q) w 0 tv sv /\
   ((q=none/\σ r=sv/\tv=tmOf a r)\/∃ q1 q0 i o b arr e c cs g,q=some q1/\sv=.ov g [c]/\CellAt P L w σ r q1 (tv.cells.getD 0 undef) q0 i o b arr e c cs):=by
  intro r' q' n h0 hno hc
  subst h0;obtain⟨rfl,rfl,hn1,hown,c,cs,hg,rfl⟩:=yte1 hc;refine⟨hown,?_⟩
  obtain⟨_,h2⟩:=h;rcases h2 with⟨h3,h4,_⟩ | ⟨q0,i,o,b,arr,e,h3,h4,h5,h6,h7⟩
  ·exfalso
   cases hs:σ r with
   | ov g cs0=>exact hno g cs0 hs h4
   | box cs0=>rw[hs] at h3;cases h3
   | _=>rw[hs] at hown;cases hown
  subst h3;obtain⟨cv,hcv⟩:∃ cv,tv.cells.getD 0 undef=cv:=⟨_,rfl⟩
  obtain⟨hrep,hsh,hat⟩:Rep P (Zof w0 A L w) L w r (q0++[(i,o)]) cv c/\VShape n.isSome tv 1/\arr[i*esz P e+o]?=some cv:=by
   rcases hn1 with rfl | rfl
   ·simp only at h7
    have hrep:=(yuq1 hR h4 h5 h6 hg).2
    rw[Array.getD_eq_getD_getElem?,h7.1] at hrep;simp only[Option.getD_some] at hrep;have hcl:=ync hrep.oneCell;obtain rfl:tv=cv:=by rw[← hcv,hcl];rfl
    exact⟨hrep,⟨hcl,rfl⟩,h7.1⟩
   simp only at h7
   obtain⟨hlt,hrep⟩:=yuq1 hR h4 h5 h6 hg;subst h7;have hx:arr[i*esz P e+o]?=some cv:=by
    rw[← hcv];simp only[Value.cells,Array.getD_eq_getD_getElem?,Array.getElem?_extract];rw[if_pos (by omega),Nat.add_zero,Array.getElem?_eq_getElem hlt];rfl
   rw[Array.getD_eq_getD_getElem?,hx] at hrep;exact⟨hrep,⟨_,rfl,by simp;omega⟩,hx⟩
  refine⟨⟨hsh,fun j c' hj=>?_⟩,.inr ⟨_,q0,i,o,b,arr,e,c,cs,n.isSome,rfl,rfl,⟨rfl,h4,h5,h6,hcv▸hat,hg⟩⟩⟩
  cases j with
  | succ j=>simp at hj
  | zero =>
   simp at hj
   subst hj;rw[hcv];exact hrep.move [(0,0)] (fun b hb=>⟨hb,rfl⟩) fun b t hb=>⟨ydu hb (by simp only[stripQ];rw[dropP_iff.2 rfl];rfl),rfl⟩
 unfold lendOf at hl
 split at hl
 ·rename_i r'
  split at hl
  ·rename_i cs hσ
   simp only[Option.some.injEq,Prod.mk.injEq] at hl;obtain⟨rfl,rfl,rfl⟩:=hl;refine⟨by rw[hσ];rfl,?_,.inl ⟨rfl,hσ,?_⟩⟩
   all_goals
    obtain⟨_,q0,i,o,b,arr,e,h3,h4,h5,h6,h7⟩:=h;have hq0:q0=[]/\i=0/\o=0:=by
     rcases q0 with _ | ⟨y,q0⟩
     ·simp at h3;exact⟨rfl,h3.1.symm,h3.2.symm⟩
     have:=congrArg List.length h3;simp at this
    obtain⟨rfl,rfl,rfl⟩:=hq0;have hs:=hR.slot r'
    rw[hσ] at hs;obtain⟨b',g1,g2⟩:=hs;obtain rfl:=hR.inj _ _ _ h5 g2.1
   ·refine⟨b,by rw[h7];simp,g2.keep (fun b hb=>⟨hb,rfl⟩) fun b t hb=>⟨?_,rfl⟩⟩
    exact ydu hb rfl
   rw[h7];simp only[Nat.zero_mul,Nat.zero_add];exact g1.symm
  cases hl
 ·rename_i r' q' n
  split at hl
  ·rename_i g cs hσ
   by_cases hq:q'=[(0,0)]
   ·rw[if_pos hq] at hl
    subst hq;by_cases hn:n=(if g=true then some cs.length else none)
    ·rw[if_pos hn] at hl
     simp only[Option.some.injEq,Prod.mk.injEq] at hl;obtain⟨rfl,rfl,rfl⟩:=hl;have hw:=yfp hR h (.inl hσ) hn
     refine⟨by rw[hσ];rfl,?_,.inl ⟨rfl,hσ,hw⟩⟩
     have hs:=hR.slot r'
     rw[hσ] at hs;rw[hw];exact RepV.keep hs (fun b hb=>⟨hb,rfl⟩) fun b j t hb=>⟨ydu hb rfl,rfl⟩
    rw[if_neg hn] at hl;cases hl
   rw[if_neg hq] at hl;exact cell rfl (fun _ _ _=>hq) (by rw[hσ];exact hl)
  rename_i hno;exact cell rfl (fun g cs hs=>absurd hs (hno g cs)) hl
 cases hl
theorem LentAt.keep {Z Z':Nat->Prop} {L L':Lab} {w w':World} {s s':Nat} {v:Value} {x:SV} (h:LentAt P Z L w s v x) (hz:∀ b,Z b->Z' b/\w'.heap[b]?=w.heap[b]?)
  (hl:∀ b q,L b=some (s,q)->L' b=some (s',q)/\w'.heap[b]?=w.heap[b]?):LentAt P Z' L' w' s' v x:=by
 cases x with
 | box cs=>obtain⟨b,h1,h2⟩:=h;exact⟨b,h1,h2.keep hz hl⟩
 | ov g cs=>exact RepV.keep h hz fun b j q hb=>hl b _ hb
 | u=>trivial
 | _=>exact h.elim
theorem LentAt.rel {Z:Nat->Prop} {L:Lab} {w:World} {s:Nat} {v:Value} {x:SV} {tm:Nat->Value} {σ:St} (h:LentAt P Z L w s v x):RelS P Z L w tm σ s v x:=by
 cases x with
 | box cs=>exact h
 | ov g cs=>exact h
 | u=>trivial
 | _=>exact h.elim
theorem LentAt.of {Z:Nat->Prop} {L:Lab} {w:World} {s:Nat} {v:Value} {x:SV} {tm:Nat->Value} {σ:St} (hx:isOwnR x=true) (h:RelS P Z L w tm σ s v x):LentAt P Z L w s v x:=by
 cases x with
 | box cs=>exact h
 | ov g cs=>exact h
 | _=>cases hx
theorem LentAt.move {Z Z':Nat->Prop} {L L':Lab} {w:World} {s s':Nat} {v:Value} {x:SV} (h:LentAt P Z L w s v x) (hz:wnS x=true\/∀ b,Z b->Z' b) (hl:∀ b q,L b=some (s,q)->L' b=some (s',q)):LentAt P Z' L' w s' v x:=by
 rcases hz with hz | hz
 ·cases x with
  | box cs =>
   obtain⟨b,h1,h2,arr,e,h3,h4,h5⟩:=h;exact⟨b,h1,hl b _ h2,arr,e,h3,h4,fun j c hj=>⟨(h5 j c hj).1.move_own [(0,j)] (yzh1 hz (List.mem_of_getElem? hj)) fun b q hb=>⟨hl b _ hb,rfl⟩,(h5 j c hj).2⟩⟩
  | ov g cs=>exact⟨h.1,fun j c hj=>(h.2 j c hj).move_own [(0,j)] (yzh1 hz (List.mem_of_getElem? hj)) fun b q hb=>⟨hl b _ hb,rfl⟩⟩
  | u=>trivial
  | _=>exact h.elim
 exact h.keep (fun b hb=>⟨hz b hb,rfl⟩) fun b q hb=>⟨hl b q hb,rfl⟩
theorem yij1 {r:Nat} {x:SV} (h:isRoot x=true):killLn r x=x:=by cases x <;> simp_all [killLn,isRoot]
theorem yoo1 (r:Nat) (x:SV):killLn r x=.u\/(killLn r x=x/\(refOf x≠some r\/∃ o,x=.addr r [(0,o)])):=by
 cases x with
 | ref r' q n =>
  by_cases h:r'=r
  ·left;simp[killLn,h]
  right;exact⟨by simp[killLn,h],.inl (by simp[refOf,h])⟩
 | addr r' q =>
  by_cases h:r'=r
  ·subst h
   rcases q with _ | ⟨⟨i,o⟩,_ | ⟨z,q⟩⟩
   ·left;simp[killLn]
   ·cases i with
    | zero=>right;exact⟨by simp[killLn],.inr ⟨o,rfl⟩⟩
    | succ i=>left;simp[killLn]
   left;cases i <;> simp[killLn]
  right;exact⟨by simp[killLn,h],.inl (by simp[refOf,h])⟩
 | _=>right;exact⟨rfl,.inl (by simp[refOf])⟩
theorem ywq1 {σ:St} {r:Nat} {R:List Nat} (hr:r∉R) (hown:isOwnR (σ r)=true):frzAll R σ r=σ r:=by
 induction R generalizing σ with
 | nil=>rfl
 | cons x R ih =>
  simp only[List.mem_cons,not_or] at hr;have e:frz x σ r=σ r:=by
   unfold frz;split
   ·rfl
   simp only[if_neg hr.1];cases hs:σ r <;> rw[hs] at hown <;> simp_all [isOwnR,killD]
  rw[frzAll,ih hr.2 (by rw[e];exact hown),e]
end Go.PV

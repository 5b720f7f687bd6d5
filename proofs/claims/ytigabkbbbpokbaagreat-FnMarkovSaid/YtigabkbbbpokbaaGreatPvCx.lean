/-
  A walk over pure values: what stands for what, and that each operation keeps it.
  Conditions: none.
-/
import Derived.Deep.Slices
import Derived.WalkKit
import Derived.ProofKit
import Derived.Below
import Derived.Carry
import Derived.OpenShut
import Derived.Laws.StructEq
import Derived.Lib.SliceRun
import Derived.Laws.IdiomCopy
import Derived.KernelRfl
import Derived.Lib.ItoaNum
import Derived.Lib.LaidTab
import Derived.Sort.Grow
import Derived.Deep.Draws
import Derived.Laws.Strings
import Derived.Laws.Strings2
import Derived.Laws.Slices
import Derived.Lib.Bytealg
import Derived.Lib.IndexMore
import Derived.Lib.AtoiAll
import Derived.RangeFuncNested
import Derived.RangeFuncLeaves
import Derived.OrdersIn
import Derived.Shelf.SlSortCmp.NoneTotal
import Derived.IntWalk
import Derived.Test.YtigabkbbbpokbaaGreatPvBx
set_option linter.all false
/-
 A walk over pure values: small laws that the written walks lean on.
 Conditions: none.
-/
namespace Go.PV
variable {P:Program} {N:Nat}
def w64 (n:Int):Int:=IntKind.i64.wrap n
def iand (k:IntKind) (x y:Int):Int:=k.wrap ((BitVec.ofInt k.bits x) &&& (BitVec.ofInt k.bits y)).toNat
def ishr (k:IntKind) (x y:Int):Int:=x.fdiv (2 ^ (min y.toNat k.bits))
def ishl (k:IntKind) (x y:Int):Int:=k.wrap (x*2 ^ (min y.toNat k.bits))
open Classical in
noncomputable def fuelO {α:Type} (f:Nat->Option α):Option α:=if h:∃ k,(f k).isSome=true then f (Classical.choose h) else none
def guardO (p:Prop) [Decidable p]:Option Unit:=if p then some () else none
theorem ysa {p:Prop} [Decidable p] {u:Unit} (h:guardO p=some u):p:=by
 unfold guardO at h
 split at h
 ·assumption
 cases h
theorem RegOk.of_eq {c:Code} {l0 l1 l2:LS} (h:RegOk P N c l0 l1) (e:l1=l2):RegOk P N c l0 l2:=e▸h
section
variable {α β:Type} {xs ys:List α} {f:α->List C} {g:β->List C}
theorem gre {rows:List (List C)} {n o:Nat} {row:List C} (h:rows[n]?=some row):getRow rows [(n,o)]=some (row.drop o):=by simp[getRow,h]
theorem grs {rows rows':List (List C)} {n o m o':Nat} {q:Path} {row:List C} {e:TypeId} (h:rows[n]?=some row) (h2:row[o]?=some (.sl (some e) rows')):getRow rows ((n,o)::(m,o')::q)=getRow rows' ((m,o')::q):=by
 cases q <;> simp[getRow,h,h2]
theorem gr0 {cells:List C} {rows':List (List C)} {o m o':Nat} {q:Path} {e:TypeId} (h2:cells[o]?=some (.sl (some e) rows')):getRow [cells] ((0,o)::(m,o')::q)=getRow rows' ((m,o')::q):=grs (n:=0) rfl h2
theorem yjl1 {rows:List (List C)} {n o:Nat} {q:Path} {cs:List C}:setL rows ((n,o)::q) cs=rows.modify n (fun r=>match q with | []=>r.take o++cs++r.drop (o+cs.length) | _::_=>setR r o q cs):=by
 induction rows generalizing n with
 | nil=>cases n <;> simp[setL]
 | cons r rows ih =>
  cases n with
  | zero=>cases q <;> simp[setL]
  | succ n=>cases q <;> simp[setL,ih]
theorem yoy1 {row:List C} {o:Nat} {q:Path} {cs:List C} {c:C} (h:row[o]?=some c):setR row o q cs=row.take o++[setC c q cs]++row.drop (o+1):=by
 induction row generalizing o with
 | nil=>simp at h
 | cons r row ih =>
  cases o with
  | zero=>simp at h;subst h;simp[setR]
  | succ o=>simp at h;simp[setR,ih h]
theorem ysh1 {n:Nat} {x y:α} {F:List C->List C} (h:xs[n]?=some x) (h2:F (f x)=f y):(xs.map f).modify n F=(xs.set n y).map f:=by
 apply List.ext_getElem?
 intro j
 rw[List.getElem?_modify,List.getElem?_map,List.getElem?_map,List.getElem?_set]
 by_cases hj:n=j
 ·subst hj
  obtain⟨hlt,hx⟩:=List.getElem?_eq_some_iff.1 h
  subst hx;simp[h2,hlt]
 simp[hj]
theorem set1 {n o:Nat} {x y:α} {cs:List C} (h:xs[n]?=some x) (h2:(f x).take o++cs++(f x).drop (o+cs.length)=f y):setL (xs.map f) [(n,o)] cs=(xs.set n y).map f:=by
 rw[yjl1];exact ysh1 h h2
theorem set2 {n o m o':Nat} {q:Path} {x y:α} {cs:List C} {e:TypeId} {rows rows':List (List C)} (h:xs[n]?=some x) (h1:(f x)[o]?=some (.sl (some e) rows)) (h3:setL rows ((m,o')::q) cs=rows') (h2:(f x).take o++[.sl (some e) rows']++(f x).drop (o+1)=f y) :
  setL (xs.map f) ((n,o)::(m,o')::q) cs=(xs.set n y).map f:=by
 rw[yjl1]
 refine ysh1 h ?_
 show setR (f x) o ((m,o')::q) cs=f y
 rw[yoy1 h1,← h2,← h3]
 rfl
theorem yth1 (f:α->List C) (z:α) {n:Nat}:List.replicate n (f z)=(List.replicate n z).map f:=by simp
theorem yfc {sz:Nat} (h:∀ x,(f x).length=sz):∀ row∈xs.map f,row.length=sz:=by
 intro row hr
 obtain⟨x,_,rfl⟩:=List.mem_map.1 hr
 exact h x
theorem ymc2 {n:Nat}:((xs.map f).take n).drop 0=(xs.take n).map f:=by simp[List.map_take]
theorem ypy1 {n:Nat}:((xs.map f).take (xs.map f).length).drop n=(xs.drop n).map f:=by rw[List.take_length];simp[List.map_drop]
theorem yka {h:α->List C} (hf:∀ x,eraR (f x)=h x):eraL (xs.map f)=xs.map h:=by
 rw[yfj1,List.map_map];exact List.map_congr_left fun x _=>hf x
theorem yxr1 {t:TypeId} {h:α->List C} (hf:∀ x,eraR (f x)=h x) (l:List α):eraR (eO t f l)=eF h l:=by
 show[era (.sl (some t) (l.map f))]=_
 simp only[era,yka hf];rfl
theorem yjc2 {h:α->List C} (hf:∀ x,eraR (f x)=h x) (l:List α):eraR (eF f l)=eF h l:=by
 show[era (.sl none (l.map f))]=_
 simp only[era,yka hf];rfl
theorem ymm1 (a b:List C):eraR (a++b)=eraR a++eraR b:=by simp[yvn]
theorem ywt {h:α->List C} {k:β->List C} (hf:∀ x,eraR (f x)=h x) (hg:∀ x,eraR (g x)=k x) (x:α×β):eraR (eP f g x)=eP h k x:=by
 unfold eP;rw[ymm1,hf,hg]
theorem er_I (n:Int):eraR (eI n)=eI n:=rfl
theorem yqf {o:Option TypeId} {l l':List (List C)} {r r':List C} (h1:eraL l=l') (h2:eraR r=r'):eraR (.sl o l::r)=.sl none l'::r':=by
 show era (.sl o l)::eraR r=_
 simp only[era,h1,h2]
theorem yqt1 {v:Value} {r r':List C} (h2:eraR r=r'):eraR (.raw v::r)=.raw v::r':=by
 show era (.raw v)::eraR r=_
 simp only[era,h2]
theorem yto1 (a b:List C):wnR (a++b)=(wnR a&&wnR b):=by
 induction a with
 | nil=>simp[wnR]
 | cons c a ih=>simp[wnR,ih,Bool.and_assoc]
theorem yvc (h:∀ x,wnR (f x)=true):wnL (xs.map f)=true:=by
 induction xs with
 | nil=>rfl
 | cons x xs ih=>simp[wnL,h,ih]
theorem yuo1 (a b:List C):frR (a++b)=(frR a&&frR b):=by
 induction a with
 | nil=>simp[frR]
 | cons c a ih=>simp[frR,ih,Bool.and_assoc]
theorem ykl1 (h:∀ x,frR (f x)=true):frL (xs.map f)=true:=by
 induction xs with
 | nil=>rfl
 | cons x xs ih=>simp[frL,h,ih]
theorem wn_I (n:Int):wnR (eI n)=true:=rfl
theorem wn_P (h1:∀ x,wnR (f x)=true) (h2:∀ x,wnR (g x)=true) (x:α×β):wnR (eP f g x)=true:=by unfold eP;rw[yto1,h1,h2];rfl
theorem wn_O {t:TypeId} (h1:∀ x,wnR (f x)=true) (l:List α):wnR (eO t f l)=true:=by simp[eO,wnR,wnC,yvc h1]
theorem fr_I (n:Int):frR (eI n)=true:=rfl
theorem fr_U (k:IntKind) (n:Int):frR (eU k n)=true:=rfl
theorem fr_P (h1:∀ x,frR (f x)=true) (h2:∀ x,frR (g x)=true) (x:α×β):frR (eP f g x)=true:=by unfold eP;rw[yuo1,h1,h2];rfl
theorem frR1 {l:List (List C)} {r:List C} (h:frL l=true) (h2:frR r=true):frR (.sl none l::r)=true:=by simp[frR,frC,h,h2]
theorem wnR1 {t:TypeId} {l:List (List C)} {r:List C} (h:wnL l=true) (h2:wnR r=true):wnR (.sl (some t) l::r)=true:=by simp[wnR,wnC,h,h2]
end
theorem wnc {v:Value} {r:List C} (h:wnR r=true):wnR (.raw v::r)=true:=by simp[wnR,wnC,h]
theorem sa_p {v:Value} {l:List RV} (h:l.all simpleR=true):(RV.p v::l).all simpleR=true:=by simp[simpleR,h]
theorem sa_o {g:Bool} {cs:List C} {l:List RV} (h0:wnR cs=true) (h:l.all simpleR=true):(RV.ov g cs::l).all simpleR=true:=by simp only[List.all_cons,simpleR,h0,h,Bool.and_self]
theorem ls_t {vals:List RV} {x:SV} (h1:vals.all simpleR=true) (h2:wnS x=true):(vals.all simpleR&&wnS x)=true:=by rw[h1,h2];rfl
end Go.PV

/-
 A walk over pure values: what the statement hands in,as data;what it wants to have back.
 Conditions: none.
-/
namespace Go.PV
open Go.Deep Go.ChangeShapes Go.WideShapes Go.RowKit
variable {P:Program}
inductive Ty where
 | int (k:IntKind)
 | bool
 | str
 | sl (a:Ty)
 | one (a:Ty)
 | pair (a b:Ty)
def Ty.α:Ty->Type
 | .int _=>Int
 | .bool=>Bool
 | .str=>ByteArray
 | .sl a=>List a.α
 | .one a=>a.α
 | .pair a b=>a.α×b.α
def Ty.dflt:(T:Ty)->T.α
 | .int _=>(0:Int)
 | .bool=>false
 | .str=>ByteArray.empty
 | .sl _=>[]
 | .one a=>a.dflt
 | .pair a b=>(a.dflt,b.dflt)
def Ty.enc:(T:Ty)->T.α->List C
 | .int k=>eU k
 | .bool=>eB
 | .str=>eT
 | .sl a=>eF a.enc
 | .one a=>a.enc
 | .pair a b=>eP a.enc b.enc
def Ty.ok:(T:Ty)->T.α->Prop
 | .int k=>fun n=>(Lit.int k n).wf=true
 | .bool=>fun _=>True
 | .str=>fun s=>s.size<=maxLen
 | .sl a=>fun (l:List a.α)=>l.length<=maxLen/\∀ x∈l,a.ok x
 | .one a=>a.ok
 | .pair a b=>fun x=>a.ok x.1/\b.ok x.2
def tyX (P:Program):Nat->Ty->(TypeId ⊕ (List Field×Nat×Nat))->Bool
 | 0,_,_=>false
 | n+1,T,.inl t=>(match T,P.underlying t with
  | .int k,some (.int k')=>decide (k=k')
  | .bool,some .bool=>true
  | .str,some .string=>true
  | .sl a,some (.slice e)=>tyX P n a (.inl e)
  | .one a,some (.struct fs)=>(match fs.toList with
   | [f]=>tyX P n a (.inr ([f],0,P.cellsOf t))
   | _=>false)
  | .pair a b,some (.struct fs)=>tyX P n (.pair a b) (.inr (fs.toList,0,P.cellsOf t))
  | _,_=>false)
 | n+1,T,.inr ([f],o,tot)=>decide (f.offset=o)&&decide (o+P.cellsOf f.type=tot)&&tyX P n T (.inl f.type)
 | n+1,.pair a b,.inr (f::g::l,o,tot)=>decide (f.offset=o)&&decide (o+P.cellsOf f.type<=tot)&&tyX P n a (.inl f.type)&&tyX P n b (.inr (g::l,o+P.cellsOf f.type,tot))
 | _,_,_=>false
theorem yrt1 {n:Nat} {k:IntKind} {t:TypeId} (h:tyX P (n+1) (.int k) (.inl t)=true):P.underlying t=some (.int k):=by
 cases hu:P.underlying t with
 | none=>simp[tyX,hu] at h
 | some d=>cases d <;> simp[tyX,hu] at h <;> simp[h]
theorem yvo1 {n:Nat} {t:TypeId} (h:tyX P (n+1) .bool (.inl t)=true):P.underlying t=some .bool:=by
 cases hu:P.underlying t with
 | none=>simp[tyX,hu] at h
 | some d=>cases d <;> simp[tyX,hu] at h <;> simp
theorem yst1 {n:Nat} {t:TypeId} (h:tyX P (n+1) .str (.inl t)=true):P.underlying t=some .string:=by
 cases hu:P.underlying t with
 | none=>simp[tyX,hu] at h
 | some d=>cases d <;> simp[tyX,hu] at h <;> simp
theorem yqy1 {n:Nat} {a:Ty} {t:TypeId} (h:tyX P (n+1) (.sl a) (.inl t)=true):∃ e,P.underlying t=some (.slice e)/\tyX P n a (.inl e)=true:=by
 cases hu:P.underlying t with
 | none=>simp[tyX,hu] at h
 | some d=>cases d <;> simp[tyX,hu] at h <;> exact⟨_,rfl,h⟩
theorem ytt1 {n:Nat} {a:Ty} {t:TypeId} (h:tyX P (n+1) (.one a) (.inl t)=true):∃ fs f,P.underlying t=some (.struct fs)/\fs.toList=[f]/\tyX P n a (.inr ([f],0,P.cellsOf t))=true:=by
 cases hu:P.underlying t with
 | none=>simp[tyX,hu] at h
 | some d =>
  cases d <;> simp only[tyX,hu,Bool.false_eq_true] at h
  rename_i fs;split at h
  ·rename_i f hf
   exact⟨fs,f,rfl,hf,h⟩
  cases h
theorem ywo1 {n:Nat} {a b:Ty} {t:TypeId} (h:tyX P (n+1) (.pair a b) (.inl t)=true):∃ fs,P.underlying t=some (.struct fs)/\tyX P n (.pair a b) (.inr (fs.toList,0,P.cellsOf t))=true:=by
 cases hu:P.underlying t with
 | none=>simp[tyX,hu] at h
 | some d=>cases d <;> simp[tyX,hu] at h <;> exact⟨_,rfl,h⟩
section
variable {H:Type} {enc:TypeId×Value->H} {w:World} {spare:Nat->Bool} {held:Bool}
def Stands (w:World) (T:Ty) (cs:List Value):Prop:=∃ a:T.α,T.ok a/\(T.enc a).length=cs.length/\∀ (j:Nat) (c:C),(T.enc a)[j]?=some c->Frz (fun b=>b<w.heap.size) w (cs.getD j undef) c
theorem yry1 {a:Addr} {v:Value} (h:w.cell? a=some v):a.block<w.heap.size:=by
 unfold World.cell? at h
 split at h
 ·rename_i hx;exact(Array.getElem?_eq_some_iff.1 hx).1
 cases h
theorem yyr1 (n:Nat):(∀ (T:Ty) (t:TypeId),tyX P n T (.inl t)=true->∀ (fuel:Nat) (cs:List Value) (x:DataW H×List MemPlace),DataW.trod enc P w 0 spare held fuel t cs=some x->Stands w T cs) /\
  (∀ (T:Ty) (fs:List Field) (o tot:Nat),tyX P n T (.inr (fs,o,tot))=true->∀ (fuel:Nat) (cs:List Value) (xs:List (DataW H×List MemPlace)),cs.length=tot->o<=tot ->
   fs.mapM (fun f=>DataW.trod enc P w 0 spare held fuel f.type ((cs.drop f.offset).take (P.cellsOf f.type)))=some xs->Stands w T (cs.drop o)):=by
 induction n with
 | zero=>exact⟨fun T t h=>by simp[tyX] at h,fun T fs o tot h=>by cases T <;> simp[tyX] at h⟩
 | succ n ih =>
  obtain⟨ih1,ih2⟩:=ih;constructor
  ·intro T t h fuel cs x hx
   cases fuel with
   | zero=>simp[DataW.trod] at hx
   | succ fuel =>
    cases T with
    | int k =>
     have hu:=yrt1 h;obtain⟨m,hcs,_,hw⟩:=DataW.trod_int hu hx;subst hcs;refine⟨m,hw,rfl,fun j c hj=>?_⟩
     cases j with
     | zero=>simp[Ty.enc,eU] at hj;subst hj;exact .raw rfl
     | succ j=>simp[Ty.enc,eU] at hj
    | bool =>
     have hu:=yvo1 h;obtain⟨b,hcs,_⟩:=DataW.trod_bool hu hx;subst hcs;refine⟨b,trivial,rfl,fun j c hj=>?_⟩
     cases j with
     | zero=>simp[Ty.enc,eB] at hj;subst hj;exact .raw rfl
     | succ j=>simp[Ty.enc,eB] at hj
    | str =>
     have hu:=yst1 h;obtain⟨s,hcs,_,hw⟩:=DataW.trod_string hu hx;subst hcs;refine⟨s,hw,rfl,fun j c hj=>?_⟩
     cases j with
     | zero=>simp[Ty.enc,eT] at hj;subst hj;exact .raw rfl
     | succ j=>simp[Ty.enc,eT] at hj
    | sl a =>
     obtain⟨e,hu,h⟩:=yqy1 h;rcases open_slice hu hx with⟨rfl,_⟩ | ⟨ad,len,cap,m,n',D,Pl,rfl,_,hl,hm,hmm,_,hel⟩
     ·refine⟨([]:List a.α),⟨by simp,by simp⟩,rfl,fun j c hj=>?_⟩
      cases j with
      | zero=>simp[Ty.enc,eF] at hj;subst hj;exact .nil
      | succ j=>simp[Ty.enc,eF] at hj
     have hml:len<=m:=by rw[hmm];split <;> omega
     have:Inhabited a.α:=⟨a.dflt⟩
     have step:∀ i,i<len->∃ y:a.α×List Value,w.cells? 0 (ad.add (i*P.cellsOf e)) (P.cellsOf e)=some y.2/\a.ok y.1/\(a.enc y.1).length=y.2.length/\∀ (j:Nat) (c:C),(a.enc y.1)[j]?=some c->Frz (fun b=>b<w.heap.size) w (y.2.getD j undef) c:=fun i hi=>by
      obtain⟨cs',h1,h2⟩:=hel i (by omega)
      obtain⟨y,h3,h4,h5⟩:=ih1 a e h n' cs' _ h2
      exact⟨(y,cs'),h1,h3,h4,h5⟩
     obtain⟨f,hf⟩:=choose_lt step;refine⟨(List.range len).map fun i=>(f i).1,⟨by simp;omega,?_⟩,rfl,fun j c hj=>?_⟩
     ·intro y hy
      obtain⟨i,hi,rfl⟩:=List.mem_map.1 hy;exact(hf i (List.mem_range.1 hi)).2.1
     cases j with
     | succ j=>simp[Ty.enc,eF] at hj
     | zero =>
      simp only[Ty.enc,eF,List.getElem?_cons_zero,Option.some.injEq] at hj;subst hj;show Frz _ w (.slice (some ad) len cap) _
      cases len with
      | zero=>exact .nil
      | succ len =>
       have hlen:∀ i,i<len+1->(a.enc (f i).1).length=P.cellsOf e:=fun i hi=>by
        rw[(hf i hi).2.2.1];exact(World.cells?_some (hf i hi).1).2.1
       have hget:∀ (i:Nat) (row:List C),(List.map a.enc ((List.range (len+1)).map fun i=>(f i).1))[i]?=some row->i<len+1/\row=a.enc (f i).1:=fun i row hr=>by
        simp only[List.map_map,List.getElem?_map] at hr;by_cases hi:i<len+1
        ·simp[hi] at hr;exact⟨hi,hr.symm⟩
        simp[hi] at hr
       have key:∀ (i o:Nat) (row:List C) (c:C),(List.map a.enc ((List.range (len+1)).map fun i=>(f i).1))[i]?=some row->row[o]?=some c ->
         w.cell? (ad.add (i*P.cellsOf e+o))=some ((f i).2.getD o undef)/\Frz (fun b=>b<w.heap.size) w ((f i).2.getD o undef) c:=fun i o row c hr ho=>by
        obtain⟨hi,rfl⟩:=hget i row hr;have ho':o<P.cellsOf e:=by rw[← hlen i hi];exact(List.getElem?_eq_some_iff.1 ho).1
        obtain⟨_,hl2,hc2⟩:=World.cells?_some (hf i hi).1
        refine⟨?_,(hf i hi).2.2.2 o c ho⟩
        have:=hc2 o ho'
        rw[add_add] at this;rw[this];rw[List.getElem?_eq_getElem (by omega)];simp[List.getD,List.getElem?_eq_getElem (show o<(f i).2.length by omega)]
       by_cases hz:P.cellsOf e=0
       ·-- rows without cells
        obtain⟨b,off,spot⟩:=ad;exact absurd hz (by
         intro hz;have h1:=hlen 0 (by omega)
         rw[hz] at h1;have:∀ (T:Ty) (x:T.α),(T.enc x).length≠0:=by
          intro T;induction T with
          | int k=>intro x;simp[Ty.enc,eU]
          | bool=>intro x;simp[Ty.enc,eB]
          | str=>intro x;simp[Ty.enc,eT]
          | sl a _=>intro x;simp[Ty.enc,eF]
          | one a ih=>intro x;exact ih x
          | pair a b iha ihb=>intro x;simp only[Ty.enc,eP,List.length_append];have:=iha x.1;omega
         exact this a _ h1)
       have hlt0:0<(a.enc (f 0).1).length:=by rw[hlen 0 (by omega)];omega
       have h00:=key 0 0 _ _ (by simp) (List.getElem?_eq_getElem hlt0)
       obtain⟨b,off,spot⟩:=ad;have hspot:spot=none:=by
        have:=World.cell?_spot h00.1
        simpa [Addr.add] using this
       subst hspot;have hb:=yry1 h00.1;simp[Addr.add] at hb
       have hadd:∀ k,(Addr.mk b off none).add k=⟨b,off+k,none⟩:=fun k=>by
        unfold Addr.add;split <;> simp_all
       have h9:=Frz.sl (Z:=fun b=>b<w.heap.size) (w:=w) (b:=b) (off:=off) (cap:=cap) (sz:=P.cellsOf e) (rows:=List.map a.enc ((List.range (len+1)).map fun i=>(f i).1)) (fun i o=>(f i).2.getD o undef)
        (by simpa using hl) (by first | exact hb | (split at hb <;> exact hb)) (by
         intro row hr;obtain⟨i,hi⟩:=List.mem_iff_getElem?.1 hr
         obtain⟨h1,rfl⟩:=hget i row hi;exact hlen i h1)
        (fun i row o c hr ho=>by have:=(key i o row c hr ho).1;rw[hadd] at this;rw[Nat.add_assoc];exact this)
        (fun i row o c hr ho=>(key i o row c hr ho).2)
       simpa using h9
    | one a =>
     obtain⟨fs,f,hu,hfs,h⟩:=ytt1 h;rw[DataW.trod_step] at hx;unfold DataW.trodStep at hx;simp only[hu] at hx
     ·split at hx
      ·rename_i hlen
       cases hm:fs.toList.mapM (fun f=>DataW.trod enc P w 0 spare held fuel f.type ((cs.drop f.offset).take (P.cellsOf f.type))) with
       | none=>simp[hm] at hx
       | some xs =>
        have:=ih2 a fs.toList 0 (P.cellsOf t) (by rw[hfs];exact h) fuel cs xs hlen (Nat.zero_le _) hm
        simpa [Stands,Ty.ok,Ty.enc,Ty.α] using this
      cases hx
    | pair a b =>
     obtain⟨fs,hu,h⟩:=ywo1 h;rw[DataW.trod_step] at hx;unfold DataW.trodStep at hx;simp only[hu] at hx;split at hx
     ·rename_i hlen
      cases hm:fs.toList.mapM (fun f=>DataW.trod enc P w 0 spare held fuel f.type ((cs.drop f.offset).take (P.cellsOf f.type))) with
      | none=>simp[hm] at hx
      | some xs =>
       have:=ih2 (.pair a b) fs.toList 0 (P.cellsOf t) h fuel cs xs hlen (Nat.zero_le _) hm
       simpa using this
     cases hx
  intro T fs o tot h fuel cs xs hlen ho hm;match fs with
  | []=>cases T <;> simp[tyX] at h
  | [f] =>
   have h':f.offset=o/\o+P.cellsOf f.type=tot/\tyX P n T (.inl f.type)=true:=by
    cases T <;> simpa [tyX,and_assoc] using h
   obtain⟨h1,h2,h3⟩:=h'
   rw[List.mapM_cons] at hm;cases hx:DataW.trod enc P w 0 spare held fuel f.type ((cs.drop f.offset).take (P.cellsOf f.type)) with
   | none=>simp[hx] at hm
   | some x =>
    have:=ih1 T f.type h3 fuel _ x hx
    rw[h1,List.take_of_length_le (by simp;omega)] at this
    exact this
  | f::g::l =>
   cases T with
   | pair a b =>
    simp only[tyX,Bool.and_eq_true,decide_eq_true_eq] at h;obtain⟨⟨⟨h1,h2⟩,h3⟩,h4⟩:=h;rw[List.mapM_cons] at hm;cases hx:DataW.trod enc P w 0 spare held fuel f.type ((cs.drop f.offset).take (P.cellsOf f.type)) with
    | none=>simp[hx] at hm
    | some x =>
     cases hm2:(g::l).mapM (fun f=>DataW.trod enc P w 0 spare held fuel f.type ((cs.drop f.offset).take (P.cellsOf f.type))) with
     | none=>simp[hx,hm2] at hm
     | some xs' =>
      obtain⟨y,g1,g2,g3⟩:=ih1 a f.type h3 fuel _ x hx;obtain⟨z,k1,k2,k3⟩:=ih2 b (g::l) (o+P.cellsOf f.type) tot h4 fuel cs xs' hlen h2 hm2
      rw[h1] at g2 g3
      have hl1:((cs.drop o).take (P.cellsOf f.type)).length=P.cellsOf f.type:=by simp;omega
      rw[hl1] at g2;refine⟨(y,z),⟨g1,k1⟩,?_,fun j c hj=>?_⟩
      ·simp only[Ty.enc,eP,List.length_append,g2,k2,List.length_drop];omega
      simp only[Ty.enc,eP] at hj;by_cases hjl:j<P.cellsOf f.type
      ·rw[List.getElem?_append_left (by omega)] at hj
       have:=g3 j c hj
       have e:((cs.drop o).take (P.cellsOf f.type)).getD j undef=(cs.drop o).getD j undef:=by
        simp[List.getD,List.getElem?_take,hjl]
       rwa [e] at this
      rw[List.getElem?_append_right (by omega),g2] at hj;have:=k3 _ c hj
      have e:(cs.drop (o+P.cellsOf f.type)).getD (j-P.cellsOf f.type) undef=(cs.drop o).getD j undef:=by
       simp only[List.getD,List.getElem?_drop];congr 2
       omega
      rwa [e] at this
   | _=>simp[tyX] at h
end
end Go.PV

/-
 A walk over pure values: from a contract to what the statement asks.
 Conditions: none.
-/
namespace Go.PV
open Go.Deep Go.ChangeShapes Go.WideShapes Go.RowKit Go.ChangeMaps
variable {P:Program}
def Ty.agg:Ty->Bool
 | .one _=>true
 | .pair _ _=>true
 | _=>false
theorem ysy1 {H:Type} {enc:TypeId×Value->H} {W:World} {base n:Nat} {T:Ty} {t:TypeId} {v:Value} {d:DataW H} {p:List MemPlace} (hT:tyX P n T (.inl t)=true)
  (hv:Value.okWide P W .any base t v) (h:DataW.Trod enc P W 0 (fun _=>true) true t v d p) :
  ∃ a:T.α,T.ok a/\ArgV (fun b=>b<W.heap.size) W v (mkA T.agg (T.enc a)):=by
 have h0:=h
 obtain⟨fuel,hf⟩:=h
 obtain⟨a,h1,h2,h3⟩:=(yyr1 (P:=P) (enc:=enc) n).1 T t hT fuel _ _ hf
 refine⟨a,h1,ywq1 ?_⟩
 have hcells:∀ j,v.cells.toList.getD j undef=v.cells.getD j undef:=fun j=>by
  simp[List.getD,Array.getD_eq_getD_getElem?]
 refine⟨?_,fun j c hj=>by rw[← hcells];exact h3 j c hj⟩
 cases n with
 | zero=>simp[tyX] at hT
 | succ n =>
  have plain:T.agg=false->(∀ arr,v≠.agg arr)->VShape T.agg v (T.enc a).length:=fun hg hna=>by
   have hc:v.cells=#[v]:=by
    cases v <;> first | rfl | exact absurd rfl (hna _)
   rw[hg];unfold VShape;simp only[Bool.false_eq_true,if_false];exact⟨hc,by rw[h2,hc];rfl⟩
  cases T with
  | int k =>
   obtain⟨x,rfl,_⟩:=open_int (yrt1 hT) hv h0
   exact plain rfl (by intro arr h;cases h)
  | bool =>
   obtain⟨x,rfl,_⟩:=open_bool (yvo1 hT) hv h0
   exact plain rfl (by intro arr h;cases h)
  | str =>
   obtain⟨x,rfl,_⟩:=open_string (yst1 hT) hv h0
   exact plain rfl (by intro arr h;cases h)
  | sl b =>
   obtain⟨e,hu,_⟩:=yqy1 hT;obtain⟨ad,len,cap,rfl⟩:=okWide_slice hu hv;exact plain rfl (by intro arr h;cases h)
  | one b =>
   obtain⟨fs,f,hu,_⟩:=ytt1 hT;unfold Value.okWide at hv;simp only[hu] at hv;obtain⟨cs,rfl,_⟩:=hv;exact⟨cs,rfl,by rw[h2];rfl⟩
  | pair b c =>
   obtain⟨fs,hu,_⟩:=ywo1 hT;unfold Value.okWide at hv;simp only[hu] at hv;obtain⟨cs,rfl,_⟩:=hv;exact⟨cs,rfl,by rw[h2];rfl⟩
theorem yzr1 {f:FuncId} {args:List Arg} {vals:Array Value} {W:World} {b:Bool} (hT:Tabs P (fun b=>b<W.heap.size) W) (hm:Meets P f args { vals:=[.p (.bool b)] }) (hb:b=true) (ha:ArgsV (fun b=>b<W.heap.size) W vals.toList args) :
  Calls P f vals W fun e W'=>e=.returned (.bool true)/\Below W.heap.size W W':=by
 subst hb
 refine(hm.2 W (fun b=>b<W.heap.size) vals ⟨fun b hb=>hb,hT⟩ ha.rep).mono fun e W' h=>?_
 obtain⟨v,L,rfl,hp⟩:=h
 have hv:=hp.val
 simp only[ResAt,RVat] at hv
 subst hv
 exact⟨rfl,hp.ev.os,hp.ev.tape,hp.ev.output,hp.ev.size,fun k hk=>hp.ev.block k hk (ytg1 k)⟩
theorem yas1 {A:Nat->Prop} {W:World} (h:(varNames.all fun n=>(P.globalNamed n).isNone)=true):∀ n∈varNames,∀ g,P.globalNamed n=some g->A g/\∃ v,W.cell? ⟨g,0,none⟩=some v/\varOk n v:=fun n hn g hg=>by
 have:=List.all_eq_true.1 h n hn
 rw[hg] at this
 cases this
theorem ybs1 {A : Nat → Prop} {W : World} (h : P.globalNamed "internal/strconv.uint64pow10" = none) (h2 : ∀ n ∈ varNames, ∀ g, P.globalNamed n = some g → A g ∧ ∃ v, W.cell? ⟨g, 0, none⟩ = some v ∧ varOk n v) : Tabs P A W := ⟨fun g hg => (by rw [h] at hg; cases hg), h2⟩
end Go.PV

/-
 A walk over pure values: structs of two whole numbers compared.
 Conditions: none.
-/
namespace Go.PV
variable {P:Program}
theorem yty1 {t:TypeId} {f g:Field} {k:IntKind} {x1 x2 y1 y2:Int} (w:World) (hu:P.underlying t=some (.struct #[f,g])) (hs:P.stoodInHeld t=false)
  (hf : P.underlying f.type = some (.int k)) (hg : P.underlying g.type = some (.int k)) (n1 : (f.name != "_") = true) (n2 : (g.name != "_") = true) (o1 : f.offset = 0) (o2 : g.offset = 1) :
  (Op.equalIn 10000 t (.agg #[.int k x1,.int k x2]) (.agg #[.int k y1,.int k y2])).run P w=.ok ((x1==y1)&&(x2==y2)) w:=by
 have hfs:P.fieldsOf t=#[f,g]:=by simp[Program.fieldsOf,hu]
 rw[run_equalIn_struct w 9999 t _ _ (by rw[hfs];exact hu) hs,hfs]
 have e1 : f.name ≠ "_" := by simpa using n1
 have e2 : g.name ≠ "_" := by simpa using n2
 have p:∀ (h:Field) (cs:Array Value) (v:Value),P.underlying h.type=some (.int k)->cs[h.offset]?=some v->(part h.type cs h.offset).run P w=.ok v w:=fun h cs v h1 h2=>by
  simp[part,isAgg,run_underlying h1,h2]
 simp only[Op.eqFields,e1,e2,ne_eq,not_false_eq_true,if_true,Sem.run_bind]
 rw[p f _ (.int k x1) hf (by simp[o1])]
 simp only[Result.andThen_ok]
 rw[p f _ (.int k y1) hf (by simp[o1])]
 simp only[Result.andThen_ok]
 rw[run_equalIn_int w 9998 f.type k k x1 y1 hf]
 simp only[Result.andThen_ok]
 cases h:(x1==y1)
 ·simp
 simp only[Bool.not_true,Bool.false_eq_true,if_false,Sem.run_bind]
 rw[p g _ (.int k x2) hg (by simp[o2])]
 simp only[Result.andThen_ok]
 rw[p g _ (.int k y2) hg (by simp[o2])]
 simp only[Result.andThen_ok]
 rw[run_equalIn_int w 9998 g.type k k x2 y2 hg]
 simp only[Result.andThen_ok]
 cases h':(x2==y2) <;> simp
def two (P:Program) (t:TypeId) (k:IntKind):Bool :=
 match P.underlying t with
 | some (.struct fs)=> !P.stoodInHeld t && !P.eqGuardType P.depth t&&(match fs.toList with
  | [f, g] => (f.name != "_") && (g.name != "_") && f.offset == 0 && g.offset == 1 && (match P.underlying f.type, P.underlying g.type with
   | some (.int k1),some (.int k2)=>k1==k&&k2==k
   | _,_=>false)
  | _=>false)
 | _=>false
theorem ycs1 {t:TypeId} {k:IntKind} {x1 x2 y1 y2:Int} (h:two P t k=true) (w:World) :
  (Op.equalIn 10000 t (.agg #[.int k x1,.int k x2]) (.agg #[.int k y1,.int k y2])).run P w=.ok ((x1==y1)&&(x2==y2)) w/\P.eqGuardType P.depth t=false:=by
 unfold two at h
 cases hu:P.underlying t with
 | none=>rw[hu] at h;cases h
 | some d =>
  rw[hu] at h;cases d with
  | struct fs =>
   obtain⟨l⟩:=fs;match l with
   | [f,g] =>
    dsimp only at h
    cases h1:P.underlying f.type with
    | none=>rw[h1] at h;simp at h
    | some d1 =>
     cases h2:P.underlying g.type with
     | none=>rw[h1,h2] at h;cases d1 <;> simp at h
     | some d2 =>
      rw[h1,h2] at h;cases d1 <;> first | (simp at h;done) | skip
      cases d2 <;> first | (simp at h;done) | skip
      simp only[Bool.and_eq_true,Bool.not_eq_true',beq_iff_eq] at h;obtain⟨⟨a1,a8⟩,⟨⟨⟨a2,a3⟩,a4⟩,a5⟩,a6,a7⟩:=h;subst a6;subst a7;exact⟨yty1 w hu a1 h1 h2 a2 a3 a4 a5,a8⟩
   | []=>simp at h
   | [_]=>simp at h
   | _::_::_::_=>simp at h
  | _=>cases h
theorem yrf {t t2:TypeId} {a b:Operand} {k:IntKind} {x1 x2 y1 y2:Int} (h:two P t k=true):PureAt P (.binOp .eql t a b t2) [.agg #[.int k x1,.int k x2],.agg #[.int k y1,.int k y2]] (.bool ((x1==y1)&&(x2==y2))):=by
 intro ρ o ho hv w
 have hv:ρ a=.agg #[.int k x1,.int k x2]/\ρ b=.agg #[.int k y1,.int k y2]:=by simpa [Op.operands] using hv
 obtain⟨h1,h2⟩:=ycs1 (x1:=x1) (x2:=x2) (y1:=y1) (y2:=y2) h w
 simp only[execOp,ho,hv.1,hv.2,Sem.run_bind]
 rw[run_eqGuard_agg w _ t a b _ _ h2]
 simp only[Result.andThen_ok]
 rw[run_eql_struct w,h1]
 rfl
theorem yrf1 {t t2:TypeId} {a b:Operand} {k:IntKind} {x1 x2 y1 y2:Int} (h:two P t k=true):PureAt P (.binOp .neq t a b t2) [.agg #[.int k x1,.int k x2],.agg #[.int k y1,.int k y2]] (.bool (!((x1==y1)&&(x2==y2)))):=by
 intro ρ o ho hv w
 have hv:ρ a=.agg #[.int k x1,.int k x2]/\ρ b=.agg #[.int k y1,.int k y2]:=by simpa [Op.operands] using hv
 obtain⟨h1,h2⟩:=ycs1 (x1:=x1) (x2:=x2) (y1:=y1) (y2:=y2) h w
 simp only[execOp,ho,hv.1,hv.2,Sem.run_bind]
 rw[run_eqGuard_agg w _ t a b _ _ h2]
 simp only[Result.andThen_ok]
 rw[run_neq_struct w,h1]
 rfl
end Go.PV

/-
 A walk over pure values: a slice held against nil.
 Conditions: none.
-/
namespace Go.PV
variable {P:Program} {N:Nat}
end Go.PV

/-
 A walk over pure values: the block of an owned slice written in one go;slices cleared,copied,turned round.
 Conditions: none.
-/
namespace Go.PV
variable {P:Program} {N:Nat} {w0:World} {A:Nat->Prop} {I:Bor}
def rawRow:List C->Bool
 | []=>true
 | .raw v::l=>scal v&&rawRow l
 | _::_=>false
theorem yxo1 {l:List C} (h:rawRow l=true) {o:Nat} {c:C} (ho:l[o]?=some c):∃ v,c=.raw v/\scal v=true:=by
 induction l generalizing o with
 | nil=>simp at ho
 | cons x l ih =>
  cases x with
  | raw v =>
   simp only[rawRow,Bool.and_eq_true] at h;cases o with
   | zero=>simp at ho;exact⟨v,ho.symm,h.1⟩
   | succ o=>exact ih h.2 (by simpa using ho)
  | _=>simp[rawRow] at h
def wrS (σ:St) (r:Nat) (x:SV):St:=fun s=>if s=r then x else killSV r (σ s)
theorem Rel.putV {σ:St} {a:Act} {w:World} {L:Lab} (hR:Rel P N N w0 A I σ a w L) {d:Nat} (hd:I.pins.length<=d/\d<N) (v:Value):∃ L',Rel P N N w0 A I (Go.PV.put σ d (.p v)) (a.put (some d) v) w L' :=
 ⟨_,hR.up.put hd (sv:=.p v) (tv:=v) rfl⟩
theorem yll1 {ops:Array Oper} {Q:Exit->Act->World->Prop} {i:Nat} {rest:List Nat} {o:Oper} {a:Act} {w w':World} {v:Value} (ho:ops[i]?=some o) (hg:o.guard=none)
  (h:(execOp a.eval o).run P w=.ok (.value v) w') (hn:wpOps P ops Q rest (a.put o.dst v) w'):wpOps P ops Q (i::rest) a w:=by
 rw[wpOps_cons]
 unfold wpOp
 rw[ho]
 have hw:Region.wanted o (yielded ops a.tmps)=true:=by unfold Region.wanted;rw[hg]
 simp only[hw,if_true]
 exact .inl (yjf1 h hn)
theorem ynv1 {a:Act} {d:Nat} {v:Value} (hd:d<a.tmps.size) (t:Nat):(a.put (some d) v).eval (.tmp t)=if t=d then v else a.eval (.tmp t):=yij1 a v hd t
theorem yov1 (a:Act) (d:Option Nat) (v:Value):(a.put d v).tmps.size=a.tmps.size:=by cases d <;> simp[Act.put]
theorem ynm1 {a:Act} {o:Oper} {x:Operand} {w:World} (h:o.op=.assign x):(execOp a.eval o).run P w=.ok (.value (a.eval x)) w:=by simp[execOp,h]
theorem yuh1 {zs:Array Value} {n:Nat}:(Builtin.zeroCells zs n).size=n*zs.size/\∀ i o,i<n->o<zs.size->(Builtin.zeroCells zs n).getD (i*zs.size+o) undef=zs.getD o undef:=by
 refine⟨by simp[Builtin.zeroCells],fun i o hi ho=>?_⟩
 have hlt:i*zs.size+o<n*zs.size:=by
  calc i*zs.size+o<i*zs.size+zs.size:=by omega
   _=(i+1)*zs.size:=by rw[Nat.add_mul,Nat.one_mul]
   _<=n*zs.size:=Nat.mul_le_mul_right _ (by omega)
 have hmod:(i*zs.size+o) % zs.size=o:=by
  rw[Nat.add_comm,Nat.add_mul_mod_self_right,Nat.mod_eq_of_lt ho]
 simp[Builtin.zeroCells,Array.getD_eq_getD_getElem?,hlt,hmod,ho]
structure Wrote (w w':World) (g:Nat) (arr':Array Value) (e:TypeId):Prop where
 at':w'.heap[g]?=some (.cells arr' e (0,0))
 oth:∀ b,b≠g->w'.heap[b]?=w.heap[b]?
 size:w'.heap.size=w.heap.size
 os:w'.os=w.os
 tape:w'.tape=w.tape
 output:w'.output=w.output
theorem yyo1 {w:World} {g:Nat} {arr:Array Value} {e:TypeId} (h:w.heap[g]?=some (.cells arr e (0,0))):Wrote w w g arr e:=⟨h,fun _ _=>rfl,rfl,rfl,rfl,rfl⟩
theorem yds1 {w:World} {g:Nat} {arr:Array Value} {e:TypeId} (h:w.heap[g]?=some (.cells arr e (0,0))) (arr':Array Value):Wrote w (w.setRow g arr') g arr' e :=
 ⟨setRow_heap w g arr arr' e (0,0) h,fun b hb=>setRow_other w g b arr' hb,by simp,rfl,rfl,rfl⟩
theorem yuy1 {i o n sz:Nat} (hi:i<n) (ho:o<sz):i*sz+o<n*sz:=by
 calc i*sz+o<i*sz+sz:=by omega
  _=(i+1)*sz:=by rw[Nat.add_mul,Nat.one_mul]
  _<=n*sz:=Nat.mul_le_mul_right _ (by omega)
theorem yes1 {t e ty:TypeId} {inf:TypeInfo} {zv:Value} (hu:P.underlying t=some (.slice e)) (hi:P.info? e=some inf) (hz:inf.zero=some zv) (hzs:zv.cells.size=inf.size) (h1:∀ v∈zv.cells.toList,v.oneCell'=true)
  {w:World} {g cap n len:Nat} {arr:Array Value} (hg:w.heap[g]?=some (.cells arr e (0,0))) (ha:arr.size=cap*inf.size) (hn:n<=len) (hl:len<=cap) :
  ∃ w' arr',(Builtin.clear_ #[t] ty #[.slice (if cap=n then some ⟨g,0,none⟩ else(some (⟨g,0,none⟩:Addr)).map (·.add (n*inf.size))) (len-n) (cap-n)]).run P w=.ok (.tuple #[]) w'/\Wrote w w' g arr' e/\arr'.size=arr.size /\
   (∀ i o,i<n->o<inf.size->arr'.getD (i*inf.size+o) undef=arr.getD (i*inf.size+o) undef)/\∀ i o,n<=i->i<len->o<inf.size->arr'.getD (i*inf.size+o) undef=zv.cells.getD o undef:=by
 by_cases h0:len-n=0
 ·refine⟨w,arr,?_,yyo1 hg,rfl,fun _ _ _ _=>rfl,fun i o h2 h3 _=>by omega⟩
  rw[h0];cases hq:(if cap=n then some (⟨g,0,none⟩:Addr) else(some (⟨g,0,none⟩:Addr)).map (·.add (n*inf.size))) <;> simp[Builtin.clear_,run_underlying hu]
 have hne:¬ cap=n:=by omega
 obtain⟨z1,z2⟩:=yuh1 (zs:=zv.cells) (n:=len-n)
 have hb:n*inf.size+(len-n)*inf.size<=arr.size:=by
  rw[ha,← Nat.add_mul];exact Nat.mul_le_mul_right _ (by omega)
 have hst:=run_storeCells_at (P:=P) g (n*inf.size) e (Builtin.zeroCells zv.cells (len-n)).toList 0 arr w hg (by simp only[Array.length_toList,z1,hzs];omega) (fun v hv=>by
  simp only[Builtin.zeroCells,Array.toList_map,List.mem_map] at hv;obtain⟨j,_,rfl⟩:=hv;by_cases hs:zv.cells.size=0
  ·have:zv.cells=#[]:=by simpa using hs
   rw[this];rfl
  have:j % zv.cells.size<zv.cells.size:=Nat.mod_lt _ (by omega)
  exact h1 _ (by simp[this]))
 simp only[Nat.add_zero] at hst
 obtain⟨s1,s2⟩:=yix (arr:=arr) (vs:=Builtin.zeroCells zv.cells (len-n)) (off:=n*inf.size) (by rw[z1,hzs];exact hb)
 rw[Array.length_toList] at hst
 refine⟨_,_,?_,yds1 hg _,s1,fun i o h2 h3=>?_,fun i o h2 h3 h4=>?_⟩
 ·obtain⟨m,hm⟩:∃ m,len-n=m+1:=⟨len-n-1,by omega⟩
  rw[if_neg hne];simp only[Option.map_some,Addr.add_lit,Nat.zero_add];have hrz:∀ w,(zeroValue e).run P w=.ok zv w:=fun w=>by simp[zeroValue,typeInfo,hi,hz]
  rw[hm] at hst ⊢
  simp[Builtin.clear_,run_underlying hu,hrz,hst]
 ·rw[s2,if_neg]
  have:=yuy1 h2 h3
  omega
 rw[s2,if_pos]
 ·have e1:i*inf.size+o-n*inf.size=(i-n)*zv.cells.size+o:=by
   rw[hzs,Nat.sub_mul];have:n*inf.size<=i*inf.size:=Nat.mul_le_mul_right _ h2
   omega
  rw[e1];exact z2 (i-n) o (by omega) (by omega)
 rw[z1,hzs]
 have k1:n*inf.size<=i*inf.size:=Nat.mul_le_mul_right _ h2
 have k2:=yuy1 h3 h4
 have k3:n*inf.size+(len-n)*inf.size=len*inf.size:=by rw[← Nat.add_mul];congr 1;omega
 omega
end Go.PV

/-
 A walk over pure values: what a slice owns cut off behind;slices copied.
 Conditions: none.
-/
namespace Go.PV
variable {P:Program} {N:Nat} {w0:World} {A:Nat->Prop} {I:Bor}
def seqOk (ops:Array Oper):List (Nat×Bool)->Array Bool->Bool
 | [],listed=>(Region.ready .any ops listed).isEmpty
 | (i,fr)::l,listed=>(match ops[i]? with | some o=>o.guard.isNone | none=>false) &&
   (if fr then Region.free .any ops listed i&&(Region.ready .any ops listed).contains i else Region.ready .any ops listed==[i])&&seqOk ops l (listed.setIfInBounds i true)
def wpSeq (P:Program) (ops:Array Oper) (Q:Exit->Act->World->Prop):List (Nat×Bool)->Act->World->Prop
 | [],a,w=>Q .normal a w
 | (i,fr)::l,a,w=>match ops[i]? with
  | some o=>if fr then ∃ v,(∀ w,(execOp a.eval o).run P w=.ok (.value v) w)/\wpSeq P ops Q l (a.put o.dst v) w else o.wp P a w (wpSeq P ops Q l) Q
  | none=>False
end Go.PV

/-
 A walk over pure values: slices copied,at elements of one cell.
 Conditions: none.
-/
namespace Go.PV
variable {P:Program} {N:Nat} {w0:World} {A:Nat->Prop} {I:Bor}
def copyAt {α:Type} (xs:List α) (n:Nat) (ys:List α):List α:=xs.take n++ys.take (xs.length-n)++xs.drop (n+min ys.length (xs.length-n))
theorem row1 {row:List C} (h1:row.length=1) (h2:rawRow row=true):∃ v,row=[.raw v]/\scal v=true:=by
 match row,h1 with
 | [c],_ =>
  obtain⟨v,rfl,hv⟩:=yxo1 h2 (o:=0) rfl
  exact⟨v,rfl,hv⟩
def putsA (a:Act):List (Nat×Value)->Act
 | []=>a
 | (d,v)::l=>putsA (a.put (some d) v) l
def order9:List (Nat×Bool):=[(0,true),(1,true),(2,true),(3,true),(4,true),(5,true),(6,true),(7,false),(8,false),(9,false)]
end Go.PV

/-
 A walk over pure values: two elements of a slice exchanged,in whatever order.
 Conditions: none.
-/
namespace Go.PV
variable {P:Program} {N:Nat} {w0:World} {A:Nat->Prop} {I:Bor}
inductive Stp where
 | free (i:Nat)
 | one (i:Nat)
 | two (i j:Nat)
def stpLen:List Stp->Nat
 | []=>0
 | .two _ _::l=>stpLen l+2
 | _::l=>stpLen l+1
def opOk (ops:Array Oper) (i:Nat):Bool:=match ops[i]? with
 | some o=>o.guard.isNone
 | none=>false
def apart2 (ops:Array Oper) (i j:Nat):Bool:=match ops[i]?,ops[j]? with
 | some o,some p=>o.apart ops p
 | _,_=>false
def stpOk (ops:Array Oper):List Stp->Array Bool->Bool
 | [],listed=>(Region.ready .any ops listed).isEmpty
 | .free i::l,listed=>opOk ops i&&(Region.free .any ops listed i&&(Region.ready .any ops listed).contains i)&&stpOk ops l (listed.setIfInBounds i true)
 | .one i::l,listed=>opOk ops i&&(Region.ready .any ops listed==[i])&&stpOk ops l (listed.setIfInBounds i true)
 | .two i j::l,listed=>(opOk ops i&&opOk ops j&&apart2 ops i j&&i != j)&&(Region.ready .any ops listed==[i,j]&&Region.ready .any ops (listed.setIfInBounds i true)==[j]&&Region.ready .any ops (listed.setIfInBounds j true)==[i]) &&
   stpOk ops l ((listed.setIfInBounds i true).setIfInBounds j true)
def wpStp (P:Program) (ops:Array Oper) (Q:Exit->Act->World->Prop):List Stp->Act->World->Prop
 | [],a,w=>Q .normal a w
 | .free i::l,a,w=>∃ o v,ops[i]?=some o/\(∀ w,(execOp a.eval o).run P w=.ok (.value v) w)/\wpStp P ops Q l (a.put o.dst v) w
 | .one i::l,a,w=>∃ o,ops[i]?=some o/\o.wp P a w (wpStp P ops Q l) Q
 | .two i j::l,a,w=>∃ o p v u,ops[i]?=some o/\ops[j]?=some p/\(execOp a.eval o).run P w=.ok (.value v) w/\(execOp a.eval p).run P w=.ok (.value u) w/\wpStp P ops Q l ((a.put o.dst v).put p.dst u) w
def orderSwap:List Stp:=[.free 2,.free 3,.free 0,.free 1,.free 4,.free 5,.free 8,.free 9,.free 6,.free 10,.two 7 11,.one 12,.one 13,.one 14,.one 15]
end Go.PV
namespace Go.PV
variable {P:Program}
theorem ypv1 {t t2:TypeId} {a b:Operand} {k:IntKind} {x y:Int}:PureAt P (.binOp .and t a b t2) [.int k x,.int k y] (.int k (iand k x y)):=by
 intro ρ o ho hv w
 have hv:ρ a=.int k x/\ρ b=.int k y:=by simpa [Op.operands] using hv
 simp[execOp,ho,hv.1,hv.2,eqGuard,binOp,Op.intBits,iand]
theorem yqv1 {t t2:TypeId} {a b:Operand} {k k':IntKind} {x y:Int} (h:0<=y):PureAt P (.binOp .shr t a b t2) [.int k x,.int k' y] (.int k (ishr k x y)):=by
 intro ρ o ho hv w
 have hv:ρ a=.int k x/\ρ b=.int k' y:=by simpa [Op.operands] using hv
 have:¬ y<0:=by omega
 simp[execOp,ho,hv.1,hv.2,eqGuard,binOp,Op.shift,ishr,this]
theorem ysf1 {s d:TypeId} {a:Operand} {k k':IntKind} {x:Int} (h1:P.underlying s=some (.int k)) (h2:P.underlying d=some (.int k')):PureAt P (.convert s d a) [.int k x] (.int k' (k'.wrap x)):=by
 intro ρ o ho hv w
 have hv:ρ a=.int k x:=by simpa [Op.operands] using hv
 simp[execOp,ho,hv,convert,run_underlying h1,run_underlying h2,Conv.intToInt]
end Go.PV

/-
 A walk over pure values: a struct of one slice handed in,the slice lent on.
 Conditions: none.
-/
namespace Go.PV
variable {P:Program}
end Go.PV

/-
 A walk over pure values: a region's operations listed in another order.
 Conditions: none.
-/
namespace Go.PV
variable {P:Program} {N:Nat}
def permOp (π:List Nat) (o:Oper):Oper:={ o with after:=o.after.map fun e=>{ e with on:=π.idxOf e.on },guard:=o.guard.map fun g=>(π.idxOf g.1,g.2) }
def permOps (π:List Nat) (ops:List Oper):List Oper:=π.map fun i=>permOp π (ops.getD i default)
def permB (π:List Nat) (ops:List Oper):Bool :=
 (π.length==ops.length&&((List.range ops.length).all (fun i=>decide (π.idxOf i<ops.length)&&π.getD (π.idxOf i) ops.length==i)&&(List.range ops.length).all (fun j=>decide (π.getD j ops.length<ops.length)&&π.idxOf (π.getD j ops.length)==j))) &&
 ops.all fun o=>o.after.all (fun e=>decide (e.on<ops.length))&&(match o.guard with | some g=>decide (g.1<ops.length) | none=>true)
section
variable {π:List Nat} {ops:List Oper} (h:permB π ops=true)
include h
end
end Go.PV

/-
 A walk over pure values: a region in whatever order,every order walked.
 Conditions: none.
-/
namespace Go.PV
variable {P:Program} {N:Nat}
def freeAt (ops:Array Oper) (listed:Array Bool):Option Nat:=(Region.ready .any ops listed).find? fun k=>match ops[k]? with
 | some o=>plainO o&&(Region.noSelect ops&&Region.free .any ops listed k)
 | none=>false
def pvT (P:Program) (ops:Array Oper) (K:St->Prop):Nat->Array Bool->St->Prop
 | 0,listed,σ=>Region.ready .any ops listed=[]/\K σ
 | f+1,listed,σ=>match freeAt ops listed with
  | some k=>∃ o,ops[k]?=some o/\o.guard=none/\pvOpF P o σ fun σ'=>pvT P ops K f (listed.setIfInBounds k true) σ'
  | none=>(Region.ready .any ops listed=[]->K σ)/\∀ i∈Region.ready .any ops listed,∃ o,ops[i]?=some o/\o.guard=none/\pvOpF P o σ fun σ'=>pvT P ops K f (listed.setIfInBounds i true) σ'
def xTl (step:Nat->Option (List LS×List Prop)):List Nat->Option (List LS×List Prop)
 | []=>some ([],[])
 | i::l=>match step i,xTl step l with
  | some (a,b),some (c,d)=>some (a++c,b++d)
  | _,_=>none
def xT (P:Program) (ops:Array Oper) (hs:List (Nat×HH)) (l1:LS):Nat->Array Bool->St->Option (List LS×List Prop)
 | 0,listed,σ=>(match Region.ready .any ops listed with
  | []=>some ([readL σ l1],[])
  | _=>none)
 | f+1,listed,σ =>
  let go:=fun k=>match ops[k]? with
   | some o=>if o.guard.isNone=true then(match xOpF P o σ (hintAt hs k) with
    | some (σ1,o2)=>(match xT P ops hs l1 f (listed.setIfInBounds k true) (xFix σ1 (hintAt hs k)).1 with
     | some (ls,o3)=>some (ls,o2++((xFix σ1 (hintAt hs k)).2++o3))
     | none=>none)
    | none=>none) else none
   | none=>none
  match freeAt ops listed with
  | some k=>go k
  | none=>(match Region.ready .any ops listed with
   | []=>some ([readL σ l1],[])
   | i::l=>xTl go (i::l))
end Go.PV

/-
 A walk over pure values: structs of two structs of two whole numbers compared.
 Conditions: none.
-/
namespace Go.PV
variable {P:Program}
def twoS (P:Program) (t:TypeId) (k:IntKind):Bool :=
 match P.underlying t,P.info? t with
 | some (.struct fs),some i=>i.size==2 && !P.stoodInHeld t&&(match fs.toList with
  | [f, g] => (f.name != "_") && (g.name != "_") && f.offset == 0 && g.offset == 1 && (match P.underlying f.type, P.underlying g.type with
   | some (.int k1),some (.int k2)=>k1==k&&k2==k
   | _,_=>false)
  | _=>false)
 | _,_=>false
def four (P:Program) (t:TypeId) (k:IntKind):Bool :=
 match P.underlying t with
 | some (.struct fs)=> !P.stoodInHeld t && !P.eqGuardType P.depth t&&(match fs.toList with
  | [f, g] => (f.name != "_") && (g.name != "_") && f.offset == 0 && g.offset == 2 && twoS P f.type k && twoS P g.type k
  | _=>false)
 | _=>false
end Go.PV

/-
 A walk over pure values: the rules once more,with what the kernel reckons left out.
 Conditions: none.
-/
namespace Go.PV
variable {P:Program} {N:Nat}
theorem A1 {a:Prop} (x:a):a/\True:=⟨x,trivial⟩
theorem A2 {a b:Prop} (x:a) (y:b):a/\b/\True:=⟨x,y,trivial⟩
theorem A3 {a b c:Prop} (x:a) (y:b) (z:c):a/\b/\c/\True:=⟨x,y,z,trivial⟩
theorem A4 {a b c d:Prop} (x:a) (y:b) (z:c) (u:d):a/\b/\c/\d/\True:=⟨x,y,z,u,trivial⟩
theorem A5 {a b c d e:Prop} (x:a) (y:b) (z:c) (u:d) (v:e):a/\b/\c/\d/\e/\True:=⟨x,y,z,u,v,trivial⟩
theorem A6 {a b c d e f:Prop} (x:a) (y:b) (z:c) (u:d) (v:e) (w:f):a/\b/\c/\d/\e/\f/\True:=⟨x,y,z,u,v,w,trivial⟩
theorem B6 {a b c d e f g:Prop} (x:a) (y:b) (z:c) (u:d) (v:e) (w:f) (t:g):a/\b/\c/\d/\e/\f/\g:=⟨x,y,z,u,v,w,t⟩
theorem r_gq {id:Nat} {ops:List Oper} {l0:LS} {Q:Prop} (l1:LS) (hs:List (Nat×HH)) (ho:Q) (e:(xGo P ops hs l0 l1).map (fun p=>(p.1,allP p.2))=some (l1,Q):=by kernel_rfl):RegOk P N (.region id ops.toArray false) l0 l1:=by
 cases hx:xGo P ops hs l0 l1 with
 | none=>rw[hx] at e;cases e
 | some p =>
  rw[hx] at e;simp only[Option.map_some,Option.some.injEq,Prod.mk.injEq] at e;obtain⟨e1,e2⟩:=e;exact r_go l1 hs p.2 (by rw[hx,← e1]) (by rw[e2];exact ho)
theorem r_dq {id:Nat} {ops:List Oper} {l0:LS} {Q:Prop} (hm:P.follows .mixedOrders=true) (n:Nat) (T:List (Nat×Nat)) (l1:LS) (hs:List (Nat×HH)) (ho:Q) (e:(xGoD P n T ops hs l0 l1).map (fun p=>(p.1,allP p.2))=some (l1,Q):=by kernel_rfl):RegOk P N (.region id ops.toArray true) l0 l1:=by
 cases hx:xGoD P n T ops hs l0 l1 with
 | none=>rw[hx] at e;cases e
 | some p =>
  rw[hx] at e;simp only[Option.map_some,Option.some.injEq,Prod.mk.injEq] at e;obtain⟨e1,e2⟩:=e;exact yjb2 hm n T l1 hs p.2 (by rw[hx,← e1]) (by rw[e2];exact ho)
theorem kc {c:Operand} (b:Bool) {x y:Code} {l:LS} {Q:Ex->LS->Prop} (h1:b=true->OkL P N x l Q) (h2:b=false->OkL P N y l Q) (hc:evS (ofL l) c=.p (.bool b):=by kernel_rfl):OkL P N (.cond c x y) l Q:=yhb2 hc h1 h2
theorem er {fn:Func} {args:List Arg} {vals:List RV} {l:LS} (ls:List (RV×Nat)) (h1:retVs P (ofL l) fn.results.toList=some ls:=by kernel_rfl) (h2:ovOk ls=true:=by rfl) (h3:ls.map (·.1)=vals:=by kernel_rfl) (h4:outsOf (ofL l) ((List.range args.length).zip args)=some []:=by rfl):endL P fn args { vals:=vals } .ret l:=ylc2 h1 h2 h3 h4
theorem ebr {fn:Func} {vals:List RV} {x':SV} {l:LS} (ls:List (RV×Nat)) (h1:retVs P (ofL l) fn.results.toList=some ls:=by kernel_rfl) (h2:ovOk ls=true:=by rfl) (h0:(ls.all fun y=> !isOvR y.1||y.2 != 0)=true:=by rfl) (h3:ls.map (·.1)=vals:=by kernel_rfl) (h4:ofL l 0=x':=by kernel_rfl):endLB P fn vals x' .ret l:=ykb2 h1 h2 h0 h3 h4
theorem lqn {X Y:Type} {o:X ⊕ Y} {J:X->LS} {Q:Ex->LS->Prop} {l:LS} (x':X) (h:some (Sum.inl x')=some o) (h1:refsOk (J x')=true:=by kernel_rfl) (h2:readL (ofL l) (J x')=J x':=by kernel_rfl):loopQ o J Q .normal l:=lq_n x' (Option.some.inj h).symm (ygb2 h1 h2)
theorem jx {X:Type} {K:X->Prop} {J:X->LS} {l:LS} (x:X) (h:K x) (h1:refsOk (J x)=true:=by kernel_rfl) (h2:readL (ofL l) (J x)=J x:=by kernel_rfl):∃ x,K x/\wk l (J x):=⟨x,h,ygb2 h1 h2⟩
theorem mo {f:FuncId} {fn:Func} {c:Code} {args:List Arg} {res:Res} (hf:P.funcs[f]?=some fn) (l0:LS) (h:OkL P fn.ntmps c l0 (endL P fn args res)) (hb:fn.body=some c:=by rfl) (hc:callable P f=true:=by kernel_rfl)
  (hN:(decide (args.length<=fn.ntmps)&&codeB 0 fn.ntmps c&&args.all notPtrA)=true:=by kernel_rfl) (hl0:(List.range args.length).zip (args.map argSV)=l0:=by kernel_rfl):Meets P f args res:=ywr1 hc hf hb hN hl0 h
theorem mob {f:FuncId} {fn:Func} {c:Code} {x x':SV} {args:List Arg} {vals:List RV} (hf:P.funcs[f]?=some fn) (l0:LS) (h:OkL P fn.ntmps c l0 (endLB P fn vals x')) (hb:fn.body=some c:=by rfl) (hc:callable P f=true:=by kernel_rfl)
  (hN:(decide (args.length+1<=fn.ntmps)&&codeB 1 fn.ntmps c&&args.all notPtrA)=true:=by kernel_rfl) (hx':(isOwnR x'||match(generalizing:=false) x' with | .u=>true | _=>false)=true:=by kernel_rfl) (hl0:(List.range (args.length+1)).zip (x::args.map argSV)=l0:=by kernel_rfl):MeetsB P f x args vals x':=yso1 hc hf hb hN hx' hl0 h
theorem bs {α β:Type} {o:Option α} {f:α->Option β} {r:β} (h:o.bind f=some r):∃ x,o=some x/\f x=some r:=Option.bind_eq_some_iff.1 h
theorem oi {α:Type} {a b:α} (h:some a=some b):a=b:=Option.some.inj h
theorem ft (b:Bool):b=true\/b=false:=Bool.eq_false_or_eq_true b
abbrev rI (n:Int):C:=.raw (.int .i64 n)
abbrev iV (n:Int):Value:=.int .i64 n
abbrev wI (n:Int):Arg:=.v (.int .i64 n)
abbrev Cu:=List Int×Int×Int
abbrev eCu:Cu->List C:=eP (eF (eU .u8)) (eP eI (eU .u64))
abbrev Qr:=Int×Int
abbrev Qp:=Qr×Qr
abbrev eRt:Qr->List C:=eP eI eI
abbrev ePt:Qp->List C:=eP eRt eRt
abbrev vRt (x:Qr):Value:=.agg #[.int .i64 x.1,.int .i64 x.2]
abbrev vPt (x:Qp):Value:=.agg #[.int .i64 x.1.1,.int .i64 x.1.2,.int .i64 x.2.1,.int .i64 x.2.2]
abbrev gT:HH:={ g:=some true }
abbrev gF:HH:={ g:=some false }
abbrev bT:HH:={ b:=some true }
abbrev bF:HH:={ b:=some false }
end Go.PV

/-
 A walk over pure values: decimal numerals.
 Conditions: none.
-/
set_option linter.all false
namespace Go.PV
def itoaB (n:Int):ByteArray:=⟨(Lib.itoa n).toArray⟩
def byteB (z:Int):ByteArray:=⟨[UInt8.ofNat (Int.toNat z)].toArray⟩
end Go.PV

/-
 A walk over pure values: letters and parts of strings.
 Conditions: none.
-/
set_option linter.all false
namespace Go.PV
variable {P:Program}
def strAt (s:ByteArray) (i:Int):Int:=if h:0<=i/\i<s.size then((s[i.toNat]'(by omega)).toNat:Int) else 0
def strCut (s:ByteArray) (i j:Int):ByteArray:=s.extract i.toNat j.toNat
def bytesL (b:ByteArray):List Int:=b.data.toList.map fun c=>(c.toNat:Int)
end Go.PV

/-
 A walk over pure values: strings.Builder: the check that it has not been copied.
 Conditions: none.
-/
set_option linter.all false
namespace Go.PV
variable {P:Program}
def eBp (t:TypeId):Unit->List C:=fun _=>[.bp t]
def bytesB (xs:List Int):ByteArray:=⟨(xs.map fun z=>UInt8.ofNat (Int.toNat z)).toArray⟩
def bytesOk (xs:List Int):Bool:=xs.all fun x=>decide (0<=x)&&decide (x<=255)
def asciiB (b:ByteArray):Bool:=b.data.toList.all fun x=>decide (x.toNat<128)
def trimB (a b:ByteArray):ByteArray:=⟨(((a.data.toList.reverse.dropWhile (b.data.toList.contains ·)).reverse).dropWhile (b.data.toList.contains ·)).toArray⟩
def cutB (s t:ByteArray):ByteArray×ByteArray×Bool:=(⟨(Lib.cut s.data.toList t.data.toList).1.toArray⟩,⟨(Lib.cut s.data.toList t.data.toList).2.1.toArray⟩,(Lib.cut s.data.toList t.data.toList).2.2)
def atoiV (s:ByteArray):Int×Bool:=match Lib.atoiAll s.data.toList with
 | .ok v=>(v,true)
 | .range=>(Lib.atoiSat s.data.toList,false)
 | _=>(0,false)
def eEr:Bool->List C:=fun b=>[.er b]
def oppP (q:(Int×Int)×(Int×Int)):(Int×Int)×(Int×Int):=((w64 (q.1.2-q.1.1),q.1.2),(w64 (q.2.2-q.2.1),q.2.2))
end Go.PV

/-
 Lists of fractions sorted and compacted: the words.
 Conditions: none.
-/
set_option linter.all false
namespace Go.PV
def cpF (d:Nat->Int×Int):Nat->List (Int×Int)
 | 0=>[]
 | m+1=>if 1<=m/\d m=d (m-1) then cpF d m else cpF d m++[d m]
def cpL (l:List (Int×Int)):List (Int×Int):=cpF (fun i=>l.getD i (0,0)) l.length
def okR (x:Int×Int):Bool:=decide (1<=x.2/\x.2<=1000000000 /\ -1000000000<=x.1/\x.1<=1000000000/\Int.gcd x.1 x.2=1)
def leR (x y:Int×Int):Bool:= !decide (y.1*x.2<x.1*y.2)
def sortR (l:List (Int×Int)):List (Int×Int):=l.mergeSort leR
end Go.PV

/-
 A walk in a round of a range over a function: what holds of operations elsewhere holds there.
 Conditions: none.
-/
set_option linter.all false
namespace Go.PV
variable {P:Program} {N:Nat}
def Fx (ro:Option Nat):Fence:={ Fence.wide with round:=ro }
def dz (ds:List Deferred) (a:Act):Act:={ a with defers:=a.defers++ds }
def noDefer (o:Oper):Bool:=match o.op with | .defer _=>false | _=>true
section
variable {ro:Option Nat} {n:Nat} {ds:List Deferred} {Q Q':Exit->Act->World->Prop} {ops:Array Oper}
end
def liftX (ds:List Deferred) (P:Program) (N:Nat) (w0:World) (A:Nat->Prop) (I:Bor) (Q:Ex->LS->Prop):Exit->Act->World->Prop
 | .normal,a,w=>∃ a0 σ L l',a=dz ds a0/\Rel P N N w0 A I σ a0 w L/\(σ=ofL l'\/agree l' σ)/\Q .normal l'
 | .exit id,a,w=>∃ a0 σ L l',a=dz ds a0/\Rel P N N w0 A I σ a0 w L/\(σ=ofL l'\/agree l' σ)/\Q (.exit id) l'
 | .ret,a,w=>∃ a0 σ L l',a=dz ds a0/\Rel P N N w0 A I σ a0 w L/\(σ=ofL l'\/agree l' σ)/\Q .ret l'
 | _,_,_=>False
def codeX (k N:Nat):Code->Bool
 | .region _ ops _=>opsB k N ops.toList&&ops.toList.all noDefer
 | .seq a b=>codeX k N a&&codeX k N b
 | .cond _ a b=>codeX k N a&&codeX k N b
 | .block _ c=>codeX k N c
 | .skip=>true
 | .ret=>true
 | .exit _=>true
 | _=>false
def OkX (ro:Option Nat) (ds:List Deferred) (P:Program) (N:Nat) (c:Code) (l:LS) (Q:Ex->LS->Prop):Prop :=
 ∀ n k,codeX k N c=true->∀ w0 A I a w L,I.pins.length=k->Rel P N N w0 A I (ofL l) a w L->c.wpIn (Fx ro) n P (liftX ds P N w0 A I Q) (dz ds a) w
section
variable {ro:Option Nat} {ds:List Deferred}
theorem yxj1 {w0:World} {A:Nat->Prop} {I:Bor} {σ:St} {a:Act} {w:World} {L:Lab} {l':LS} (hR:Rel P N N w0 A I σ a w L) (h:σ=ofL l'\/agree l' σ):Rel P N N w0 A I (ofL l') a w L:=by
 rcases h with rfl | h
 ·exact hR
 exact ypf hR h
def RegX (ro:Option Nat) (ds:List Deferred) (P:Program) (N:Nat) (c:Code) (l0 l1:LS):Prop:=∀ Q:Ex->LS->Prop,Q .normal l1->OkX ro ds P N c l0 Q
end
end Go.PV

/-
 A walk in a round of a range over a function: the relation carried to another world,another frame,another beginning.
 Conditions: none.
-/
set_option linter.all false
namespace Go.PV
variable {P:Program} {N:Nat}
def CellsKept (w w':World):Prop:=∀ (b:Nat) (arr:Array Value) (e:TypeId) (f:Nat×Nat),w.heap[b]?=some (.cells arr e f)->w'.heap[b]?=some (.cells arr e f)
structure LabKept (w:World) (L L':Lab):Prop where
 sub:∀ b x,L' b=some x->L b=some x
 cel:∀ (b:Nat) (x:Nat×Path) (arr:Array Value) (e:TypeId) (f:Nat×Nat),L b=some x->w.heap[b]?=some (.cells arr e f)->L' b=some x
theorem LabKept.none {w:World} {L L':Lab} (h:LabKept w L L') {b:Nat} (hb:L b=none):L' b=none:=by
 cases hx:L' b with
 | none=>rfl
 | some x=>rw[h.sub b x hx] at hb;cases hb
def simpleS:SV->Bool
 | .u | .p _ | .d .. | .ov .. | .box _=>true
 | _=>false
def SlotFrom (σ:St) (a a':Act) (σ':St) (s:Nat):Prop :=
 σ' s=.u\/(∃ v,σ' s=.p v/\a'.tmps.getD s undef=v/\s<N)\/(simpleS (σ' s)=true/\σ s=σ' s/\a'.tmps.getD s undef=a.tmps.getD s undef)
def cleanL (w:World) (L:Lab):Lab:=fun b=>match w.heap[b]? with | some (.cells ..)=>L b | _=>none
def baseA (w0:World) (A:Nat->Prop) (w:World) (L:Lab):Nat->Prop:=fun b=>Zof w0 A L w b\/cleanL w L b≠none
def baseI (w:World) (L:Lab) (pins:List Value):Bor:=⟨fun b=>cleanL w L b≠none,pins⟩
section
variable {w0:World} {A:Nat->Prop} {I:Bor} {σ σ':St} {a a':Act} {w w':World} {L L':Lab}
end
theorem yzo1:∀ (l:LS) (s:Nat),ofL l s=.u\/∃ x∈l,x.1=s/\ofL l s=x.2
 | [],_=>.inl rfl
 | (k,x)::l,s=>by
  simp only[ofL,upd];by_cases h:s=k
  ·rw[if_pos h];exact .inr ⟨(k,x),List.mem_cons_self,h.symm,rfl⟩
  rw[if_neg h];rcases yzo1 l s with h1 | ⟨y,h1,h2,h3⟩
  ·exact .inl h1
  exact .inr ⟨y,List.mem_cons_of_mem _ h1,h2,h3⟩
theorem yap1 {l:LS} (h:l.all (fun x=>simpleS x.2)=true) (s:Nat):simpleS (ofL l s)=true:=by
 rcases yzo1 l s with h1 | ⟨x,hx,_,h1⟩
 ·rw[h1];rfl
 rw[h1];exact List.all_eq_true.1 h x hx
def rawR (rows:List (List C)):Bool:=rows.all fun r=>r.all fun c=>match c with | .raw _=>true | _=>false
end Go.PV

/-
 Slices of pairs of numbers compacted and sorted: the contracts' common part.
 Conditions: none.
-/
set_option linter.all false
namespace Go.PV
variable {P:Program}
theorem ybp1 (x y:Int×Int):((x.1==y.1)&&(x.2==y.2))=decide (x=y):=by
 obtain⟨a,b⟩:=x
 obtain⟨c,d⟩:=y
 by_cases h1:a=c <;> by_cases h2:b=d <;> simp[h1,h2]
theorem yrv1 {k:Nat} (h2:k<=9223372036854775807):IntKind.i64.wrap (k:Int)=(k:Int):=by
 have e2:(2 ^ IntKind.bits .i64:Int)=18446744073709551616:=by decide
 have e3:(2 ^ (IntKind.bits .i64-1):Int)=9223372036854775808:=by decide
 unfold IntKind.wrap
 simp only[e2]
 rw[Int.emod_eq_of_lt (by omega) (by omega)]
 split
 ·rename_i h
  simp only[e3,Bool.and_eq_true,decide_eq_true_eq] at h;omega
 rfl
theorem yml1 {k:Nat} (h1:1<=k) (h2:k<=9223372036854775807):IntKind.i64.wrap ((k:Int)-1)=((k-1:Nat):Int):=by
 rw[show((k:Int)-1)=((k-1:Nat):Int) by omega]
 exact yrv1 (by omega)
structure Wc (w wr:World) (b n c:Nat) (e:TypeId) (F:Nat->Int×Int):Prop where
 os:wr.os=w.os
 tape:wr.tape=w.tape
 output:wr.output=w.output
 size:wr.heap.size=w.heap.size
 oth:∀ k,k≠b->wr.heap[k]?=w.heap[k]?
 at':∃ arr:Array Value,wr.heap[b]?=some (.cells arr e (0,0))/\arr.size=c/\∀ i,i<n->arr[i*2]?=some (.int .i64 (F i).1)/\arr[i*2+1]?=some (.int .i64 (F i).2)
theorem Wc.drew {w wr:World} {b n c:Nat} {e:TypeId} {F:Nat->Int×Int} (h:Wc w wr b n c e F) (q:Nat):Wc w (wr.drewN q) b n c e F:=⟨h.os,h.tape,h.output,h.size,h.oth,h.at'⟩
theorem Wc.cell {w wr:World} {b n c:Nat} {e:TypeId} {F:Nat->Int×Int} (h:Wc w wr b n c e F) {i:Nat} (hi:i<n):wr.cell? ⟨b,i*2,none⟩=some (.int .i64 (F i).1)/\wr.cell? ⟨b,i*2+1,none⟩=some (.int .i64 (F i).2):=by
 obtain⟨arr,h1,h2,h3⟩:=h.at'
 exact⟨by simp[World.cell?,h1,(h3 i hi).1],by simp[World.cell?,h1,(h3 i hi).2]⟩
theorem Wc.free {w wr:World} {b n c:Nat} {e:TypeId} {F:Nat->Int×Int} (h:Wc w wr b n c e F) (o:Nat):wr.frozen? ⟨b,o,none⟩=false:=by
 obtain⟨arr,h1,h2,h3⟩:=h.at'
 simp[World.frozen?,h1]
theorem Wc.set {w wr:World} {b n c:Nat} {e:TypeId} {F:Nat->Int×Int} (h:Wc w wr b n c e F) {k:Nat} (hk:k<n) (u:Int×Int):Wc w ((wr.setCell ⟨b,k*2,none⟩ (.int .i64 u.1)).setCell ⟨b,k*2+1,none⟩ (.int .i64 u.2)) b n c e (fun i=>if i=k then u else F i):=by
 obtain⟨arr,h1,h2,h3⟩:=h.at'
 refine⟨h.os,h.tape,h.output,?_,fun j hj=>?_,(arr.setIfInBounds (k*2) (.int .i64 u.1)).setIfInBounds (k*2+1) (.int .i64 u.2),?_,by simp[h2],fun i hi=>?_⟩
 ·simp[World.setCell,h.size]
 ·rw[← h.oth j hj]
  simp[World.setCell,Array.getElem?_modify,Ne.symm hj]
 ·simp[World.setCell,Array.getElem?_modify,h1]
 have hk3:=h3 k hk
 have l1:k*2+1<arr.size:=(Array.getElem?_eq_some_iff.1 hk3.2).1
 by_cases e:i=k
 ·subst e
  simp[Array.getElem?_setIfInBounds,l1,show i*2<arr.size by omega]
 have:=h3 i hi
 simp only[if_neg e]
 rw[Array.getElem?_setIfInBounds,if_neg (by omega),Array.getElem?_setIfInBounds,if_neg (by omega),Array.getElem?_setIfInBounds,if_neg (by omega),Array.getElem?_setIfInBounds,if_neg (by omega)]
 exact this
theorem ynl1 (d:Nat->Int×Int):∀ k,(∀ j,1<=j->j<k->d j≠d (j-1))->(cpF d k).length=k/\∀ i,i<k->(cpF d k)[i]?=some (d i)
 | 0,_=>⟨rfl,fun i hi=>by omega⟩
 | k+1,h=>by
  obtain⟨l,g⟩:=ynl1 d k fun j h1 h2=>h j h1 (by omega)
  have hno:¬ (1<=k/\d k=d (k-1)):=fun ⟨h1,h2⟩=>h k h1 (by omega) h2
  simp only[cpF,if_neg hno];refine⟨by simp[l],fun i hi=>?_⟩
  by_cases e:i=k
  ·subst e
   rw[List.getElem?_append_right (by omega),l];simp
  rw[List.getElem?_append_left (by omega)];exact g i (by omega)
theorem yut1 {d:Nat->Int×Int} {m:Nat} (h1:1<=m) (h:d m=d (m-1)):cpF d (m+1)=cpF d m:=by simp only[cpF,if_pos (And.intro h1 h)]
theorem yvy1 {d:Nat->Int×Int} {m:Nat} (h:¬ d m=d (m-1)):cpF d (m+1)=cpF d m++[d m]:=by simp only[cpF];rw[if_neg fun hh=>h hh.2]
theorem ykc2 {Z:Nat->Prop} {L:Lab} {w:World} {s g cap:Nat} {p:Path} {arr:Array Value} {e:TypeId} {l:List (Int×Int)} (hs:esz P e=2) (hg:w.heap[g]?=some (.cells arr e (0,0))) (ha:arr.size=cap*esz P e) (hn:l.length<=cap)
  (hr:∀ i row o c,(l.map (eP eI eI))[i]?=some row->row[o]?=some c->Rep P Z L w s (p++[(i,o)]) (arr.getD (i*esz P e+o) undef) c):Wc w w g l.length (cap*2) e fun i=>l.getD i (0,0):=by
 rw[hs] at ha
 refine⟨rfl,rfl,rfl,rfl,fun _ _=>rfl,arr,hg,ha,fun i hi=>?_⟩
 have e0:(l.map (eP eI eI))[i]?=some [.raw (.int .i64 l[i].1),.raw (.int .i64 l[i].2)]:=by
  rw[List.getElem?_map,List.getElem?_eq_getElem hi];rfl
 have r0:=(hr i _ 0 _ e0 rfl).raw_eq
 have r1:=(hr i _ 1 _ e0 rfl).raw_eq
 rw[hs] at r0 r1
 rw[Array.getD_eq_getD_getElem?,Array.getElem?_eq_getElem (show i*2+0<arr.size by omega)] at r0
 rw[Array.getD_eq_getD_getElem?,Array.getElem?_eq_getElem (show i*2+1<arr.size by omega)] at r1
 have d0:l.getD i (0,0)=l[i]:=by simp[hi]
 rw[d0]
 refine⟨?_,?_⟩
 ·rw[Array.getElem?_eq_getElem (show i*2<arr.size by omega)]
  exact congrArg some r0
 rw[Array.getElem?_eq_getElem (show i*2+1<arr.size by omega)]
 exact congrArg some r1
theorem ywy1 {Z:Nat->Prop} {L:Lab} {w0 w:World} {s g cap n:Nat} {p:Path} {e:TypeId} {F:Nat->Int×Int} {l:List (Int×Int)} (hs:esz P e=2) (hW:Wc w0 w g n (cap*2) e F) (hl:L g=some (s,p)) (hn:l.length<=n) (hnc:n<=cap) (hm:cap<=maxLen) (hF:∀ i,i<l.length->l[i]?=some (F i)) :
  Rep P Z L w s p (.slice (some ⟨g,0,none⟩) l.length cap) (.sl (some e) (l.map (eP eI eI))):=by
 obtain⟨arr,h1,h2,h3⟩:=hW.at'
 have hlen:(l.map (eP eI eI)).length=l.length:=List.length_map ..
 have:=Rep.own (P:=P) (Z:=Z) (L:=L) (w:=w) (s:=s) (p:=p) (g:=g) (cap:=cap) (arr:=arr) (e:=e) (rows:=l.map (eP eI eI)) hl h1 (by omega) hm (by rw[hs];exact h2) (fun row hrow=>by
   obtain⟨x,_,rfl⟩:=List.mem_map.1 hrow;rw[hs];rfl) (fun i row o c h5 h6=>by
   rw[List.getElem?_map] at h5;cases hx:l[i]? with
   | none=>rw[hx] at h5;cases h5
   | some x =>
    rw[hx] at h5;obtain rfl:=Option.some.inj h5
    have hi:i<l.length:=(List.getElem?_eq_some_iff.1 hx).1
    have hFi:=hF i hi;rw[hx] at hFi;obtain rfl:=Option.some.inj hFi
    have h3i:=h3 i (by omega)
    rw[hs];match o,h6 with
    | 0,h6 =>
     obtain rfl:=Option.some.inj h6
     have:arr.getD (i*2+0) undef=.int .i64 (F i).1:=by rw[Array.getD_eq_getD_getElem?,Nat.add_zero,h3i.1];rfl
     rw[this];exact .frz (.raw rfl)
    | 1,h6 =>
     obtain rfl:=Option.some.inj h6
     have:arr.getD (i*2+1) undef=.int .i64 (F i).2:=by rw[Array.getD_eq_getD_getElem?,h3i.2];rfl
     rw[this];exact .frz (.raw rfl)
    | o+2,h6=>simp[eP,eI] at h6)
 rw[hlen] at this
 exact this
theorem yvt1 (d:Nat->Int×Int):∀ m,(cpF d m).length<=m
 | 0=>Nat.le_refl _
 | m+1=>by
  have:=yvt1 d m
  simp only[cpF];split
  ·omega
  simp;omega
theorem yol1 {Z:Nat->Prop} {L:Lab} {w:World} {s:Nat} {p:Path} {v:Value} {e:TypeId} {rows:List (List C)} (h:Rep P Z L w s p v (.sl (some e) rows)) :
  (v=.slice none 0 0/\rows=[])\/∃ (g cap:Nat) (arr:Array Value),v=.slice (some ⟨g,0,none⟩) rows.length cap/\L g=some (s,p)/\w.heap[g]?=some (.cells arr e (0,0))/\rows.length<=cap/\cap<=maxLen/\arr.size=cap*esz P e /\
   ∀ (i:Nat) (row:List C) (o:Nat) (c:C),rows[i]?=some row->row[o]?=some c->Rep P Z L w s (p++[(i,o)]) (arr.getD (i*esz P e+o) undef) c:=by
 cases h with
 | frz h=>cases h
 | onil=>exact .inl ⟨rfl,rfl⟩
 | own hl hg hn hm ha hsz hr=>exact .inr ⟨_,_,_,rfl,hl,hg,hn,hm,ha,hr⟩
theorem yvh1 {f:FuncId} {e:TypeId} {l:List (Int×Int)} (hc:callable P f=true) (hs:esz P e=2)
  (h1:∀ (b n cap:Nat) (d:Nat->Int×Int) (w0 w:World),n<=cap->cap<=9223372036854775807->Wc w0 w b n (cap*2) e d->Calls P f #[.slice (some ⟨b,0,none⟩) n cap] w fun e' w'=>∃ F,e'=.returned (.slice (some ⟨b,0,none⟩) (cpF d n).length cap)/\Wc w0 w' b n (cap*2) e F/\∀ i,i<(cpF d n).length->(cpF d n)[i]?=some (F i))
  (h2:∀ w:World,Calls P f #[.slice none 0 0] w fun e' w'=>e'=.returned (.slice none 0 0)/\w'=w) :
  MeetsB P f (.ov false [.sl (some e) (l.map (eP eI eI))]) [] [.ov false [.sl (some e) ((cpL l).map (eP eI eI))]] .u:=by
 refine⟨hc,fun w A L0 v0 vs hA hL hinj hlent hargs=>?_⟩
 have hvs:vs=[]:=by cases vs with | nil=>rfl | cons a l=>exact hargs.elim
 subst hvs
 obtain⟨⟨hv,_⟩,hrep⟩:=hlent
 have hrep:=hrep 0 _ rfl
 rw[hv] at hrep
 have hrep:Rep P A L0 w 0 [(0,0)] v0 (.sl (some e) (l.map (eP eI eI))):=hrep
 have cs:(v0=.slice none 0 0/\l.map (eP eI eI)=[])\/∃ (g cap:Nat) (arr:Array Value),v0=.slice (some ⟨g,0,none⟩) (l.map (eP eI eI)).length cap/\L0 g=some (0,[(0,0)])/\w.heap[g]?=some (.cells arr e (0,0))/\(l.map (eP eI eI)).length<=cap/\cap<=maxLen/\arr.size=cap*esz P e /\
   ∀ (i:Nat) (row:List C) (o:Nat) (c:C),(l.map (eP eI eI))[i]?=some row->row[o]?=some c->Rep P A L0 w 0 ([(0,0)]++[(i,o)]) (arr.getD (i*esz P e+o) undef) c:=yol1 hrep
 rcases cs with⟨rfl,hnil⟩ | ⟨g,cap,arr,rfl,hl,hg,hn,hm,ha,hr⟩
 ·have hl0:l=[]:=by simpa using hnil
  subst hl0;refine(h2 w).mono fun e' w' h=>?_
  obtain⟨rfl,rfl⟩:=h;refine⟨_,fun _=>none,rfl,⟨⟨rfl,rfl,rfl,Nat.le_refl _,fun _ _ _=>rfl⟩,fun _ _ _ h=>(by cases h),fun _ _ h=>(by cases h),⟨⟨rfl,rfl⟩,fun j c hj=>?_⟩,trivial⟩⟩
  cases j with
  | zero=>obtain rfl:=Option.some.inj hj;exact .onil
  | succ j=>simp at hj
 have hlen:(l.map (eP eI eI)).length=l.length:=List.length_map ..
 rw[hlen] at hn
 rw[show(Value.slice (some ⟨g,0,none⟩) (l.map (eP eI eI)).length cap)=.slice (some ⟨g,0,none⟩) l.length cap by rw[hlen]]
 have hW:=ykc2 hs hg ha hn hr
 refine(h1 g l.length cap _ w w hn (by unfold maxLen at hm;omega) hW).mono fun e' w' h=>?_
 obtain⟨F,rfl,hW',hF⟩:=h
 have hlg:g<w.heap.size:=(Array.getElem?_eq_some_iff.1 hg).1
 refine⟨_,fun b=>if b=g then some (1,[(0,0)]) else none,rfl,⟨⟨hW'.os,hW'.tape,hW'.output,by rw[hW'.size];exact Nat.le_refl _,fun b _ hb=>hW'.oth b fun h=>?_⟩,fun b b' l hb hb'=>?_,fun b l hb=>?_,⟨⟨rfl,rfl⟩,fun j c hj=>?_⟩,trivial⟩⟩
 ·subst h
  exact hb (by show L0 b≠none;rw[hl];simp)
 ·split at hb
  ·split at hb'
   ·rename_i x y;rw[x,y]
   cases hb'
  cases hb
 ·split at hb
  ·rename_i x
   subst x;exact⟨by rw[hW'.size];exact hlg,.inr (by rw[hl];simp)⟩
  cases hb
 cases j with
 | zero =>
  obtain rfl:=Option.some.inj hj
  exact ywy1 hs hW' (by simp) (yvt1 _ _) hn hm hF
 | succ j=>simp at hj
end Go.PV

/-
 Slices of fractions sorted: the order,and the contract's common part.
 Conditions: none.
-/
set_option linter.all false
namespace Go.PV
open Go.Sort Go.Proofs
variable {P:Program}
theorem okR_iff {x:Int×Int}:okR x=true↔1<=x.2/\x.2<=1000000000 /\ -1000000000<=x.1/\x.1<=1000000000/\Int.gcd x.1 x.2=1:=by simp[okR]
abbrev FR:={x:Int×Int // okR x=true}
instance:Inhabited FR:=⟨⟨(0,1),by decide⟩⟩
def cmpF (x y:Int×Int):Int:=if x.1*y.2<y.1*x.2 then -1 else if y.1*x.2<x.1*y.2 then 1 else 0
def encF (x:FR):List Value:=[.int .i64 x.1.1,.int .i64 x.1.2]
def cfF (x y:FR):Int:=cmpF x.1 y.1
theorem yxy1 (x y:FR):ltOf cfF x y=decide (x.1.1*y.1.2<y.1.1*x.1.2):=by
 unfold ltOf cfF cmpF
 by_cases h1:x.1.1*y.1.2<y.1.1*x.1.2
 ·simp[h1]
 by_cases h2:y.1.1*x.1.2<x.1.1*y.1.2
 ·simp[h1,h2]
 simp[h1,h2]
theorem ycp1 {a b c d e f:Int} (hb:0<b) (hd:0<d) (hf:0<f) (h1:a*d<c*b) (h2:c*f<e*d):a*f<e*b:=by
 have e1:=Int.mul_lt_mul_of_pos_right h1 hf
 have e2:=Int.mul_lt_mul_of_pos_right h2 hb
 have k1:c*b*f=c*f*b:=by rw[Int.mul_assoc,Int.mul_comm b f,Int.mul_assoc]
 have k2:a*d*f=a*f*d:=by rw[Int.mul_assoc,Int.mul_comm d f,Int.mul_assoc]
 have k3:e*d*b=e*b*d:=by rw[Int.mul_assoc,Int.mul_comm d b,Int.mul_assoc]
 exact Int.lt_of_mul_lt_mul_right (a:=d) (by omega) (by omega)
theorem yom1 {a b c d e f:Int} (hb:0<b) (hd:0<d) (hf:0<f) (h1:c*b<=a*d) (h2:e*d<=c*f):e*b<=a*f:=by
 have e1:=Int.mul_le_mul_of_nonneg_right h1 (show 0<=f by omega)
 have e2:=Int.mul_le_mul_of_nonneg_right h2 (show 0<=b by omega)
 have k1:c*b*f=c*f*b:=by rw[Int.mul_assoc,Int.mul_comm b f,Int.mul_assoc]
 have k2:a*d*f=a*f*d:=by rw[Int.mul_assoc,Int.mul_comm d f,Int.mul_assoc]
 have k3:e*d*b=e*b*d:=by rw[Int.mul_assoc,Int.mul_comm d b,Int.mul_assoc]
 exact Int.le_of_mul_le_mul_right (a:=d) (by omega) hd
theorem ywt1 {a b:Int} (h1 : -1000000000<=a) (h2:a<=1000000000) (h3:1<=b) (h4:b<=1000000000) : -1000000000000000000<=a*b/\a*b<=1000000000000000000:=by
 have e1:=Int.mul_le_mul_of_nonneg_right h2 (show 0<=b by omega)
 have e2:=Int.mul_le_mul_of_nonneg_right h1 (show 0<=b by omega)
 omega
theorem ypl1 {a:Int} (h1 : -1000000000000000000<=a) (h2:a<=1000000000000000000):Go.RowKit.wrap64 a=a:=by
 unfold Go.RowKit.wrap64
 omega
theorem ylb2:SWO (ltOf cfF) where
 irrefl x:=by rw[yxy1];simp
 trans x y z h1 h2:=by
  rw[yxy1] at *
  have p1:=okR_iff.1 x.2;have p2:=okR_iff.1 y.2;have p3:=okR_iff.1 z.2;simp only[decide_eq_true_eq] at *
  exact ycp1 (by omega) (show 0<y.1.2 by omega) (by omega) h1 h2
 ntrans x y z h1 h2:=by
  rw[yxy1] at *
  have p1:=okR_iff.1 x.2;have p2:=okR_iff.1 y.2;have p3:=okR_iff.1 z.2;simp only[decide_eq_false_iff_not,Int.not_lt] at *
  exact yom1 (by omega) (show 0<y.1.2 by omega) (by omega) h1 h2
theorem yyy1 {a b:Int×Int} (ga:Int.gcd a.1 a.2=1) (gb:Int.gcd b.1 b.2=1) (pa:0<a.2) (pb:0<b.2) (h:a.1*b.2=b.1*a.2):a=b:=by
 obtain⟨p,q⟩:=a
 obtain⟨r,s⟩:=b
 simp only at *
 have hn:p.natAbs*s.natAbs=r.natAbs*q.natAbs:=by rw[← Int.natAbs_mul,← Int.natAbs_mul,h]
 have c1:Nat.Coprime p.natAbs q.natAbs:=ga
 have c2:Nat.Coprime r.natAbs s.natAbs:=gb
 have d1:s.natAbs∣q.natAbs:=by
  have:s.natAbs∣r.natAbs*q.natAbs:=⟨p.natAbs,by rw[← hn];exact Nat.mul_comm _ _⟩
  exact c2.symm.dvd_of_dvd_mul_left this
 have d2:q.natAbs∣s.natAbs:=by
  have:q.natAbs∣p.natAbs*s.natAbs:=⟨r.natAbs,by rw[hn];exact Nat.mul_comm _ _⟩
  exact c1.symm.dvd_of_dvd_mul_left this
 have hqs:q.natAbs=s.natAbs:=Nat.dvd_antisymm d2 d1
 have hq:q=s:=by omega
 subst hq
 have:p=r:=Int.eq_of_mul_eq_mul_right (by omega) h
 rw[this]
theorem ymb2 (x y:FR) (h1:ltOf cfF x y=false) (h2:ltOf cfF y x=false):x=y:=by
 rw[yxy1] at *
 have p1:=okR_iff.1 x.2
 have p2:=okR_iff.1 y.2
 simp only[decide_eq_false_iff_not,Int.not_lt] at *
 exact Subtype.ext (yyy1 p1.2.2.2.2 p2.2.2.2.2 (by omega) (by omega) (by omega))
def frs (l:List (Int×Int)) (h:∀ x∈l,okR x=true):List FR:=l.attach.map fun x=>⟨x.1,h x.1 x.2⟩
theorem yxt1 (l:List (Int×Int)) (h:∀ x∈l,okR x=true):(frs l h).map (·.1)=l:=by
 unfold frs
 rw[List.map_map]
 exact List.attach_map_subtype_val l
theorem yzy1 (l:List (Int×Int)) (h:∀ x∈l,okR x=true):(frs l h).length=l.length:=by simp[frs]
theorem ysv1 (l:List (Int×Int)) (h:∀ x∈l,okR x=true):((frs l h).mergeSort fun x y=> !(ltOf cfF) y x).map (·.1)=sortR l:=by
 rw[List.map_mergeSort (s:=leR) fun a _ b _=>by rw[yxy1];rfl,yxt1]
 rfl
theorem yql1 (l:List FR) {i:Nat} (hi:i<l.length):(flatK encF 2 l.toArray)[i*2]?=some (.int .i64 l[i].1.1)/\(flatK encF 2 l.toArray)[i*2+1]?=some (.int .i64 l[i].1.2):=by
 have sz:(flatK encF 2 l.toArray).size=l.length*2:=by simp
 have g0:=get_flatK encF 2 l.toArray (i*2) (by simp;omega)
 have g1:=get_flatK encF 2 l.toArray (i*2+1) (by simp;omega)
 have d0:i*2 / 2=i:=by omega
 have d1:(i*2+1) / 2=i:=by omega
 have m0:i*2 % 2=0:=by omega
 have m1:(i*2+1) % 2=1:=by omega
 rw[d0,m0,getElem!_pos l.toArray i (by simpa using hi)] at g0
 rw[d1,m1,getElem!_pos l.toArray i (by simpa using hi)] at g1
 rw[getElem!_pos _ (i*2) (by rw[sz];omega)] at g0
 rw[getElem!_pos _ (i*2+1) (by rw[sz];omega)] at g1
 refine⟨?_,?_⟩
 ·rw[Array.getElem?_eq_getElem (by rw[sz];omega),g0];simp[encF]
 rw[Array.getElem?_eq_getElem (by rw[sz];omega),g1];simp[encF]
theorem ydp1 {n t:Nat} (ht:t<n*2):∃ i,i<n/\(t=i*2\/t=i*2+1):=⟨t / 2,by omega,by omega⟩
theorem ytv1 {w w0:World} {b n c:Nat} {e:TypeId} {F:Nat->Int×Int} {l:List FR} (hW:Wc w0 w b n c e F) (hn:n=l.length) (hF:∀ i (hi:i<l.length),F i=l[i].1):HoldsK encF 2 w b 0 l.toArray:=by
 intro t ht
 have sz:(flatK encF 2 l.toArray).size=l.length*2:=by simp
 rw[sz] at ht
 obtain⟨i,hi,hti⟩:=ydp1 ht
 obtain⟨c0,c1⟩:=hW.cell (show i<n by omega)
 obtain⟨f0,f1⟩:=yql1 l hi
 rw[Nat.zero_add]
 refine⟨?_,hW.free t⟩
 rw[hF i hi] at c0 c1
 rcases hti with rfl | rfl
 ·rw[c0,getElem!_pos _ (i*2) (by rw[sz];omega)]
  rw[Array.getElem?_eq_getElem (by rw[sz];omega)] at f0
  exact f0.symm
 rw[c1,getElem!_pos _ (i*2+1) (by rw[sz];omega)]
 rw[Array.getElem?_eq_getElem (by rw[sz];omega)] at f1
 exact f1.symm
theorem yyj1 {w w0:World} {b n c q:Nat} {e:TypeId} {F:Nat->Int×Int} {l:List FR} (os:Array Obj) (hW:Wc w0 w b n c e F) (hn:n=l.length) :
  ∃ arr:Array Value,(sortWorldK encF 2 w b 0 q l.toArray os).heap[b]?=some (.cells arr e (0,0))/\arr.size=c/\∀ i (hi:i<l.length),arr[i*2]?=some (.int .i64 l[i].1.1)/\arr[i*2+1]?=some (.int .i64 l[i].1.2):=by
 obtain⟨arr,h1,h2,h3⟩:=hW.at'
 have hb:b<w.heap.size:=(Array.getElem?_eq_some_iff.1 h1).1
 refine⟨putCells id 0 (flatK encF 2 l.toArray) arr,?_,by simp[putCells,h2],fun i hi=>?_⟩
 ·unfold sortWorldK grow putRowK putRow mapBlock Sort.ahead
  simp only
  rw[Array.getElem?_append_left (by simpa using hb),Array.getElem?_modify,if_pos rfl,h1];rfl
 obtain⟨f0,f1⟩:=yql1 l hi
 have h3i:=h3 i (by omega)
 have l1:i*2+1<arr.size:=(Array.getElem?_eq_some_iff.1 h3i.2).1
 have sz:(flatK encF 2 l.toArray).size=l.length*2:=by simp
 have at0:∀ t,t<l.length*2->t<arr.size->(putCells id 0 (flatK encF 2 l.toArray) arr)[t]?=(flatK encF 2 l.toArray)[t]?:=fun t ht hts=>by
  unfold putCells;rw[Array.getElem?_mapIdx,Array.getElem?_eq_getElem hts];simp only[Option.map_some,Nat.zero_le,true_and,Nat.zero_add,Nat.sub_zero,id];rw[if_pos (by rw[sz];exact ht),getElem!_pos _ t (by rw[sz];exact ht),Array.getElem?_eq_getElem (by rw[sz];exact ht)]
 rw[at0 (i*2) (by omega) (by omega),at0 (i*2+1) (by omega) (by omega)]
 exact⟨f0,f1⟩
theorem yep1 {f g:FuncId} {e:TypeId} {l:List (Int×Int)} (hc:callable P f=true) (hs:esz P e=2) (hok:∀ x∈l,okR x=true) (hlen:l.length<4611686018427387904)
  (h1:∀ (b cap:Nat) (d:Array FR) (w:World),HoldsK encF 2 w b 0 d->b<w.heap.size->d.size<4611686018427387904->Calls P f #[.slice (some ⟨b,0,none⟩) d.size cap,.func (.func g) #[] #[]] w fun e w'=>e=.returned (.tuple #[])/\∃ n os,w'=sortWorldK encF 2 w b 0 n (d.toList.mergeSort fun x y=> !(ltOf cfF) y x).toArray os)
  (h2:∀ w:World,Calls P f #[.slice none 0 0,.func (.func g) #[] #[]] w fun e' w'=>e'=.returned (.tuple #[])/\w'=w) :
  MeetsB P f (.ov false [.sl (some e) (l.map (eP eI eI))]) [.v (.func (.func g) #[] #[])] [] (.ov false [.sl (some e) ((sortR l).map (eP eI eI))]):=by
 refine⟨hc,fun w A L0 v0 vs hA hL hinj hlent hargs=>?_⟩
 obtain⟨v1,rfl,rfl⟩:∃ v1,vs=[v1]/\v1=.func (.func g) #[] #[]:=by
  match vs,hargs with
  | [v1],hargs=>exact⟨v1,rfl,hargs.1⟩
  | v1::v2::vs,hargs=>exact hargs.2.elim
 obtain⟨⟨hv,_⟩,hrep⟩:=hlent
 have hrep:=hrep 0 _ rfl
 rw[hv] at hrep
 have hrep:Rep P A L0 w 0 [(0,0)] v0 (.sl (some e) (l.map (eP eI eI))):=hrep
 have cs:(v0=.slice none 0 0/\l.map (eP eI eI)=[])\/∃ (g cap:Nat) (arr:Array Value),v0=.slice (some ⟨g,0,none⟩) (l.map (eP eI eI)).length cap/\L0 g=some (0,[(0,0)])/\w.heap[g]?=some (.cells arr e (0,0))/\(l.map (eP eI eI)).length<=cap/\cap<=maxLen/\arr.size=cap*esz P e /\
   ∀ (i:Nat) (row:List C) (o:Nat) (c:C),(l.map (eP eI eI))[i]?=some row->row[o]?=some c->Rep P A L0 w 0 ([(0,0)]++[(i,o)]) (arr.getD (i*esz P e+o) undef) c:=yol1 hrep
 rcases cs with⟨rfl,hnil⟩ | ⟨b,cap,arr,rfl,hl,hg,hn,hm,ha,hr⟩
 ·have hl0:l=[]:=by simpa using hnil
  subst hl0;refine(h2 w).mono fun e' w' h=>?_
  obtain⟨rfl,rfl⟩:=h;refine⟨_,L0,rfl,⟨⟨rfl,rfl,rfl,Nat.le_refl _,fun _ _ _=>rfl⟩,hinj,fun b l h=>⟨(hL b l h).1,.inr (by rw[h];simp)⟩,⟨#[],rfl,rfl,fun j r hj=>(by simp at hj)⟩,⟨rfl,rfl⟩,fun j c hj=>?_⟩⟩
  cases j with
  | zero =>
   obtain rfl:=Option.some.inj hj
   have:sortR []=[]:=by simp[sortR]
   rw[this];exact .onil
  | succ j=>simp at hj
 have hln:(l.map (eP eI eI)).length=l.length:=List.length_map ..
 rw[hln] at hn
 rw[show(Value.slice (some ⟨b,0,none⟩) (l.map (eP eI eI)).length cap)=.slice (some ⟨b,0,none⟩) l.length cap by rw[hln]]
 have hW:=ykc2 hs hg ha hn hr
 have hfl:=yzy1 l hok
 have hsz:(frs l hok).toArray.size=l.length:=by simpa using hfl
 have hval:=yxt1 l hok
 have hH:HoldsK encF 2 w b 0 (frs l hok).toArray:=ytv1 hW (by rw[hfl]) fun i hi=>by
  have e1:((frs l hok).map (·.1))[i]?=some (frs l hok)[i].1:=by rw[List.getElem?_map,List.getElem?_eq_getElem hi];rfl
  rw[hval] at e1;rw[List.getD_eq_getElem?_getD,e1];rfl
 have hlg:b<w.heap.size:=(Array.getElem?_eq_some_iff.1 hg).1
 have hcall:=h1 b cap (frs l hok).toArray w hH hlg (by rw[hsz];exact hlen)
 rw[hsz] at hcall
 refine hcall.mono fun e' w' h=>?_
 obtain⟨rfl,q,os,rfl⟩:=h
 have hst:=ysv1 l hok
 have hpl:((frs l hok).mergeSort fun x y=> !(ltOf cfF) y x).length=l.length:=by rw[List.length_mergeSort,hfl]
 obtain⟨arr',q1,q2,q3⟩:=yyj1 (q:=q) (l:=(frs l hok).mergeSort fun x y=> !(ltOf cfF) y x) os hW (by rw[hpl])
 have hsl:(sortR l).length=l.length:=by unfold sortR;exact List.length_mergeSort l
 have hW':Wc (sortWorldK encF 2 w b 0 q ((frs l hok).mergeSort fun x y=> !(ltOf cfF) y x).toArray os) (sortWorldK encF 2 w b 0 q ((frs l hok).mergeSort fun x y=> !(ltOf cfF) y x).toArray os) b l.length (cap*2) e (fun i=>(sortR l).getD i (0,0)):=⟨rfl,rfl,rfl,rfl,fun _ _=>rfl,arr',q1,q2,fun i hi=>by
  have hi':i<((frs l hok).mergeSort fun x y=> !(ltOf cfF) y x).length:=by omega
  have e1:(((frs l hok).mergeSort fun x y=> !(ltOf cfF) y x).map (·.1))[i]?=some ((frs l hok).mergeSort fun x y=> !(ltOf cfF) y x)[i].1:=by rw[List.getElem?_map,List.getElem?_eq_getElem hi'];rfl
  rw[hst] at e1;have e2:(sortR l).getD i (0,0)=((frs l hok).mergeSort fun x y=> !(ltOf cfF) y x)[i].1:=by rw[List.getD_eq_getElem?_getD,e1];rfl
  rw[e2];exact q3 i hi'⟩
 have hsize:w.heap.size<=(sortWorldK encF 2 w b 0 q ((frs l hok).mergeSort fun x y=> !(ltOf cfF) y x).toArray os).heap.size:=by
  unfold sortWorldK grow putRowK putRow mapBlock Sort.ahead
  simp
 refine⟨_,L0,rfl,⟨⟨rfl,rfl,rfl,hsize,fun j hj hb=>?_⟩,hinj,fun b l h=>⟨Nat.lt_of_lt_of_le (hL b l h).1 hsize,.inr (by rw[h];simp)⟩,⟨#[],rfl,rfl,fun j r hj=>(by simp at hj)⟩,⟨rfl,rfl⟩,fun j c hj=>?_⟩⟩
 ·have hne:j≠b:=fun h=>by
   subst h;exact hb (by show L0 j≠none;rw[hl];simp)
  unfold sortWorldK grow putRowK putRow mapBlock Sort.ahead
  simp only
  rw[Array.getElem?_append_left (by simpa using hj),Array.getElem?_modify,if_neg (Ne.symm hne)]
 cases j with
 | zero =>
  obtain rfl:=Option.some.inj hj
  have:=ywy1 (P:=P) (Z:=fun b_1=>L0 b_1=none/\b_1<(sortWorldK encF 2 w b 0 q ((frs l hok).mergeSort fun x y=> !(ltOf cfF) y x).toArray os).heap.size/\((A b_1\/L0 b_1≠none)\/w.heap.size<=b_1)) (L:=L0) (s:=0) (p:=[(0,0)]) (l:=sortR l) hs hW' hl (by omega) hn hm (fun i hi=>by rw[List.getD_eq_getElem?_getD,List.getElem?_eq_getElem hi];rfl)
  rw[hsl] at this;exact this
 | succ j=>simp at hj
end Go.PV

/-
 A walk of a range over a function: the loop.
 Conditions: none.
-/
set_option linter.all false
namespace Go.PV
open Go.RowKit
variable {P:Program} {N:Nat}
def markOf (D:Nat):Deferred:={ target:=.collected D,args:=#[] }
def liftF (P:Program) (N:Nat) (w0:World) (A:Nat->Prop) (I:Bor) (Q:LS->Prop):Exit->Act->World->Prop
 | .normal,a,w | .ret,a,w=>∃ a0 L l' ds,a=dz ds a0/\Rel P N N w0 A I (ofL l') a0 w L/\Q l' /\
   (ds=[]\/∃ D,ds=[markOf D]/\w0.heap.size<=D/\w.heap[D]?=some (.deferred (some []))/\l'.all (fun x=>simpleS x.2)=true)
 | _,_,_=>False
def OkF (P:Program) (N:Nat) (c:Code) (l:LS) (Q:LS->Prop):Prop :=
 ∀ n,2<=n->∀ w0 A I a w L,I.pins=[]->Rel P N N w0 A I (ofL l) a w L->c.wpIn (Fx none) n P (liftF P N w0 A I Q) a w
def OkT (P:Program) (N:Nat) (c rest:Code) (l:LS) (Q:LS->Prop):Prop :=
 ∀ n,2<=n->∀ w0 A I a w L,I.pins=[]->Rel P N N w0 A I (ofL l) a w L->c.wpIn (Fx none) n P (Exit.then (rest.wpIn (Fx none) n P (liftF P N w0 A I Q)) (liftF P N w0 A I Q)) a w
def Turns {α:Type} (P:Program) (f:FuncId) (caps:List (Bool×List C)) (encs:α->Array Value) (S Sp:List α->Prop) (n:Nat):Prop :=
 ∀ (Z:Nat->Prop) (w:World) (v:Value) (m:Nat),FrzV Z w false v [.fn f caps]->(∀ b,Z b->b<w.heap.size)->1<=m ->
  ∃ lb,v=.func (.func f) #[] lb/\SeqStopsK (Fx none) m P f lb encs (fun W W'=>∀ b,Z b->W'.heap[b]?=W.heap[b]?) S Sp n w
section
variable {w0:World} {A:Nat->Prop} {I:Bor} {a:Act} {w:World} {L:Lab}
end
def pinsOf (K:Nat) (a:Act):List Value:=(List.range K).map fun s=>a.tmps.getD s undef
theorem ypm1 {K:Nat} {a:Act} {s:Nat} {v:Value} (h:(pinsOf K a)[s]?=some v):s<K/\a.tmps.getD s undef=v:=by
 unfold pinsOf at h
 rw[List.getElem?_map] at h
 by_cases hs:s<K
 ·rw[List.getElem?_range hs] at h
  exact⟨hs,by simpa using h⟩
 rw[List.getElem?_eq_none (by simpa using hs)] at h
 cases h
theorem ytf1 {K:Nat} {a:Act} {s:Nat} (h:s<K):(pinsOf K a)[s]?=some (a.tmps.getD s undef):=by
 unfold pinsOf
 rw[List.getElem?_map,List.getElem?_range h]
 rfl
end Go.PV

/-
 A walk over pure values: a function value that has caught two boxes,and its calls.
 Conditions: none.
-/
set_option linter.all false
namespace Go.PV
variable {P:Program} {N:Nat}
def ptTo (b:Nat):Value:=.pointer (some ⟨b,0,none⟩)
def Takes (P:Program) (f:FuncId) (y:Value) (xs ys xs' ys':List Value):Prop :=
 callable P f=true/\∀ (w:World) (A:Nat->Prop) (b1 b2:Nat) (e1 e2:TypeId),
  ((∀ b,A b->b<w.heap.size/\b≠b1/\b≠b2)/\Tabs P A w)->b1≠b2 ->
  w.heap[b1]?=some (.cells xs.toArray e1 (0,0))->w.heap[b2]?=some (.cells ys.toArray e2 (0,0)) ->
  Calls P f #[y,ptTo b1,ptTo b2] w (fun e w'=>∃ v,e=.returned v/\Ev ⟨fun b=>b=b1\/b=b2,[]⟩ w w' /\
   (∃ e,w'.heap[b1]?=some (.cells xs'.toArray e (0,0)))/\∃ e,w'.heap[b2]?=some (.cells ys'.toArray e (0,0)))
theorem yrl1 {Z:Nat->Prop} {L:Lab} {w:World} {s b:Nat} {xs:List Value} {e:TypeId} (hL:L b=some (s,[])) (hw:w.heap[b]?=some (.cells xs.toArray e (0,0))) (hs:xs.all scal=true):BoxAt P Z L w s b (xs.map .raw):=by
 refine⟨hL,xs.toArray,e,hw,by simp,fun j c hj=>?_⟩
 rw[List.getElem?_map] at hj
 cases hx:xs[j]? with
 | none=>rw[hx] at hj;cases hj
 | some v =>
  rw[hx] at hj;simp only[Option.map_some,Option.some.injEq] at hj;subst hj;have hv:xs.toArray.getD j undef=v:=by simp[Array.getD_eq_getD_getElem?,hx]
  rw[hv];exact⟨.frz (.raw (List.all_eq_true.1 hs v (List.mem_of_getElem? hx))),fun t h=>by cases h⟩
theorem yfp1 {Z:Nat->Prop} {L:Lab} {w:World} {s b:Nat} {xs:List Value} (h:BoxAt P Z L w s b (xs.map .raw)):∃ e,w.heap[b]?=some (.cells xs.toArray e (0,0)):=by
 obtain⟨_,arr,e,h2,h3,h4⟩:=h
 refine⟨e,?_⟩
 rw[h2]
 have:arr=xs.toArray:=by
  apply Array.ext
  ·simpa using h3
  intro i h5 h6;have h7:i<xs.length:=by simpa using h6
  have:=(h4 i (.raw xs[i]) (by simp[h7])).1.raw_eq
  rw[Array.getD_eq_getD_getElem?,Array.getElem?_eq_getElem h5] at this;simpa using this
 rw[this]
theorem yuv1 {f:FuncId} {fn:Func} {c:Code} {y:Value} {xs ys xs' ys':List Value} (hf:P.funcs[f]?=some fn)
  (h:OkL P fn.ntmps c [(0,.p y),(1,.box (xs.map .raw)),(2,.box (ys.map .raw))] fun e l=>(match e with | .exit _=>False | _=>True)/\ofL l 1=.box (xs'.map .raw)/\ofL l 2=.box (ys'.map .raw))
  (hb:fn.body=some c:=by rfl) (hc:callable P f=true:=by kernel_rfl) (hr:fn.results=#[]:=by rfl)
  (hN:(decide (3<=fn.ntmps)&&codeB 3 fn.ntmps c)=true:=by kernel_rfl) (hs:(xs.all scal&&ys.all scal)=true:=by rfl):Takes P f y xs ys xs' ys':=by
 simp only[Bool.and_eq_true,decide_eq_true_eq] at hN hs
 refine⟨hc,fun w A b1 b2 e1 e2 hA hne h1 h2=>?_⟩
 refine calls_of_wp hf hb ?_
 have hb1:b1<w.heap.size:=(Array.getElem?_eq_some_iff.1 h1).1
 have hb2:b2<w.heap.size:=(Array.getElem?_eq_some_iff.1 h2).1
 let L0:Lab:=fun b=>if b=b1 then some (1,[]) else if b=b2 then some (2,[]) else none
 have l1:L0 b1=some (1,[]):=by simp[L0]
 have l2:L0 b2=some (2,[]):=by simp[L0,hne.symm]
 have lx:∀ b l,L0 b=some l->(b=b1/\l=(1,[]))\/(b=b2/\l=(2,[])):=fun b l h=>by
  simp only[L0] at h;split at h
  ·rename_i e;left;exact⟨e,(Option.some.inj h).symm⟩
  split at h
  ·rename_i e;right;exact⟨e,(Option.some.inj h).symm⟩
  cases h
 let I0:Bor:=⟨fun b=>b=b1\/b=b2,[y,ptTo b1,ptTo b2]⟩
 let A0:Nat->Prop:=fun b=>A b\/b=b1\/b=b2
 let a0:Act:={ tmps:=#[y,ptTo b1,ptTo b2]++Array.replicate (fn.ntmps-(#[y,ptTo b1,ptTo b2]:Array Value).size) undef,defers:=[] }
 have t0:a0.tmps.getD 0 undef=y:=by simp[a0,Array.getD_eq_getD_getElem?,Array.getElem?_append]
 have t1:a0.tmps.getD 1 undef=ptTo b1:=by simp[a0,Array.getD_eq_getD_getElem?,Array.getElem?_append]
 have t2:a0.tmps.getD 2 undef=ptTo b2:=by simp[a0,Array.getD_eq_getD_getElem?,Array.getElem?_append]
 have hR:Rel P fn.ntmps fn.ntmps w A0 I0 (ofL [(0,.p y),(1,.box (xs.map .raw)),(2,.box (ys.map .raw))]) a0 w L0:=by
  refine⟨rfl,by simp[a0];omega,⟨rfl,rfl,rfl,Nat.le_refl _,fun _ _ _=>rfl⟩,fun b b' l h h'=>?_,fun b l hl=>?_,fun s hs=>?_,⟨⟨fun b hb=>?_,hA.2.mono fun b hb=>⟨⟨.inl hb,fun h=>?_⟩,rfl⟩⟩,fun b hb=>.inr hb⟩,fun s v hv=>?_,fun s=>?_⟩
  ·rcases lx b l h with⟨rfl,rfl⟩ | ⟨rfl,rfl⟩ <;> rcases lx b' _ h' with⟨rfl,e⟩ | ⟨rfl,e⟩ <;> first | rfl | cases e
  ·rcases lx b l hl with⟨rfl,rfl⟩ | ⟨rfl,rfl⟩
   ·exact⟨hb1,.inr (.inl rfl),by show 1<fn.ntmps;omega⟩
   exact⟨hb2,.inr (.inr rfl),by show 2<fn.ntmps;omega⟩
  ·have g0:s≠0:=by omega
   have g1:s≠1:=by omega
   have g2:s≠2:=by omega
   simp[ofL,upd,g0,g1,g2]
  ·rcases hb with hb | rfl | rfl
   ·exact(hA.1 b hb).1
   ·exact hb1
   exact hb2
  ·rcases h with h | h
   ·exact(hA.1 b hb).2.1 h
   exact(hA.1 b hb).2.2 h
  ·match s,hv with
   | 0,hv=>rw[t0];exact Option.some.inj hv
   | 1,hv=>rw[t1];exact Option.some.inj hv
   | 2,hv=>rw[t2];exact Option.some.inj hv
   | s+3,hv=>simp[I0] at hv
  match s with
  | 0=>exact t0
  | 1=>exact⟨b1,t1,yrl1 l1 h1 hs.1⟩
  | 2=>exact⟨b2,t2,yrl1 l2 h2 hs.2⟩
  | s+3=>exact trivial
 refine wp_mono (h 3 hN.2 w A0 I0 a0 w L0 rfl hR) fun e a' w' hl=>?_
 have fin:∀ σ L l',Rel P fn.ntmps fn.ntmps w A0 I0 σ a' w' L->(σ=ofL l'\/agree l' σ)->ofL l' 1=.box (xs'.map .raw)->ofL l' 2=.box (ys'.map .raw)->a'.defers=[]/\∃ v,(results fn a'.tmps).run P w'=.ok v w'/\∃ v',Ending.returned v=.returned v'/\Ev ⟨fun b=>b=b1\/b=b2,[]⟩ w w' /\
   (∃ e,w'.heap[b1]?=some (.cells xs'.toArray e (0,0)))/\∃ e,w'.heap[b2]?=some (.cells ys'.toArray e (0,0)):=fun σ L l' g1 g2 g3 g4=>by
  have g5:=yxj1 g1 g2;refine⟨g5.dfr,_,ydc1 fn a'.tmps (by rw[hr];rfl),_,rfl,⟨g5.ev.os,g5.ev.tape,g5.ev.output,g5.ev.size,g5.ev.block⟩,?_,?_⟩
  ·have s1:=g5.slot 1
   rw[g3] at s1;obtain⟨b,s2,s3⟩:=s1;have s4:=g5.pin 1 (ptTo b1) rfl
   rw[s2] at s4;have:b=b1:=by unfold ptTo at s4;simpa using s4
   subst this;exact yfp1 s3
  have s1:=g5.slot 2;rw[g4] at s1;obtain⟨b,s2,s3⟩:=s1;have s4:=g5.pin 2 (ptTo b2) rfl
  rw[s2] at s4;have:b=b2:=by unfold ptTo at s4;simpa using s4
  subst this;exact yfp1 s3
 cases e with
 | normal=>obtain⟨σ,L,h5,l',h6,_,h7,h8⟩:=hl;exact fin σ L l' h5 h6 h7 h8
 | ret=>obtain⟨σ,L,h5,l',h6,_,h7,h8⟩:=hl;exact fin σ L l' h5 h6 h7 h8
 | exit id=>obtain⟨σ,L,h5,l',h6,h7,_⟩:=hl;exact h7.elim
 | _=>exact hl.elim
end Go.PV

/-
 A walk over pure values: code within which two boxes are caught by a function value,and that value is called.
 Conditions: none.
-/
set_option linter.all false
namespace Go.PV
variable {P:Program} {N:Nat} {r1 b1 r2 b2:Nat}
def OkV (P:Program) (N r1 b1 r2 b2:Nat) (c:Code) (l:LS) (Q:Ex->LS->Prop):Prop :=
 ∀ w0 A I a w L,codeB I.pins.length N c=true->I.pins[r1]?=some (ptTo b1)->I.pins[r2]?=some (ptTo b2)->Rel P N N w0 A I (ofL l) a w L->c.wp P (lift P N w0 A I fun e σ=>∃ l',(σ=ofL l'\/agree l' σ)/\Q e l') a w
theorem v_ok {c:Code} {l:LS} {Q:Ex->LS->Prop} (h:OkL P N c l Q):OkV P N r1 b1 r2 b2 c l Q:=fun w0 A I a w L hB _ _ hR=>h _ hB w0 A I a w L rfl hR
theorem ynb2 {c:Code} {l l1:LS} {Q:Ex->LS->Prop} (h:RegOk P N c l l1) (hq:Q .normal l1):OkV P N r1 b1 r2 b2 c l Q:=v_ok (h Q hq)
theorem OkV.weak {c:Code} {l l':LS} {Q:Ex->LS->Prop} (h:OkV P N r1 b1 r2 b2 c l' Q) (hw:wk l l'):OkV P N r1 b1 r2 b2 c l Q:=fun w0 A I a w L hB h1 h2 hR =>
 h w0 A I a w L hB h1 h2 (ypf hR hw)
theorem ytw1 {a b:Code} {l:LS} {Q:Ex->LS->Prop} (h:OkV P N r1 b1 r2 b2 a l (seqL (fun l'=>OkV P N r1 b1 r2 b2 b l' Q) Q)):OkV P N r1 b1 r2 b2 (.seq a b) l Q:=fun w0 A I x w L hB h1 h2 hR=>by
 simp only[codeB,Bool.and_eq_true] at hB
 refine wp_seq (wp_mono (h w0 A I x w L hB.1 h1 h2 hR) fun e x w h=>?_)
 cases e with
 | normal =>
  obtain⟨σ,L,g1,l',g2,g3⟩:=h;exact g3 w0 A I x w L hB.2 h1 h2 (yxj1 g1 g2)
 | exit id=>exact h
 | ret=>exact h
 | _=>exact h.elim
theorem ygp1 {c b:Code} {l l1:LS} {Q:Ex->LS->Prop} (h:RegOk P N c l l1) (hq:OkV P N r1 b1 r2 b2 b l1 Q):OkV P N r1 b1 r2 b2 (.seq c b) l Q:=ytw1 (ynb2 h hq)
theorem yaz1 {c:Operand} (b:Bool) {x y:Code} {l:LS} {Q:Ex->LS->Prop} (h1:b=true->OkV P N r1 b1 r2 b2 x l Q) (h2:b=false->OkV P N r1 b1 r2 b2 y l Q) (hc:evS (ofL l) c=.p (.bool b):=by kernel_rfl):OkV P N r1 b1 r2 b2 (.cond c x y) l Q:=fun w0 A I a w L hB g1 g2 hR=>by
 simp only[codeB,Bool.and_eq_true] at hB
 refine wp_cond (ydm1 hR hc) ?_
 cases b
 ·exact h2 rfl w0 A I a w L hB.2 g1 g2 hR
 exact h1 rfl w0 A I a w L hB.1 g1 g2 hR
theorem yyt1 {id:Nat} {c:Code} {l:LS} {Q:Ex->LS->Prop} (h:OkV P N r1 b1 r2 b2 c l (blockL id Q)):OkV P N r1 b1 r2 b2 (.block id c) l Q:=fun w0 A I a w L hB g1 g2 hR=>by
 refine wp_block (wp_mono (h w0 A I a w L hB g1 g2 hR) fun e a w h=>?_)
 cases e with
 | normal=>exact h
 | exit i =>
  obtain⟨σ',L',h1,l',h2,h3⟩:=h;simp only[Exit.inBlock];unfold blockL at h3;split
  ·rename_i hi
   simp only[hi,if_true] at h3;exact⟨σ',L',h1,l',h2,h3⟩
  rename_i hi;simp only[hi,if_false] at h3;exact⟨σ',L',h1,l',h2,h3⟩
 | ret=>exact h
 | _=>exact h.elim
theorem yob2 {X Y:Type} {c:Code} {l:LS} {Q:Ex->LS->Prop} {body:X->Option (X ⊕ Y)} {x0:X} {y:Y} (J:X->LS) (h:loopO body x0=some y) (h0:wk l (J x0))
  (hr:∀ x o,body x=some o->(∀ y',o=.inr y'->y'=y)->OkV P N r1 b1 r2 b2 c (J x) (loopQ o J Q)):OkV P N r1 b1 r2 b2 (.loop c) l Q:=by
 refine OkV.weak ?_ h0
 intro w0 A I a w L hB g1 g2 hR
 obtain⟨n,hn⟩:=loopO_some.1 h
 refine yil1 (X:=X×Nat) (fun z a w=>iterO body z.2 z.1=some y/\∃ L,Rel P N N w0 A I (ofL (J z.1)) a w L) (fun z=>z.2) (x0,n) ⟨hn,L,hR⟩ fun z a w ⟨hz,L,hR⟩=>?_
 obtain⟨x,m⟩:=z
 cases m with
 | zero=>cases hz
 | succ m =>
  simp only[iterO] at hz;have go:∀ o,body x=some o->(∀ x',o=.inl x'->iterO body m x'=some y)->(∀ y',o=.inr y'->y'=y)->c.wp P (Exit.then (fun a' w'=>∃ z':X×Nat,(iterO body z'.2 z'.1=some y/\∃ L,Rel P N N w0 A I (ofL (J z'.1)) a' w' L)/\z'.2<m+1) (lift P N w0 A I fun e σ=>∃ l',(σ=ofL l'\/agree l' σ)/\Q e l')) a w:=fun o hb h1 h2=>by
   refine wp_mono (hr x o hb h2 w0 A I a w L hB g1 g2 hR) fun e a w h=>?_
   cases e with
   | normal =>
    obtain⟨σ,L,h3,l',h4,x',h5,h6⟩:=h;refine⟨(x',m),⟨h1 x' h5,L,ypf (yxj1 h3 h4) h6⟩,Nat.lt_succ_self m⟩
   | exit id=>exact h
   | ret=>exact h
   | _=>exact h.elim
  split at hz
  ·rename_i x' hb
   exact go _ hb (fun x'' h=>by cases h;exact hz) (fun y' h=>by cases h)
  ·rename_i y' hb
   exact go _ hb (fun x'' h=>by cases h) (fun y'' h=>by cases h;exact Option.some.inj hz)
  cases hz
theorem ybz1 {l:LS} {Q:Ex->LS->Prop} (h:Q .normal l):OkV P N r1 b1 r2 b2 .skip l Q:=v_ok (yga h)
theorem ypb2 {id:Nat} {l:LS} {Q:Ex->LS->Prop} (h:Q (.exit id) l):OkV P N r1 b1 r2 b2 (.exit id) l Q:=v_ok (yrb h)
theorem ync2 {l:LS} {Q:Ex->LS->Prop} (h:Q .ret l):OkV P N r1 b1 r2 b2 .ret l Q:=v_ok (ypa h)
theorem OkV.mono {c:Code} {l:LS} {Q Q':Ex->LS->Prop} (h:OkV P N r1 b1 r2 b2 c l Q) (hq:∀ e l,Q e l->Q' e l):OkV P N r1 b1 r2 b2 c l Q':=fun w0 A I a w L hB g1 g2 hR =>
 wp_mono (h w0 A I a w L hB g1 g2 hR) fun e a w h=>by
  cases e <;> first | exact h.elim | (obtain⟨σ,L,h1,l',h2,h3⟩:=h;exact⟨σ,L,h1,l',h2,hq _ _ h3⟩)
theorem yqb2 {X:Type} {a b:Code} {l:LS} {Q:Ex->LS->Prop} (J:X->LS) (K:X->Prop) (hb:∀ x,K x->OkV P N r1 b1 r2 b2 b (J x) Q) (ha:OkV P N r1 b1 r2 b2 a l (seqL (fun l'=>∃ x,K x/\wk l' (J x)) Q)):OkV P N r1 b1 r2 b2 (.seq a b) l Q :=
 ytw1 (ha.mono fun e l' h=>by
  cases e with
  | normal=>obtain⟨x,h1,h2⟩:=h;exact(hb x h1).weak h2
  | _=>exact h)
theorem yhp1 (K:Nat) (a:Act):(pinsOf K a).length=K:=by simp[pinsOf]
theorem yip1 {w0 w:World} {A:Nat->Prop} {I I':Bor} {σ:St} {a:Act} {L:Lab} (hR:Rel P N N w0 A I σ a w L) (hb:I'.blk=I.blk) (hp:∀ s v,I'.pins[s]?=some v->a.tmps.getD s undef=v):Rel P N N w0 A I' σ a w L:=by
 obtain⟨blk,pins⟩:=I
 obtain⟨blk',pins'⟩:=I'
 simp only at hb
 subst hb
 exact⟨hR.dfr,hR.siz,⟨hR.ev.os,hR.ev.tape,hR.ev.output,hR.ev.size,hR.ev.block⟩,hR.inj,hR.lab,hR.out,hR.hA,hp,hR.slot⟩
theorem ycz1 {c:Code} {l:LS} {Q:Ex->LS->Prop} (K:Nat) (h:∀ b1 b2,OkV P N r1 b1 r2 b2 c l Q) (h1:isBox (ofL l r1)=true:=by kernel_rfl) (h2:isBox (ofL l r2)=true:=by kernel_rfl) (hK:(codeB K N c&&decide (r1<K)&&decide (r2<K))=true:=by kernel_rfl):OkL P N c l Q:=fun k hB0 w0 A I a w L hI hR=>by
 simp only[Bool.and_eq_true,decide_eq_true_eq] at hK
 obtain⟨⟨hB,hk1⟩,hk2⟩:=hK
 have bx:∀ r,isBox (ofL l r)=true->∃ b,a.tmps.getD r undef=.pointer (some ⟨b,0,none⟩):=fun r hb=>by
  have s1:=hR.slot r;cases hx:ofL l r with
  | box cs=>rw[hx] at s1;obtain⟨b,e,_⟩:=s1;exact⟨b,e⟩
  | _=>rw[hx] at hb;cases hb
 obtain⟨b1,e1⟩:=bx r1 h1
 obtain⟨b2,e2⟩:=bx r2 h2
 have hmax:codeB (max k K) N c=true:=by
  rcases Nat.le_total k K with hk | hk
  ·rw[Nat.max_eq_right hk];exact hB
  rw[Nat.max_eq_left hk];exact hB0
 have hkm:k<=max k K:=Nat.le_max_left ..
 have hKm:K<=max k K:=Nat.le_max_right ..
 refine wp_mono (h b1 b2 w0 A ⟨I.blk,pinsOf (max k K) a⟩ a w L (by rw[yhp1];exact hmax) (by rw[← show a.tmps.getD r1 undef=ptTo b1 from e1];exact ytf1 (by omega)) (by rw[← show a.tmps.getD r2 undef=ptTo b2 from e2];exact ytf1 (by omega)) (yip1 hR rfl fun s v hv=>(ypm1 hv).2)) fun e a' w' hl=>?_
 have back:∀ σ L',Rel P N N w0 A ⟨I.blk,pinsOf (max k K) a⟩ σ a' w' L'->Rel P N N w0 A I σ a' w' L':=fun σ L' g=>by
  refine yip1 g rfl fun s v hv=>?_
  have hs:s<I.pins.length:=(List.getElem?_eq_some_iff.1 hv).1
  have:=g.pin s _ (ytf1 (K:=max k K) (a:=a) (s:=s) (by omega))
  rw[this];exact hR.pin s v hv
 cases e with
 | normal=>obtain⟨σ,L',g1,g2⟩:=hl;exact⟨σ,L',back _ _ g1,g2⟩
 | exit id=>obtain⟨σ,L',g1,g2⟩:=hl;exact⟨σ,L',back _ _ g1,g2⟩
 | ret=>obtain⟨σ,L',g1,g2⟩:=hl;exact⟨σ,L',back _ _ g1,g2⟩
 | _=>exact hl.elim
def clo (f:FuncId) (b1 b2:Nat):Value:=.func (.func f) #[] #[ptTo b1,ptTo b2]
theorem v_fn {id f d1 d2:Nat} {o1 o2:Oper} {l:LS} {Q:Ex->LS->Prop} (l1:LS) (hq:Q .normal l1)
  (h1:o1.op=.makeFunc (.func f) #[] #[.tmp r1,.tmp r2]/\o1.guard=none/\o1.dst=some d1:=by exact⟨rfl,rfl,rfl⟩) (h2:o2.op=.assign (.tmp d1)/\o2.guard=none/\o2.dst=some d2:=by exact⟨rfl,rfl,rfl⟩)
  (g1:refsOk l1=true:=by kernel_rfl) (g2:readL (put (put (ofL l) d1 (.p (clo f b1 b2))) d2 (.p (clo f b1 b2))) l1=l1:=by kernel_rfl):OkV P N r1 b1 r2 b2 (.region id [o1,o2].toArray false) l Q:=fun w0 A I a w L hB p1 p2 hR=>by
 simp only[codeB,opsB,List.toList_toArray,List.all_cons,List.all_nil,Bool.and_true,h1.2.2,h2.2.2,Bool.and_eq_true,decide_eq_true_eq] at hB
 obtain⟨⟨k1,n1⟩,k2,n2⟩:=hB
 have e1:a.eval (.tmp r1)=ptTo b1:=hR.pin r1 _ p1
 have e2:a.eval (.tmp r2)=ptTo b2:=hR.pin r2 _ p2
 obtain⟨L1,R1⟩:=hR.putV ⟨k1,n1⟩ (clo f b1 b2)
 obtain⟨L2,R2⟩:=R1.putV ⟨k2,n2⟩ (clo f b1 b2)
 refine wp_region ?_
 show wpOps P _ _ [0,1] a w
 refine yll1 (o:=o1) (v:=clo f b1 b2) (w':=w) rfl h1.2.1 ?_ ?_
 ·simp only[execOp,h1.1,List.map_toArray,List.map_cons,List.map_nil,e1,e2]
  rfl
 rw[h1.2.2]
 refine yll1 (o:=o2) (v:=clo f b1 b2) (w':=w) rfl h2.2.1 ?_ ?_
 ·rw[ynm1 h2.1]
  have:(a.put (some d1) (clo f b1 b2)).eval (.tmp d1)=clo f b1 b2:=by
   rw[ynv1 (by rw[hR.siz];exact n1),if_pos rfl]
  rw[this]
 rw[h2.2.2]
 exact⟨_,L2,R2,l1,.inr (yok g1 g2),hq⟩
theorem ysl1 {w0:World} {A:Nat->Prop} {I:Bor} {ops:Array Oper} {Q:Exit->Act->World->Prop} {K:St->Prop} {rest:List Nat} (hB:opsB I.pins.length N ops.toList=true) (hK:∀ a w σ L,K σ->Rel P N N w0 A I σ a w L->wpOps P ops Q rest a w):∀ (l:List Oper) (k:Nat) (σ:St) (a:Act) (w:World) (L:Lab),
  (∀ j,j<l.length->l[j]?=ops[k+j]?)->Rel P N N w0 A I σ a w L->pvL P ops l σ K->wpOps P ops Q (List.range' k l.length++rest) a w
 | [],k,σ,a,w,L,_,hR,h=>hK a w σ L h hR
 | o::l,k,σ,a,w,L,hl,hR,h=>by
  have ho:ops[k]?=some o:=by simpa using(hl 0 (by simp)).symm
  have hl':∀ j,j<l.length->l[j]?=ops[k+1+j]?:=fun j hj=>by have:=hl (j+1) (by simpa using hj);simpa [Nat.add_assoc,Nat.add_comm 1 j] using this
  have hd:∀ d,o.dst=some d->I.pins.length<=d/\d<N:=fun d hd=>by
   have:=List.all_eq_true.1 hB o (by have:=Array.mem_of_getElem? ho;simpa using this)
   rw[hd] at this;simpa using this
  simp only[List.length_cons,List.range'_succ,List.cons_append,wpOps,ho];rcases yhr1 hR h with⟨h1,h2⟩ | ⟨h1,h2⟩
  ·rw[if_pos h1]
   exact .inl (ypv hR hd h2 fun a' w' σ' L' h3 h4=>ysl1 hB hK l (k+1) σ' a' w' L' hl' h4 h3)
  rw[if_neg (by rw[h1];simp)]
  obtain⟨L',h3⟩:=yaw (tv:=undef) (sv:=.p (.tuple #[])) hR.up rfl o.dst hd
  exact ysl1 hB hK l (k+1) _ _ w L' hl' h3 h2
def afterT (r1 r2 d:Nat) (X Y:SV) (l:LS):LS:=l.map fun x=>if x.1=r1 then(x.1,X) else if x.1=r2 then(x.1,Y) else if x.1=d then(x.1,.u) else x
theorem yuf1 {r1 r2 d:Nat} {X Y:SV} (s:Nat):∀ l:LS,ofL (afterT r1 r2 d X Y l) s=(if s=r1 then X else if s=r2 then Y else if s=d then .u else ofL l s)\/ofL (afterT r1 r2 d X Y l) s=.u
 | []=>.inr rfl
 | (k,x)::l=>by
  by_cases hs:s=k
  ·subst hs
   left
   simp only[afterT,List.map_cons];split
   ·simp[ofL,upd]
   split
   ·simp[ofL,upd]
   split <;> simp[ofL,upd]
  have h1:ofL ((k,x)::l) s=ofL l s:=by simp[ofL,upd,hs]
  have h2:ofL (afterT r1 r2 d X Y ((k,x)::l)) s=ofL (afterT r1 r2 d X Y l) s:=by
   simp only[afterT,List.map_cons];split
   ·simp[ofL,upd,hs]
   split
   ·simp[ofL,upd,hs]
   split <;> simp[ofL,upd,hs]
  rw[h1,h2];exact yuf1 s l
def xPre (P:Program) (n:Nat) (ops:List Oper) (hs:List (Nat×HH)) (l0 l1:LS):Option (LS×List Prop):=match xL P ops.toArray hs 0 (ops.take n) (ofL l0) with
 | some (σ',obs)=>if refsOk l1=true then some (readL σ' l1,obs) else none
 | none=>none
theorem yvv1 {w0 w w':World} {A:Nat->Prop} {I:Bor} {l1:LS} {a:Act} {L:Lab} {d:Nat} {v:Value} {xs ys xs' ys':List Value} (hR:Rel P N N w0 A I (ofL l1) a w L) (hs:l1.all (fun x=>simpleS x.2)=true)
  (h1:ofL l1 r1=.box (xs.map .raw)) (h2:ofL l1 r2=.box (ys.map .raw)) (hne:r1≠r2) (hd:I.pins.length<=d/\d<N) (hd1:d≠r1) (hd2:d≠r2) (L1:L b1=some (r1,[])) (L2:L b2=some (r2,[]))
  (t1:a.tmps.getD r1 undef=ptTo b1) (t2:a.tmps.getD r2 undef=ptTo b2) (ev:Ev ⟨fun b=>b=b1\/b=b2,[]⟩ w w') {e1 e2:TypeId} (n1:w'.heap[b1]?=some (.cells xs'.toArray e1 (0,0))) (n2:w'.heap[b2]?=some (.cells ys'.toArray e2 (0,0)))
  (hsx:xs'.all scal=true) (hsy:ys'.all scal=true):Rel P N N w0 A I (ofL (afterT r1 r2 d (.box (xs'.map .raw)) (.box (ys'.map .raw)) l1)) (a.put (some d) v) w' L:=by
 have tm:∀ s,(a.put (some d) v).tmps.getD s undef=if s=d then v else a.tmps.getD s undef:=fun s=>yij1 a v (by rw[hR.siz];exact hd.2) s
 have hblk:∀ b,b<w.heap.size->b≠b1->b≠b2->w'.heap[b]?=w.heap[b]?:=fun b hb g1 g2=>ev.block b hb fun h=>by
  rcases h with h | h
  ·exact g1 h
  exact g2 h
 have fresh:∀ b,b<w0.heap.size->b∉I->b≠b1/\b≠b2:=fun b hb hI=>⟨fun h=>by
  subst h;rcases(hR.lab _ _ L1).2.1 with h | h
  ·omega
  ·exact hI h,fun h=>by
  subst h;rcases(hR.lab _ _ L2).2.1 with h | h
  ·omega
  exact hI h⟩
 have hr1:r1<N:=by
  rcases Nat.lt_or_ge r1 N with h | h
  ·exact h
  have:=hR.out r1 h;rw[h1] at this;cases this
 have hr2:r2<N:=by
  rcases Nat.lt_or_ge r2 N with h | h
  ·exact h
  have:=hR.out r2 h;rw[h2] at this;cases this
 refine⟨hR.dfr,by rw[yov1];exact hR.siz,⟨ev.os.trans hR.ev.os,ev.tape.trans hR.ev.tape,ev.output.trans hR.ev.output,Nat.le_trans hR.ev.size ev.size,fun b hb hI=>?_⟩,hR.inj,fun b l hl=>?_,fun s hs=>?_,hR.hA,fun s u hu=>?_,fun s=>?_⟩
 ·exact(hblk b (Nat.lt_of_lt_of_le hb hR.ev.size) (fresh b hb hI).1 (fresh b hb hI).2).trans (hR.ev.block b hb hI)
 ·have:=hR.lab b l hl
  exact⟨Nat.lt_of_lt_of_le this.1 ev.size,this.2⟩
 ·rcases yuf1 (r1:=r1) (r2:=r2) (d:=d) (X:=.box (xs'.map .raw)) (Y:=.box (ys'.map .raw)) s l1 with h | h
  ·rw[h,if_neg (by omega),if_neg (by omega),if_neg (by omega)];exact hR.out s hs
  exact h
 ·have hs:s<I.pins.length:=(List.getElem?_eq_some_iff.1 hu).1
  rw[tm,if_neg (by omega)];exact hR.pin s u hu
 rcases yuf1 (r1:=r1) (r2:=r2) (d:=d) (X:=.box (xs'.map .raw)) (Y:=.box (ys'.map .raw)) s l1 with h | h
 ·rw[h]
  by_cases g1:s=r1
  ·subst g1
   rw[if_pos rfl];exact⟨b1,by rw[tm,if_neg (Ne.symm hd1)];exact t1,yrl1 L1 n1 hsx⟩
  rw[if_neg g1];by_cases g2:s=r2
  ·subst g2
   rw[if_pos rfl];exact⟨b2,by rw[tm,if_neg (Ne.symm hd2)];exact t2,yrl1 L2 n2 hsy⟩
  rw[if_neg g2];by_cases g3:s=d
  ·rw[if_pos g3];trivial
  rw[if_neg g3,tm,if_neg g3];have hsm:=yap1 hs s;refine(hR.slot s).keep (fun b hb=>?_) (fun b q _ hb=>?_) fun r hr=>?_
  ·have:=hb
   refine⟨⟨hb.1,Nat.lt_of_lt_of_le hb.2.1 ev.size,hb.2.2⟩,hblk b hb.2.1 (fun e=>?_) fun e=>?_⟩
   ·subst e;rw[hb.1] at L1;cases L1
   subst e;rw[hb.1] at L2;cases L2
  ·refine⟨hb,hblk b (hR.lab b _ hb).1 (fun e=>?_) fun e=>?_⟩
   ·subst e
    rw[hb] at L1;simp only[Option.some.injEq,Prod.mk.injEq] at L1;exact g1 L1.1
   subst e;rw[hb] at L2;simp only[Option.some.injEq,Prod.mk.injEq] at L2;exact g2 L2.1
  cases hx:ofL l1 s with
  | ref r q n=>rw[hx] at hsm;cases hsm
  | addr r q=>rw[hx] at hsm;cases hsm
  | _=>rw[hx] at hr;cases hr
 rw[h];trivial
theorem ydz1 {id n d fs ar:Nat} {f:FuncId} {ops:List Oper} {o:Oper} {ts:Array TypeId} {l:LS} {Q:Ex->LS->Prop} {S:Prop} {yv:Value} {xs ys xs' ys':List Value} (l1 l2:LS) (hs:List (Nat×HH)) (ho:S) (hT:Takes P f yv xs ys xs' ys')
  (hq:Q .normal l2) (h0:ops[n]?=some o) (hl:ops.length=n+1) (h1:o.op=.call { callee:=.value (.tmp fs),args:=#[.tmp ar],argTypes:=ts }/\o.guard=none/\o.dst=some d)
  (e:(xPre P n ops hs l l1).map (fun p=>(p.1,allP p.2))=some (l1,S):=by kernel_rfl) (h2:afterT r1 r2 d (.box (xs'.map .raw)) (.box (ys'.map .raw)) l1=l2:=by kernel_rfl)
  (hF:ofL l1 fs=.p (clo f b1 b2):=by kernel_rfl) (hY:ofL l1 ar=.p yv:=by kernel_rfl) (hx:ofL l1 r1=.box (xs.map .raw):=by kernel_rfl) (hy:ofL l1 r2=.box (ys.map .raw):=by kernel_rfl)
  (hsm:(l1.all (fun x=>simpleS x.2)&&(r1 != r2)&&(d != r1)&&(d != r2))=true:=by kernel_rfl) (hsc:(xs'.all scal&&ys'.all scal)=true:=by rfl):OkV P N r1 b1 r2 b2 (.region id ops.toArray false) l Q:=fun w0 A I a w L hB p1 p2 hR=>by
 subst h2
 simp only[Bool.and_eq_true,bne_iff_ne] at hsm hsc
 obtain⟨⟨⟨hsm,hne⟩,hd1⟩,hd2⟩:=hsm
 have hB':opsB I.pins.length N ops.toArray.toList=true:=hB
 refine wp_region ?_
 have hr:List.range ops.toArray.size=List.range' 0 (ops.take n).length++[n]:=by
  have:ops.toArray.size=n+1:=by simp[hl]
  rw[this,List.range_succ,List.range_eq_range'];congr 2
  simp[hl]
 rw[hr]
 unfold xPre at e
 split at e
 ·rename_i σ' obs' g1
  split at e
  ·rename_i g2
   simp only[Option.map_some,Option.some.injEq,Prod.mk.injEq] at e;obtain⟨g3,rfl⟩:=e;refine ysl1 (K:=fun σ=>σ=σ') hB' (fun a w σ L hK hR=>?_) (ops.take n) 0 _ a w L (fun j hj=>?_) hR (ylv1 _ _ _ _ _ g1 ho rfl)
   ·subst hK
    have hR1:=ypf hR (yok g2 g3)
    have ho':ops.toArray[n]?=some o:=by simpa using h0
    have hdN:I.pins.length<=d/\d<N:=by
     have:=List.all_eq_true.1 hB' o (by have:=Array.mem_of_getElem? ho';simpa using this)
     rw[h1.2.2] at this;simpa using this
    have blk:∀ (r b:Nat) (zs:List Value),I.pins[r]?=some (ptTo b)->ofL l1 r=.box (zs.map .raw)->a.tmps.getD r undef=ptTo b/\L b=some (r,[])/\∃ e,w.heap[b]?=some (.cells zs.toArray e (0,0)):=fun r b zs hp hz=>by
     have s1:=hR1.slot r;rw[hz] at s1;obtain⟨b',s2,s3⟩:=s1;have s4:=hR1.pin r _ hp;rw[s2] at s4;have:b'=b:=by unfold ptTo at s4;simpa using s4
     subst this;exact⟨s2,s3.1,yfp1 s3⟩
    obtain⟨t1,L1,e1,c1⟩:=blk r1 b1 xs p1 hx;obtain⟨t2,L2,e2,c2⟩:=blk r2 b2 ys p2 hy;have hbne:b1≠b2:=fun h=>by
     subst h;rw[L1] at L2;simp only[Option.some.injEq,Prod.mk.injEq] at L2;exact hne L2.1
    rw[wpOps_cons];unfold wpOp;rw[ho'];have hw:Region.wanted o (yielded ops.toArray a.tmps)=true:=by unfold Region.wanted;rw[h1.2.1]
    simp only[hw,if_true];have hFe:evS (ofL l1) (.tmp fs)=.p (clo f b1 b2):=by simp[evS,hF]
    have hYe:evS (ofL l1) (.tmp ar)=.p yv:=by simp[evS,hY]
    refine .inl (yzb1 h1.1 (ydm1 hR1 hFe) hT.1 ?_)
    have ea:(#[Operand.tmp ar].map a.eval++#[ptTo b1,ptTo b2])=#[yv,ptTo b1,ptTo b2]:=by
     simp[ydm1 hR1 hYe]
    rw[ea];refine(hT.2 w (Zof w0 A L w) b1 b2 e1 e2 ⟨fun b hb=>⟨hb.2.1,fun h=>?_,fun h=>?_⟩,yif1 hR1⟩ hbne c1 c2).mono fun e w' h=>?_
    ·subst h;rw[hb.1] at L1;cases L1
    ·subst h;rw[hb.1] at L2;cases L2
    obtain⟨v,rfl,ev,⟨f1,n1⟩,f2,n2⟩:=h;refine⟨v,rfl,?_⟩
    rw[h1.2.2];exact⟨_,L,yvv1 hR1 hsm hx hy hne hdN hd1 hd2 L1 L2 t1 t2 ev n1 n2 hsc.1 hsc.2,_,.inl rfl,hq⟩
   rw[List.length_take] at hj;rw[List.getElem?_take,if_pos (by omega),Nat.zero_add];simp
  cases e
 cases e
end Go.PV

/-
 A walk over pure values: a region of which one operation is served by a rule of its own;memory that is asked for ahead (slices.Grow of nothing).
 Conditions: none.
-/
set_option linter.all false
namespace Go.PV
variable {P:Program} {N:Nat}
def Mid (P:Program) (N:Nat) (o:Oper) (l1 l2:LS):Prop:=∀ (w0:World) (A:Nat->Prop) (I:Bor) (a:Act) (w:World) (L:Lab) (next:Act->World->Prop) (Q:Exit->Act->World->Prop),Rel P N N w0 A I (ofL l1) a w L ->
 (∀ d,o.dst=some d->I.pins.length<=d/\d<N)->(∀ a' w' L',Rel P N N w0 A I (ofL l2) a' w' L'->next a' w')->o.wp P a w next Q
def xPost (P:Program) (n:Nat) (ops:List Oper) (hs:List (Nat×HH)) (l2 l3:LS):Option (LS×List Prop):=match xL P ops.toArray hs (n+1) (ops.drop (n+1)) (ofL l2) with
 | some (σ',obs)=>if refsOk l3=true then some (readL σ' l3,obs) else none
 | none=>none
theorem yoc2 {id n:Nat} {ops:List Oper} {o:Oper} {l0 l3:LS} {S1 S2:Prop} (l1 l2:LS) (h1 h2:List (Nat×HH)) (s1:S1) (s2:S2) (hM:Mid P N o l1 l2) (h0:ops[n]?=some o) (hg:o.guard=none)
  (e1:(xPre P n ops h1 l0 l1).map (fun p=>(p.1,allP p.2))=some (l1,S1):=by kernel_rfl) (e2:(xPost P n ops h2 l2 l3).map (fun p=>(p.1,allP p.2))=some (l3,S2):=by kernel_rfl):RegOk P N (.region id ops.toArray false) l0 l3:=by
 intro Q hq k hB w0 A I a w L hI hR
 subst hI
 have hB':opsB I.pins.length N ops.toArray.toList=true:=hB
 have hn:n<ops.length:=(List.getElem?_eq_some_iff.1 h0).1
 refine wp_region ?_
 have hr:List.range ops.toArray.size=List.range' 0 (ops.take n).length++(n::List.range' (n+1) (ops.drop (n+1)).length):=by
  have e:ops.toArray.size=n+(1+(ops.length-n-1)):=by simp;omega
  have hl:(ops.take n).length=n:=by rw[List.length_take];omega
  have hd:(ops.drop (n+1)).length=ops.length-n-1:=by rw[List.length_drop];omega
  rw[e,List.range_eq_range',hl,hd,← List.range'_append_1,Nat.add_comm 1,List.range'_succ];simp
 rw[hr]
 unfold xPre at e1
 split at e1
 ·rename_i σ1 o1 g1
  split at e1
  ·rename_i r1
   simp only[Option.map_some,Option.some.injEq,Prod.mk.injEq] at e1;obtain⟨g2,rfl⟩:=e1;unfold xPost at e2;split at e2
   ·rename_i σ3 o3 g3
    split at e2
    ·rename_i r3
     simp only[Option.map_some,Option.some.injEq,Prod.mk.injEq] at e2;obtain⟨g4,rfl⟩:=e2;refine ysl1 (K:=fun σ=>σ=σ1) hB' (fun a w σ L hK hR=>?_) (ops.take n) 0 _ a w L (fun j hj=>?_) hR (ylv1 _ _ _ _ _ g1 s1 rfl)
     ·subst hK
      have hR1:=ypf hR (yok r1 g2)
      have ho':ops.toArray[n]?=some o:=by simpa using h0
      have hd:∀ d,o.dst=some d->I.pins.length<=d/\d<N:=fun d hd=>by
       have:=List.all_eq_true.1 hB' o (by have:=Array.mem_of_getElem? ho';simpa using this)
       rw[hd] at this;simpa using this
      rw[wpOps_cons];unfold wpOp;rw[ho'];have hw:Region.wanted o (yielded ops.toArray a.tmps)=true:=by unfold Region.wanted;rw[hg]
      simp only[hw,if_true];refine .inl (hM w0 A I a w L _ _ hR1 hd fun a' w' L' hR2=>?_)
      refine yrb1 (K:=fun σ=>σ=σ3) hB' (fun a w σ L hK hR=>⟨σ,L,hR,l3,.inr (by rw[hK];exact yok r3 g4),hq⟩) (ops.drop (n+1)) (n+1) _ a' w' L' (fun j=>?_) hR2 (ylv1 _ _ _ _ _ g3 s2 rfl)
      rw[List.getElem?_drop];simp
     rw[List.length_take] at hj;rw[List.getElem?_take,if_pos (by omega),Nat.zero_add];simp
    cases e2
   cases e2
  cases e1
 cases e1
def growOk (i:TypeInfo):Bool:=match i.zero with
 | some z=>z.cells.size==i.size&&(decide (0<i.size)&&decide (i.bytes<=128))
 | none=>false
theorem ypc2 {o:Option TypeInfo} (h:o.map growOk=some true):∃ i z,o=some i/\i.zero=some z/\z.cells.size=i.size/\0<i.size/\i.bytes<=128:=by
 cases o with
 | none=>cases h
 | some i =>
  simp only[Option.map_some,Option.some.injEq] at h;unfold growOk at h;split at h
  ·rename_i z hz
   simp only[Bool.and_eq_true,beq_iff_eq,decide_eq_true_eq] at h;exact⟨i,z,rfl,hz,h.1,h.2.1,h.2.2⟩
  cases h
theorem yfs1 {z:Value} {m g sz:Nat} (hz:z.cells.size=sz) (h:0+m<=g):(([]:List Value).toArray++Builtin.zeroCells z.cells (0+m-0)++Builtin.zeroCells z.cells (g-(0+m))).size=g*sz:=by
 rw[Array.size_append,Array.size_append,size_zeroCells,size_zeroCells,hz]
 have e:([]:List Value).toArray.size=0:=rfl
 rw[e,Nat.zero_add,← Nat.add_mul]
 congr 1
 omega
theorem ywv1 {f:FuncId} {o:Oper} {ts:Array TypeId} {d t e:Nat} {n:Int} {l1 l2:LS}
  (hC:∀ (w:World) (m:Nat),1<=m->m<=1099511627776->Calls P f #[.slice none 0 0,.int .i64 m] w fun e' w'=>∃ (cap:Nat) (arr:Array Value),e'=.returned (.slice (some ⟨w.heap.size,0,none⟩) 0 cap)/\cap<=maxLen/\arr.size=cap*esz P e/\w'=w.drew.alloc (.cells arr e (0,0)))
  (hn:1<=n/\n<=1099511627776) (ho:o.op=.call { callee:=.value (.func f),args:=#[.const (.slice none 0 0),.tmp t],argTypes:=ts }/\o.dst=some d)
  (hf:callable P f=true:=by kernel_rfl) (ht:ofL l1 t=.p (.int .i64 n):=by kernel_rfl) (h2:readL (put (ofL l1) d (.ov false [.sl (some e) []])) l2=l2:=by kernel_rfl) (hr:refsOk l2=true:=by kernel_rfl):Mid P N o l1 l2:=by
 intro w0 A I a w L next Q hR hd hnx
 obtain⟨m,rfl⟩:=Int.eq_ofNat_of_zero_le (show 0<=n by omega)
 have hdd:=hd d ho.2
 have ev:a.eval (.tmp t)=.int .i64 (m:Int):=ydm1 hR (by simp[evS,ht])
 refine yzb1 (vs:=#[]) ho.1 rfl hf ?_
 have ea:(#[Operand.const (.slice none 0 0),Operand.tmp t].map a.eval++#[])=#[.slice none 0 0,.int .i64 (m:Int)]:=by
  simp[ev]
  rfl
 rw[ea]
 refine(hC w m (by omega) (by omega)).mono ?_
 rintro e' w' ⟨cap,arr,rfl,hc,ha,rfl⟩
 refine⟨_,rfl,?_⟩
 have:=ybh1 (σ':=ofL l1) (w':=w.drew.alloc (.cells arr e (0,0))) (r:=none) (mv:=none) (rows:=[]) (rows2:=[]) (g:=w.heap.size) (cap:=cap) (e:=e) (arr:=arr) hR (.inl rfl) rfl rfl rfl (by simp) (by simp) (.inl (Nat.le_refl _))
  (fun b' hb' _=>by first | exact heap_alloc_old w.drew _ b' hb' | exact heap_alloc_old w.drew _ hb') (yvd w.drew _) (by simp) hc ha (by simp) (by simp) (fun i row o c h1=>by simp at h1) (fun i row o c h1=>by simp at h1)
  (fun s=>.inr ⟨rfl,by simp,fun x _=>by simp⟩) (fun x _ _=>rfl)
 obtain⟨L1,R1,S1⟩:=this
 rw[ho.2]
 have hp:=R1.put hdd S1
 exact hnx _ _ _ (ypf hp (yok hr h2))
end Go.PV

/-
 A walk over pure values: what is owned is frozen between two regions.
 Conditions: none.
-/
set_option linter.all false
namespace Go.PV
variable {P:Program} {N:Nat}
theorem ygs1 {c:Code} {l:LS} {Q:Ex->LS->Prop} (r:Nat) {g:Bool} {cs:List C} (cs':List C) (l':LS) (he:eraR cs=cs') (h:OkL P N c l' Q) (hr:ofL l r=.ov g cs:=by kernel_rfl) (h1:refsOk l'=true:=by kernel_rfl) (h2:readL (fun s=>if s=r then .d g cs' else killD r (ofL l s)) l'=l':=by kernel_rfl):OkL P N c l Q:=fun k hB w0 A I a w L hI hR=>by
 obtain⟨L',h3,_⟩:=hR.frz r
 have e:frz r (ofL l)=fun s=>if s=r then .d g cs' else killD r (ofL l s):=by
  unfold frz;rw[hr];simp only[isTup,Bool.false_eq_true,if_false];funext s
  by_cases h:s=r
  ·subst h
   rw[if_pos rfl,if_pos rfl,hr];show SV.d g (eraR cs)=_
   rw[he]
  rw[if_neg h,if_neg h]
 rw[e] at h3
 exact h k hB w0 A I a w L' hI (ypf h3 (yok h1 h2))
end Go.PV

/-
 Plain laws of loops,elements and wraps.
 Conditions: none.
-/
namespace Go.PV
theorem yec {n:Int} (h1 : -9223372036854775808<=n) (h2:n<=9223372036854775807):w64 n=n:=IntWalk.i64_in n ⟨h1,h2⟩
theorem yta {n:Nat} (h2:n<9223372036854775807):w64 ((n:Int)+1)=((n+1:Nat):Int):=by
 rw[yec (by omega) (by omega)];omega
section
variable {α β X Y:Type}
theorem ydj (xs:List α) (i:Nat):idxO xs (i:Int)=xs[i]?:=by simp[idxO]
theorem ytf {xs:List α} {i:Nat} (h:i<xs.length):idxO xs (i:Int)=some xs[i]:=by simp[idxO,h]
theorem yea {p:Prop} [Decidable p] {f:Unit->Option α} (h:p):(guardO p).bind f=f ():=by simp[guardO,h]
theorem ydc {body:X->Option (X ⊕ Y)} (n:Nat) (S:Nat->X) (y:Y) (h1:∀ i,i<n->body (S i)=some (.inl (S (i+1)))) (h2:body (S n)=some (.inr y)):loopO body (S 0)=some y:=by
 have:∀ k,k<=n->loopO body (S (n-k))=some y:=by
  intro k;induction k with
  | zero=>intro _;rw[ybu,Nat.sub_zero,h2]
  | succ k ih =>
   intro hk;rw[ybu,h1 _ (by omega)];have:=ih (by omega)
   rwa [show n-(k+1)+1=n-k by omega]
 simpa using this n (Nat.le_refl n)
theorem yao {body:X->Option (X ⊕ Y)} (Inv:X->Prop) (μ:X->Nat) (R:Y->Prop) (h:∀ x,Inv x->(∃ x',body x=some (.inl x')/\Inv x'/\μ x'<μ x)\/(∃ y,body x=some (.inr y)/\R y)) (x0:X) (h0:Inv x0):∃ y,loopO body x0=some y/\R y:=by
 have:∀ n x,μ x=n->Inv x->∃ y,loopO body x=some y/\R y:=by
  intro n;induction n using Nat.strongRecOn with
  | ind n ih =>
   intro x hx hi;rcases h x hi with⟨x',h1,h2,h3⟩ | ⟨y,h1,h2⟩
   ·obtain⟨y,h4,h5⟩:=ih _ (by omega) x' rfl h2
    exact⟨y,by rw[ybu,h1];exact h4,h5⟩
   exact⟨y,by rw[ybu,h1],h2⟩
 exact this _ x0 rfl h0
theorem yvm {xs:List α} {body:X->Option (X ⊕ Y)} (p:α->Bool) (S:Nat->X) (yes:Nat->Y) (no:Y) (h1:∀ i x,xs[i]?=some x->body (S i)=some (if p x then .inr (yes i) else .inl (S (i+1)))) (h2:body (S xs.length)=some (.inr no)) :
  loopO body (S 0)=some (match xs.findIdx? p with | some i=>yes i | none=>no):=by
 cases h:xs.findIdx? p with
 | none =>
  have hn:=List.findIdx?_eq_none_iff.1 h
  refine ydc xs.length S no (fun i hi=>?_) h2
  rw[h1 i xs[i] (List.getElem?_eq_getElem hi),hn _ (List.getElem_mem hi)];rfl
 | some m =>
  obtain⟨hm,hp,hlt⟩:=List.findIdx?_eq_some_iff_getElem.1 h
  refine ydc m S (yes m) (fun i hi=>?_) ?_
  ·rw[h1 i xs[i] (List.getElem?_eq_getElem (by omega))]
   have:=hlt i hi
   simp[this]
  rw[h1 m xs[m] (List.getElem?_eq_getElem hm),hp];rfl
theorem ydk1 {xs:List α} {body:X->Option (X ⊕ Y)} (p:α->Bool) (S:Nat->X) (yes no:Y) (h1:∀ i x,xs[i]?=some x->body (S i)=some (if p x then .inr yes else .inl (S (i+1)))) (h2:body (S xs.length)=some (.inr no)) :
  loopO body (S 0)=some (if xs.any p then yes else no):=by
 rw[yvm p S (fun _=>yes) no h1 h2]
 cases h:xs.findIdx? p with
 | none =>
  have hn:=List.findIdx?_eq_none_iff.1 h
  have:xs.any p=false:=by simpa using hn
  simp[this]
 | some m =>
  obtain⟨hm,hp,_⟩:=List.findIdx?_eq_some_iff_getElem.1 h
  have:xs.any p=true:=by simp;exact⟨xs[m],List.getElem_mem hm,hp⟩
  simp[this]
theorem getElem?_lt {xs:List α} {i:Nat} {x:α} (h:xs[i]?=some x):i<xs.length:=(List.getElem?_eq_some_iff.1 h).1
end
end Go.PV

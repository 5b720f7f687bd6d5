/-
  A walk over pure values: what stands for what, and that each operation keeps it.
  Conditions: none.
-/
import Derived.Deep.Slices
import Derived.WalkKit
import Derived.ProofKit
import Derived.Below
import Derived.Carry
import Derived.OpenShut
import Derived.Laws.StructEq
import Derived.Lib.SliceRun
import Derived.Laws.IdiomCopy
import Derived.KernelRfl
import Derived.Lib.ItoaNum
import Derived.Lib.LaidTab
import Derived.Sort.Grow
import Derived.Deep.Draws
import Derived.Laws.Strings
import Derived.Laws.Strings2
import Derived.Laws.Slices
import Derived.Lib.Bytealg
import Derived.Lib.IndexMore
import Derived.Lib.AtoiAll
import Derived.RangeFuncNested
import Derived.RangeFuncLeaves
import Derived.OrdersIn
import Derived.Shelf.SlSortCmp.NoneTotal
import Derived.IntWalk
import Derived.Test.YtcmcgkkjkaahcaaGreatPvBx
set_option linter.all false
/-
 A walk over pure values: small laws that the written walks lean on.
 Conditions: none.
-/
namespace Go.PV
variable {P:Program} {N:Nat}
def w64 (n:Int):Int:=IntKind.i64.wrap n
def iand (k:IntKind) (x y:Int):Int:=k.wrap ((BitVec.ofInt k.bits x) &&& (BitVec.ofInt k.bits y)).toNat
def ishr (k:IntKind) (x y:Int):Int:=x.fdiv (2 ^ (min y.toNat k.bits))
def ishl (k:IntKind) (x y:Int):Int:=k.wrap (x*2 ^ (min y.toNat k.bits))
open Classical in
noncomputable def fuelO {α:Type} (f:Nat->Option α):Option α:=if h:∃ k,(f k).isSome=true then f (Classical.choose h) else none
def guardO (p:Prop) [Decidable p]:Option Unit:=if p then some () else none
theorem ycb {p:Prop} [Decidable p] {u:Unit} (h:guardO p=some u):p:=by
 unfold guardO at h
 split at h
 ·assumption
 cases h
theorem RegOk.of_eq {c:Code} {l0 l1 l2:LS} (h:RegOk P N c l0 l1) (e:l1=l2):RegOk P N c l0 l2:=e▸h
section
variable {α β:Type} {xs ys:List α} {f:α->List C} {g:β->List C}
theorem gre {rows:List (List C)} {n o:Nat} {row:List C} (h:rows[n]?=some row):getRow rows [(n,o)]=some (row.drop o):=by simp[getRow,h]
theorem grs {rows rows':List (List C)} {n o m o':Nat} {q:Path} {row:List C} {e:TypeId} (h:rows[n]?=some row) (h2:row[o]?=some (.sl (some e) rows')):getRow rows ((n,o)::(m,o')::q)=getRow rows' ((m,o')::q):=by
 cases q <;> simp[getRow,h,h2]
theorem gr0 {cells:List C} {rows':List (List C)} {o m o':Nat} {q:Path} {e:TypeId} (h2:cells[o]?=some (.sl (some e) rows')):getRow [cells] ((0,o)::(m,o')::q)=getRow rows' ((m,o')::q):=grs (n:=0) rfl h2
theorem yhi1 {rows:List (List C)} {n o:Nat} {q:Path} {cs:List C}:setL rows ((n,o)::q) cs=rows.modify n (fun r=>match q with | []=>r.take o++cs++r.drop (o+cs.length) | _::_=>setR r o q cs):=by
 induction rows generalizing n with
 | nil=>cases n <;> simp[setL]
 | cons r rows ih =>
  cases n with
  | zero=>cases q <;> simp[setL]
  | succ n=>cases q <;> simp[setL,ih]
theorem yqw1 {row:List C} {o:Nat} {q:Path} {cs:List C} {c:C} (h:row[o]?=some c):setR row o q cs=row.take o++[setC c q cs]++row.drop (o+1):=by
 induction row generalizing o with
 | nil=>simp at h
 | cons r row ih =>
  cases o with
  | zero=>simp at h;subst h;simp[setR]
  | succ o=>simp at h;simp[setR,ih h]
theorem yff1 {n:Nat} {x y:α} {F:List C->List C} (h:xs[n]?=some x) (h2:F (f x)=f y):(xs.map f).modify n F=(xs.set n y).map f:=by
 apply List.ext_getElem?
 intro j
 rw[List.getElem?_modify,List.getElem?_map,List.getElem?_map,List.getElem?_set]
 by_cases hj:n=j
 ·subst hj
  obtain⟨hlt,hx⟩:=List.getElem?_eq_some_iff.1 h
  subst hx;simp[h2,hlt]
 simp[hj]
theorem set1 {n o:Nat} {x y:α} {cs:List C} (h:xs[n]?=some x) (h2:(f x).take o++cs++(f x).drop (o+cs.length)=f y):setL (xs.map f) [(n,o)] cs=(xs.set n y).map f:=by
 rw[yhi1];exact yff1 h h2
theorem set2 {n o m o':Nat} {q:Path} {x y:α} {cs:List C} {e:TypeId} {rows rows':List (List C)} (h:xs[n]?=some x) (h1:(f x)[o]?=some (.sl (some e) rows)) (h3:setL rows ((m,o')::q) cs=rows') (h2:(f x).take o++[.sl (some e) rows']++(f x).drop (o+1)=f y) :
  setL (xs.map f) ((n,o)::(m,o')::q) cs=(xs.set n y).map f:=by
 rw[yhi1]
 refine yff1 h ?_
 show setR (f x) o ((m,o')::q) cs=f y
 rw[yqw1 h1,← h2,← h3]
 rfl
theorem ynb {sz:Nat} (h:∀ x,(f x).length=sz):∀ row∈xs.map f,row.length=sz:=by
 intro row hr
 obtain⟨x,_,rfl⟩:=List.mem_map.1 hr
 exact h x
theorem yfb2 {n:Nat}:((xs.map f).take n).drop 0=(xs.take n).map f:=by simp[List.map_take]
theorem yxz1 {n:Nat}:((xs.map f).take (xs.map f).length).drop n=(xs.drop n).map f:=by rw[List.take_length];simp[List.map_drop]
theorem ywa {h:α->List C} (hf:∀ x,eraR (f x)=h x):eraL (xs.map f)=xs.map h:=by
 rw[ygg1,List.map_map];exact List.map_congr_left fun x _=>hf x
theorem yhp1 {t:TypeId} {h:α->List C} (hf:∀ x,eraR (f x)=h x) (l:List α):eraR (eO t f l)=eF h l:=by
 show[era (.sl (some t) (l.map f))]=_
 simp only[era,ywa hf];rfl
theorem ynj1 (a b:List C):eraR (a++b)=eraR a++eraR b:=by simp[yam]
theorem yyx {h:α->List C} {k:β->List C} (hf:∀ x,eraR (f x)=h x) (hg:∀ x,eraR (g x)=k x) (x:α×β):eraR (eP f g x)=eP h k x:=by
 unfold eP;rw[ynj1,hf,hg]
theorem er_I (n:Int):eraR (eI n)=eI n:=rfl
theorem ybs {o:Option TypeId} {l l':List (List C)} {r r':List C} (h1:eraL l=l') (h2:eraR r=r'):eraR (.sl o l::r)=.sl none l'::r':=by
 show era (.sl o l)::eraR r=_
 simp only[era,h1,h2]
theorem yoc1 {v:Value} {r r':List C} (h2:eraR r=r'):eraR (.raw v::r)=.raw v::r':=by
 show era (.raw v)::eraR r=_
 simp only[era,h2]
theorem yxl1 (a b:List C):wnR (a++b)=(wnR a&&wnR b):=by
 induction a with
 | nil=>simp[wnR]
 | cons c a ih=>simp[wnR,ih,Bool.and_assoc]
theorem ysc (h:∀ x,wnR (f x)=true):wnL (xs.map f)=true:=by
 induction xs with
 | nil=>rfl
 | cons x xs ih=>simp[wnL,h,ih]
theorem yyl1 (a b:List C):frR (a++b)=(frR a&&frR b):=by
 induction a with
 | nil=>simp[frR]
 | cons c a ih=>simp[frR,ih,Bool.and_assoc]
theorem yii1 (h:∀ x,frR (f x)=true):frL (xs.map f)=true:=by
 induction xs with
 | nil=>rfl
 | cons x xs ih=>simp[frL,h,ih]
theorem wn_I (n:Int):wnR (eI n)=true:=rfl
theorem wn_P (h1:∀ x,wnR (f x)=true) (h2:∀ x,wnR (g x)=true) (x:α×β):wnR (eP f g x)=true:=by unfold eP;rw[yxl1,h1,h2];rfl
theorem wn_O {t:TypeId} (h1:∀ x,wnR (f x)=true) (l:List α):wnR (eO t f l)=true:=by simp[eO,wnR,wnC,ysc h1]
theorem fr_I (n:Int):frR (eI n)=true:=rfl
theorem fr_U (k:IntKind) (n:Int):frR (eU k n)=true:=rfl
theorem fr_P (h1:∀ x,frR (f x)=true) (h2:∀ x,frR (g x)=true) (x:α×β):frR (eP f g x)=true:=by unfold eP;rw[yyl1,h1,h2];rfl
theorem frR1 {l:List (List C)} {r:List C} (h:frL l=true) (h2:frR r=true):frR (.sl none l::r)=true:=by simp[frR,frC,h,h2]
theorem wnR1 {t:TypeId} {l:List (List C)} {r:List C} (h:wnL l=true) (h2:wnR r=true):wnR (.sl (some t) l::r)=true:=by simp[wnR,wnC,h,h2]
end
theorem wnc {v:Value} {r:List C} (h:wnR r=true):wnR (.raw v::r)=true:=by simp[wnR,wnC,h]
theorem sa_p {v:Value} {l:List RV} (h:l.all simpleR=true):(RV.p v::l).all simpleR=true:=by simp[simpleR,h]
theorem sa_o {g:Bool} {cs:List C} {l:List RV} (h0:wnR cs=true) (h:l.all simpleR=true):(RV.ov g cs::l).all simpleR=true:=by simp only[List.all_cons,simpleR,h0,h,Bool.and_self]
theorem ls_t {vals:List RV} {x:SV} (h1:vals.all simpleR=true) (h2:wnS x=true):(vals.all simpleR&&wnS x)=true:=by rw[h1,h2];rfl
end Go.PV

/-
 A walk over pure values: what the statement hands in,as data;what it wants to have back.
 Conditions: none.
-/
namespace Go.PV
open Go.Deep Go.ChangeShapes Go.WideShapes Go.RowKit
variable {P:Program}
inductive Ty where
 | int (k:IntKind)
 | bool
 | str
 | sl (a:Ty)
 | one (a:Ty)
 | pair (a b:Ty)
def Ty.α:Ty->Type
 | .int _=>Int
 | .bool=>Bool
 | .str=>ByteArray
 | .sl a=>List a.α
 | .one a=>a.α
 | .pair a b=>a.α×b.α
def Ty.dflt:(T:Ty)->T.α
 | .int _=>(0:Int)
 | .bool=>false
 | .str=>ByteArray.empty
 | .sl _=>[]
 | .one a=>a.dflt
 | .pair a b=>(a.dflt,b.dflt)
def Ty.enc:(T:Ty)->T.α->List C
 | .int k=>eU k
 | .bool=>eB
 | .str=>eT
 | .sl a=>eF a.enc
 | .one a=>a.enc
 | .pair a b=>eP a.enc b.enc
def Ty.ok:(T:Ty)->T.α->Prop
 | .int k=>fun n=>(Lit.int k n).wf=true
 | .bool=>fun _=>True
 | .str=>fun s=>s.size<=maxLen
 | .sl a=>fun (l:List a.α)=>l.length<=maxLen/\∀ x∈l,a.ok x
 | .one a=>a.ok
 | .pair a b=>fun x=>a.ok x.1/\b.ok x.2
def tyX (P:Program):Nat->Ty->(TypeId ⊕ (List Field×Nat×Nat))->Bool
 | 0,_,_=>false
 | n+1,T,.inl t=>(match T,P.underlying t with
  | .int k,some (.int k')=>decide (k=k')
  | .bool,some .bool=>true
  | .str,some .string=>true
  | .sl a,some (.slice e)=>tyX P n a (.inl e)
  | .one a,some (.struct fs)=>(match fs.toList with
   | [f]=>tyX P n a (.inr ([f],0,P.cellsOf t))
   | _=>false)
  | .pair a b,some (.struct fs)=>tyX P n (.pair a b) (.inr (fs.toList,0,P.cellsOf t))
  | _,_=>false)
 | n+1,T,.inr ([f],o,tot)=>decide (f.offset=o)&&decide (o+P.cellsOf f.type=tot)&&tyX P n T (.inl f.type)
 | n+1,.pair a b,.inr (f::g::l,o,tot)=>decide (f.offset=o)&&decide (o+P.cellsOf f.type<=tot)&&tyX P n a (.inl f.type)&&tyX P n b (.inr (g::l,o+P.cellsOf f.type,tot))
 | _,_,_=>false
theorem ydr1 {n:Nat} {k:IntKind} {t:TypeId} (h:tyX P (n+1) (.int k) (.inl t)=true):P.underlying t=some (.int k):=by
 cases hu:P.underlying t with
 | none=>simp[tyX,hu] at h
 | some d=>cases d <;> simp[tyX,hu] at h <;> simp[h]
theorem yzl1 {n:Nat} {t:TypeId} (h:tyX P (n+1) .bool (.inl t)=true):P.underlying t=some .bool:=by
 cases hu:P.underlying t with
 | none=>simp[tyX,hu] at h
 | some d=>cases d <;> simp[tyX,hu] at h <;> simp
theorem yer1 {n:Nat} {t:TypeId} (h:tyX P (n+1) .str (.inl t)=true):P.underlying t=some .string:=by
 cases hu:P.underlying t with
 | none=>simp[tyX,hu] at h
 | some d=>cases d <;> simp[tyX,hu] at h <;> simp
theorem yrw1 {n:Nat} {a:Ty} {t:TypeId} (h:tyX P (n+1) (.sl a) (.inl t)=true):∃ e,P.underlying t=some (.slice e)/\tyX P n a (.inl e)=true:=by
 cases hu:P.underlying t with
 | none=>simp[tyX,hu] at h
 | some d=>cases d <;> simp[tyX,hu] at h <;> exact⟨_,rfl,h⟩
theorem yfr1 {n:Nat} {a:Ty} {t:TypeId} (h:tyX P (n+1) (.one a) (.inl t)=true):∃ fs f,P.underlying t=some (.struct fs)/\fs.toList=[f]/\tyX P n a (.inr ([f],0,P.cellsOf t))=true:=by
 cases hu:P.underlying t with
 | none=>simp[tyX,hu] at h
 | some d =>
  cases d <;> simp only[tyX,hu,Bool.false_eq_true] at h
  rename_i fs;split at h
  ·rename_i f hf
   exact⟨fs,f,rfl,hf,h⟩
  cases h
theorem yam1 {n:Nat} {a b:Ty} {t:TypeId} (h:tyX P (n+1) (.pair a b) (.inl t)=true):∃ fs,P.underlying t=some (.struct fs)/\tyX P n (.pair a b) (.inr (fs.toList,0,P.cellsOf t))=true:=by
 cases hu:P.underlying t with
 | none=>simp[tyX,hu] at h
 | some d=>cases d <;> simp[tyX,hu] at h <;> exact⟨_,rfl,h⟩
section
variable {H:Type} {enc:TypeId×Value->H} {w:World} {spare:Nat->Bool} {held:Bool}
def Stands (w:World) (T:Ty) (cs:List Value):Prop:=∃ a:T.α,T.ok a/\(T.enc a).length=cs.length/\∀ (j:Nat) (c:C),(T.enc a)[j]?=some c->Frz (fun b=>b<w.heap.size) w (cs.getD j undef) c
theorem ysw1 {a:Addr} {v:Value} (h:w.cell? a=some v):a.block<w.heap.size:=by
 unfold World.cell? at h
 split at h
 ·rename_i hx;exact(Array.getElem?_eq_some_iff.1 hx).1
 cases h
theorem yip1 (n:Nat):(∀ (T:Ty) (t:TypeId),tyX P n T (.inl t)=true->∀ (fuel:Nat) (cs:List Value) (x:DataW H×List MemPlace),DataW.trod enc P w 0 spare held fuel t cs=some x->Stands w T cs) /\
  (∀ (T:Ty) (fs:List Field) (o tot:Nat),tyX P n T (.inr (fs,o,tot))=true->∀ (fuel:Nat) (cs:List Value) (xs:List (DataW H×List MemPlace)),cs.length=tot->o<=tot ->
   fs.mapM (fun f=>DataW.trod enc P w 0 spare held fuel f.type ((cs.drop f.offset).take (P.cellsOf f.type)))=some xs->Stands w T (cs.drop o)):=by
 induction n with
 | zero=>exact⟨fun T t h=>by simp[tyX] at h,fun T fs o tot h=>by cases T <;> simp[tyX] at h⟩
 | succ n ih =>
  obtain⟨ih1,ih2⟩:=ih;constructor
  ·intro T t h fuel cs x hx
   cases fuel with
   | zero=>simp[DataW.trod] at hx
   | succ fuel =>
    cases T with
    | int k =>
     have hu:=ydr1 h;obtain⟨m,hcs,_,hw⟩:=DataW.trod_int hu hx;subst hcs;refine⟨m,hw,rfl,fun j c hj=>?_⟩
     cases j with
     | zero=>simp[Ty.enc,eU] at hj;subst hj;exact .raw rfl
     | succ j=>simp[Ty.enc,eU] at hj
    | bool =>
     have hu:=yzl1 h;obtain⟨b,hcs,_⟩:=DataW.trod_bool hu hx;subst hcs;refine⟨b,trivial,rfl,fun j c hj=>?_⟩
     cases j with
     | zero=>simp[Ty.enc,eB] at hj;subst hj;exact .raw rfl
     | succ j=>simp[Ty.enc,eB] at hj
    | str =>
     have hu:=yer1 h;obtain⟨s,hcs,_,hw⟩:=DataW.trod_string hu hx;subst hcs;refine⟨s,hw,rfl,fun j c hj=>?_⟩
     cases j with
     | zero=>simp[Ty.enc,eT] at hj;subst hj;exact .raw rfl
     | succ j=>simp[Ty.enc,eT] at hj
    | sl a =>
     obtain⟨e,hu,h⟩:=yrw1 h;rcases open_slice hu hx with⟨rfl,_⟩ | ⟨ad,len,cap,m,n',D,Pl,rfl,_,hl,hm,hmm,_,hel⟩
     ·refine⟨([]:List a.α),⟨by simp,by simp⟩,rfl,fun j c hj=>?_⟩
      cases j with
      | zero=>simp[Ty.enc,eF] at hj;subst hj;exact .nil
      | succ j=>simp[Ty.enc,eF] at hj
     have hml:len<=m:=by rw[hmm];split <;> omega
     have:Inhabited a.α:=⟨a.dflt⟩
     have step:∀ i,i<len->∃ y:a.α×List Value,w.cells? 0 (ad.add (i*P.cellsOf e)) (P.cellsOf e)=some y.2/\a.ok y.1/\(a.enc y.1).length=y.2.length/\∀ (j:Nat) (c:C),(a.enc y.1)[j]?=some c->Frz (fun b=>b<w.heap.size) w (y.2.getD j undef) c:=fun i hi=>by
      obtain⟨cs',h1,h2⟩:=hel i (by omega)
      obtain⟨y,h3,h4,h5⟩:=ih1 a e h n' cs' _ h2
      exact⟨(y,cs'),h1,h3,h4,h5⟩
     obtain⟨f,hf⟩:=choose_lt step;refine⟨(List.range len).map fun i=>(f i).1,⟨by simp;omega,?_⟩,rfl,fun j c hj=>?_⟩
     ·intro y hy
      obtain⟨i,hi,rfl⟩:=List.mem_map.1 hy;exact(hf i (List.mem_range.1 hi)).2.1
     cases j with
     | succ j=>simp[Ty.enc,eF] at hj
     | zero =>
      simp only[Ty.enc,eF,List.getElem?_cons_zero,Option.some.injEq] at hj;subst hj;show Frz _ w (.slice (some ad) len cap) _
      cases len with
      | zero=>exact .nil
      | succ len =>
       have hlen:∀ i,i<len+1->(a.enc (f i).1).length=P.cellsOf e:=fun i hi=>by
        rw[(hf i hi).2.2.1];exact(World.cells?_some (hf i hi).1).2.1
       have hget:∀ (i:Nat) (row:List C),(List.map a.enc ((List.range (len+1)).map fun i=>(f i).1))[i]?=some row->i<len+1/\row=a.enc (f i).1:=fun i row hr=>by
        simp only[List.map_map,List.getElem?_map] at hr;by_cases hi:i<len+1
        ·simp[hi] at hr;exact⟨hi,hr.symm⟩
        simp[hi] at hr
       have key:∀ (i o:Nat) (row:List C) (c:C),(List.map a.enc ((List.range (len+1)).map fun i=>(f i).1))[i]?=some row->row[o]?=some c ->
         w.cell? (ad.add (i*P.cellsOf e+o))=some ((f i).2.getD o undef)/\Frz (fun b=>b<w.heap.size) w ((f i).2.getD o undef) c:=fun i o row c hr ho=>by
        obtain⟨hi,rfl⟩:=hget i row hr;have ho':o<P.cellsOf e:=by rw[← hlen i hi];exact(List.getElem?_eq_some_iff.1 ho).1
        obtain⟨_,hl2,hc2⟩:=World.cells?_some (hf i hi).1
        refine⟨?_,(hf i hi).2.2.2 o c ho⟩
        have:=hc2 o ho'
        rw[add_add] at this;rw[this];rw[List.getElem?_eq_getElem (by omega)];simp[List.getD,List.getElem?_eq_getElem (show o<(f i).2.length by omega)]
       by_cases hz:P.cellsOf e=0
       ·-- rows without cells
        obtain⟨b,off,spot⟩:=ad;exact absurd hz (by
         intro hz;have h1:=hlen 0 (by omega)
         rw[hz] at h1;have:∀ (T:Ty) (x:T.α),(T.enc x).length≠0:=by
          intro T;induction T with
          | int k=>intro x;simp[Ty.enc,eU]
          | bool=>intro x;simp[Ty.enc,eB]
          | str=>intro x;simp[Ty.enc,eT]
          | sl a _=>intro x;simp[Ty.enc,eF]
          | one a ih=>intro x;exact ih x
          | pair a b iha ihb=>intro x;simp only[Ty.enc,eP,List.length_append];have:=iha x.1;omega
         exact this a _ h1)
       have hlt0:0<(a.enc (f 0).1).length:=by rw[hlen 0 (by omega)];omega
       have h00:=key 0 0 _ _ (by simp) (List.getElem?_eq_getElem hlt0)
       obtain⟨b,off,spot⟩:=ad;have hspot:spot=none:=by
        have:=World.cell?_spot h00.1
        simpa [Addr.add] using this
       subst hspot;have hb:=ysw1 h00.1;simp[Addr.add] at hb
       have hadd:∀ k,(Addr.mk b off none).add k=⟨b,off+k,none⟩:=fun k=>by
        unfold Addr.add;split <;> simp_all
       have h9:=Frz.sl (Z:=fun b=>b<w.heap.size) (w:=w) (b:=b) (off:=off) (cap:=cap) (sz:=P.cellsOf e) (rows:=List.map a.enc ((List.range (len+1)).map fun i=>(f i).1)) (fun i o=>(f i).2.getD o undef)
        (by simpa using hl) (by first | exact hb | (split at hb <;> exact hb)) (by
         intro row hr;obtain⟨i,hi⟩:=List.mem_iff_getElem?.1 hr
         obtain⟨h1,rfl⟩:=hget i row hi;exact hlen i h1)
        (fun i row o c hr ho=>by have:=(key i o row c hr ho).1;rw[hadd] at this;rw[Nat.add_assoc];exact this)
        (fun i row o c hr ho=>(key i o row c hr ho).2)
       simpa using h9
    | one a =>
     obtain⟨fs,f,hu,hfs,h⟩:=yfr1 h;rw[DataW.trod_step] at hx;unfold DataW.trodStep at hx;simp only[hu] at hx
     ·split at hx
      ·rename_i hlen
       cases hm:fs.toList.mapM (fun f=>DataW.trod enc P w 0 spare held fuel f.type ((cs.drop f.offset).take (P.cellsOf f.type))) with
       | none=>simp[hm] at hx
       | some xs =>
        have:=ih2 a fs.toList 0 (P.cellsOf t) (by rw[hfs];exact h) fuel cs xs hlen (Nat.zero_le _) hm
        simpa [Stands,Ty.ok,Ty.enc,Ty.α] using this
      cases hx
    | pair a b =>
     obtain⟨fs,hu,h⟩:=yam1 h;rw[DataW.trod_step] at hx;unfold DataW.trodStep at hx;simp only[hu] at hx;split at hx
     ·rename_i hlen
      cases hm:fs.toList.mapM (fun f=>DataW.trod enc P w 0 spare held fuel f.type ((cs.drop f.offset).take (P.cellsOf f.type))) with
      | none=>simp[hm] at hx
      | some xs =>
       have:=ih2 (.pair a b) fs.toList 0 (P.cellsOf t) h fuel cs xs hlen (Nat.zero_le _) hm
       simpa using this
     cases hx
  intro T fs o tot h fuel cs xs hlen ho hm;match fs with
  | []=>cases T <;> simp[tyX] at h
  | [f] =>
   have h':f.offset=o/\o+P.cellsOf f.type=tot/\tyX P n T (.inl f.type)=true:=by
    cases T <;> simpa [tyX,and_assoc] using h
   obtain⟨h1,h2,h3⟩:=h'
   rw[List.mapM_cons] at hm;cases hx:DataW.trod enc P w 0 spare held fuel f.type ((cs.drop f.offset).take (P.cellsOf f.type)) with
   | none=>simp[hx] at hm
   | some x =>
    have:=ih1 T f.type h3 fuel _ x hx
    rw[h1,List.take_of_length_le (by simp;omega)] at this
    exact this
  | f::g::l =>
   cases T with
   | pair a b =>
    simp only[tyX,Bool.and_eq_true,decide_eq_true_eq] at h;obtain⟨⟨⟨h1,h2⟩,h3⟩,h4⟩:=h;rw[List.mapM_cons] at hm;cases hx:DataW.trod enc P w 0 spare held fuel f.type ((cs.drop f.offset).take (P.cellsOf f.type)) with
    | none=>simp[hx] at hm
    | some x =>
     cases hm2:(g::l).mapM (fun f=>DataW.trod enc P w 0 spare held fuel f.type ((cs.drop f.offset).take (P.cellsOf f.type))) with
     | none=>simp[hx,hm2] at hm
     | some xs' =>
      obtain⟨y,g1,g2,g3⟩:=ih1 a f.type h3 fuel _ x hx;obtain⟨z,k1,k2,k3⟩:=ih2 b (g::l) (o+P.cellsOf f.type) tot h4 fuel cs xs' hlen h2 hm2
      rw[h1] at g2 g3
      have hl1:((cs.drop o).take (P.cellsOf f.type)).length=P.cellsOf f.type:=by simp;omega
      rw[hl1] at g2;refine⟨(y,z),⟨g1,k1⟩,?_,fun j c hj=>?_⟩
      ·simp only[Ty.enc,eP,List.length_append,g2,k2,List.length_drop];omega
      simp only[Ty.enc,eP] at hj;by_cases hjl:j<P.cellsOf f.type
      ·rw[List.getElem?_append_left (by omega)] at hj
       have:=g3 j c hj
       have e:((cs.drop o).take (P.cellsOf f.type)).getD j undef=(cs.drop o).getD j undef:=by
        simp[List.getD,List.getElem?_take,hjl]
       rwa [e] at this
      rw[List.getElem?_append_right (by omega),g2] at hj;have:=k3 _ c hj
      have e:(cs.drop (o+P.cellsOf f.type)).getD (j-P.cellsOf f.type) undef=(cs.drop o).getD j undef:=by
       simp only[List.getD,List.getElem?_drop];congr 2
       omega
      rwa [e] at this
   | _=>simp[tyX] at h
end
end Go.PV

/-
 A walk over pure values: from a contract to what the statement asks.
 Conditions: none.
-/
namespace Go.PV
open Go.Deep Go.ChangeShapes Go.WideShapes Go.RowKit Go.ChangeMaps
variable {P:Program}
def Ty.agg:Ty->Bool
 | .one _=>true
 | .pair _ _=>true
 | _=>false
theorem ytw1 {H:Type} {enc:TypeId×Value->H} {W:World} {base n:Nat} {T:Ty} {t:TypeId} {v:Value} {d:DataW H} {p:List MemPlace} (hT:tyX P n T (.inl t)=true)
  (hv:Value.okWide P W .any base t v) (h:DataW.Trod enc P W 0 (fun _=>true) true t v d p) :
  ∃ a:T.α,T.ok a/\ArgV (fun b=>b<W.heap.size) W v (mkA T.agg (T.enc a)):=by
 have h0:=h
 obtain⟨fuel,hf⟩:=h
 obtain⟨a,h1,h2,h3⟩:=(yip1 (P:=P) (enc:=enc) n).1 T t hT fuel _ _ hf
 refine⟨a,h1,yio1 ?_⟩
 have hcells:∀ j,v.cells.toList.getD j undef=v.cells.getD j undef:=fun j=>by
  simp[List.getD,Array.getD_eq_getD_getElem?]
 refine⟨?_,fun j c hj=>by rw[← hcells];exact h3 j c hj⟩
 cases n with
 | zero=>simp[tyX] at hT
 | succ n =>
  have plain:T.agg=false->(∀ arr,v≠.agg arr)->VShape T.agg v (T.enc a).length:=fun hg hna=>by
   have hc:v.cells=#[v]:=by
    cases v <;> first | rfl | exact absurd rfl (hna _)
   rw[hg];unfold VShape;simp only[Bool.false_eq_true,if_false];exact⟨hc,by rw[h2,hc];rfl⟩
  cases T with
  | int k =>
   obtain⟨x,rfl,_⟩:=open_int (ydr1 hT) hv h0
   exact plain rfl (by intro arr h;cases h)
  | bool =>
   obtain⟨x,rfl,_⟩:=open_bool (yzl1 hT) hv h0
   exact plain rfl (by intro arr h;cases h)
  | str =>
   obtain⟨x,rfl,_⟩:=open_string (yer1 hT) hv h0
   exact plain rfl (by intro arr h;cases h)
  | sl b =>
   obtain⟨e,hu,_⟩:=yrw1 hT;obtain⟨ad,len,cap,rfl⟩:=okWide_slice hu hv;exact plain rfl (by intro arr h;cases h)
  | one b =>
   obtain⟨fs,f,hu,_⟩:=yfr1 hT;unfold Value.okWide at hv;simp only[hu] at hv;obtain⟨cs,rfl,_⟩:=hv;exact⟨cs,rfl,by rw[h2];rfl⟩
  | pair b c =>
   obtain⟨fs,hu,_⟩:=yam1 hT;unfold Value.okWide at hv;simp only[hu] at hv;obtain⟨cs,rfl,_⟩:=hv;exact⟨cs,rfl,by rw[h2];rfl⟩
theorem yjp1 {f:FuncId} {args:List Arg} {vals:Array Value} {W:World} {b:Bool} (hT:Tabs P (fun b=>b<W.heap.size) W) (hm:Meets P f args { vals:=[.p (.bool b)] }) (hb:b=true) (ha:ArgsV (fun b=>b<W.heap.size) W vals.toList args) :
  Calls P f vals W fun e W'=>e=.returned (.bool true)/\Below W.heap.size W W':=by
 subst hb
 refine(hm.2 W (fun b=>b<W.heap.size) vals ⟨fun b hb=>hb,hT⟩ ha.rep).mono fun e W' h=>?_
 obtain⟨v,L,rfl,hp⟩:=h
 have hv:=hp.val
 simp only[ResAt,RVat] at hv
 subst hv
 exact⟨rfl,hp.ev.os,hp.ev.tape,hp.ev.output,hp.ev.size,fun k hk=>hp.ev.block k hk (yhe1 k)⟩
theorem ykp1 {A:Nat->Prop} {W:World} (h:(varNames.all fun n=>(P.globalNamed n).isNone)=true):∀ n∈varNames,∀ g,P.globalNamed n=some g->A g/\∃ v,W.cell? ⟨g,0,none⟩=some v/\varOk n v:=fun n hn g hg=>by
 have:=List.all_eq_true.1 h n hn
 rw[hg] at this
 cases this
theorem ylp1 {A : Nat → Prop} {W : World} (h : P.globalNamed "internal/strconv.uint64pow10" = none) (h2 : ∀ n ∈ varNames, ∀ g, P.globalNamed n = some g → A g ∧ ∃ v, W.cell? ⟨g, 0, none⟩ = some v ∧ varOk n v) : Tabs P A W := ⟨fun g hg => (by rw [h] at hg; cases hg), h2⟩
end Go.PV

/-
 A walk over pure values: structs of two whole numbers compared.
 Conditions: none.
-/
namespace Go.PV
variable {P:Program}
theorem yuw1 {t:TypeId} {f g:Field} {k:IntKind} {x1 x2 y1 y2:Int} (w:World) (hu:P.underlying t=some (.struct #[f,g])) (hs:P.stoodInHeld t=false)
  (hf : P.underlying f.type = some (.int k)) (hg : P.underlying g.type = some (.int k)) (n1 : (f.name != "_") = true) (n2 : (g.name != "_") = true) (o1 : f.offset = 0) (o2 : g.offset = 1) :
  (Op.equalIn 10000 t (.agg #[.int k x1,.int k x2]) (.agg #[.int k y1,.int k y2])).run P w=.ok ((x1==y1)&&(x2==y2)) w:=by
 have hfs:P.fieldsOf t=#[f,g]:=by simp[Program.fieldsOf,hu]
 rw[run_equalIn_struct w 9999 t _ _ (by rw[hfs];exact hu) hs,hfs]
 have e1 : f.name ≠ "_" := by simpa using n1
 have e2 : g.name ≠ "_" := by simpa using n2
 have p:∀ (h:Field) (cs:Array Value) (v:Value),P.underlying h.type=some (.int k)->cs[h.offset]?=some v->(part h.type cs h.offset).run P w=.ok v w:=fun h cs v h1 h2=>by
  simp[part,isAgg,run_underlying h1,h2]
 simp only[Op.eqFields,e1,e2,ne_eq,not_false_eq_true,if_true,Sem.run_bind]
 rw[p f _ (.int k x1) hf (by simp[o1])]
 simp only[Result.andThen_ok]
 rw[p f _ (.int k y1) hf (by simp[o1])]
 simp only[Result.andThen_ok]
 rw[run_equalIn_int w 9998 f.type k k x1 y1 hf]
 simp only[Result.andThen_ok]
 cases h:(x1==y1)
 ·simp
 simp only[Bool.not_true,Bool.false_eq_true,if_false,Sem.run_bind]
 rw[p g _ (.int k x2) hg (by simp[o2])]
 simp only[Result.andThen_ok]
 rw[p g _ (.int k y2) hg (by simp[o2])]
 simp only[Result.andThen_ok]
 rw[run_equalIn_int w 9998 g.type k k x2 y2 hg]
 simp only[Result.andThen_ok]
 cases h':(x2==y2) <;> simp
def two (P:Program) (t:TypeId) (k:IntKind):Bool :=
 match P.underlying t with
 | some (.struct fs)=> !P.stoodInHeld t && !P.eqGuardType P.depth t&&(match fs.toList with
  | [f, g] => (f.name != "_") && (g.name != "_") && f.offset == 0 && g.offset == 1 && (match P.underlying f.type, P.underlying g.type with
   | some (.int k1),some (.int k2)=>k1==k&&k2==k
   | _,_=>false)
  | _=>false)
 | _=>false
theorem ymp1 {t:TypeId} {k:IntKind} {x1 x2 y1 y2:Int} (h:two P t k=true) (w:World) :
  (Op.equalIn 10000 t (.agg #[.int k x1,.int k x2]) (.agg #[.int k y1,.int k y2])).run P w=.ok ((x1==y1)&&(x2==y2)) w/\P.eqGuardType P.depth t=false:=by
 unfold two at h
 cases hu:P.underlying t with
 | none=>rw[hu] at h;cases h
 | some d =>
  rw[hu] at h;cases d with
  | struct fs =>
   obtain⟨l⟩:=fs;match l with
   | [f,g] =>
    dsimp only at h
    cases h1:P.underlying f.type with
    | none=>rw[h1] at h;simp at h
    | some d1 =>
     cases h2:P.underlying g.type with
     | none=>rw[h1,h2] at h;cases d1 <;> simp at h
     | some d2 =>
      rw[h1,h2] at h;cases d1 <;> first | (simp at h;done) | skip
      cases d2 <;> first | (simp at h;done) | skip
      simp only[Bool.and_eq_true,Bool.not_eq_true',beq_iff_eq] at h;obtain⟨⟨a1,a8⟩,⟨⟨⟨a2,a3⟩,a4⟩,a5⟩,a6,a7⟩:=h;subst a6;subst a7;exact⟨yuw1 w hu a1 h1 h2 a2 a3 a4 a5,a8⟩
   | []=>simp at h
   | [_]=>simp at h
   | _::_::_::_=>simp at h
  | _=>cases h
theorem yxb {t t2:TypeId} {a b:Operand} {k:IntKind} {x1 x2 y1 y2:Int} (h:two P t k=true):PureAt P (.binOp .eql t a b t2) [.agg #[.int k x1,.int k x2],.agg #[.int k y1,.int k y2]] (.bool ((x1==y1)&&(x2==y2))):=by
 intro ρ o ho hv w
 have hv:ρ a=.agg #[.int k x1,.int k x2]/\ρ b=.agg #[.int k y1,.int k y2]:=by simpa [Op.operands] using hv
 obtain⟨h1,h2⟩:=ymp1 (x1:=x1) (x2:=x2) (y1:=y1) (y2:=y2) h w
 simp only[execOp,ho,hv.1,hv.2,Sem.run_bind]
 rw[run_eqGuard_agg w _ t a b _ _ h2]
 simp only[Result.andThen_ok]
 rw[run_eql_struct w,h1]
 rfl
theorem yji {t t2:TypeId} {a b:Operand} {k:IntKind} {x1 x2 y1 y2:Int} (h:two P t k=true):PureAt P (.binOp .neq t a b t2) [.agg #[.int k x1,.int k x2],.agg #[.int k y1,.int k y2]] (.bool (!((x1==y1)&&(x2==y2)))):=by
 intro ρ o ho hv w
 have hv:ρ a=.agg #[.int k x1,.int k x2]/\ρ b=.agg #[.int k y1,.int k y2]:=by simpa [Op.operands] using hv
 obtain⟨h1,h2⟩:=ymp1 (x1:=x1) (x2:=x2) (y1:=y1) (y2:=y2) h w
 simp only[execOp,ho,hv.1,hv.2,Sem.run_bind]
 rw[run_eqGuard_agg w _ t a b _ _ h2]
 simp only[Result.andThen_ok]
 rw[run_neq_struct w,h1]
 rfl
end Go.PV

/-
 A walk over pure values: a slice held against nil.
 Conditions: none.
-/
namespace Go.PV
variable {P:Program} {N:Nat}
theorem ynt1 {t t2 e:TypeId} {a:Act} {x:Operand} {o:Oper} {w:World} {ad:Option Addr} {n c:Nat} (ho:o.op=.binOp .eql t x (.const (.slice none 0 0)) t2) (hu:P.underlying t=some (.slice e)) (hx:a.eval x=.slice ad n c) :
  (execOp a.eval o).run P w=.ok (.value (.bool ad.isNone)) w:=by
 have h1:a.eval (.const (.slice none 0 0))=.slice none 0 0:=rfl
 simp only[execOp,ho,hx,h1,Sem.run_bind]
 have h2:(eqGuard .eql t x (.const (.slice none 0 0)) (.slice ad n c) (.slice none 0 0)).run P w=.ok () w:=by simp[eqGuard]
 rw[h2]
 simp only[Result.andThen_ok]
 rw[Lib.run_eql_slice_nil w t e ad n c 0 0 hu]
 rfl
theorem ygb2 {id d1 d z:Nat} {m o:Oper} {b:Code} {l:LS} {Q:Ex->LS->Prop} {t t2 e:TypeId} {rows:List (List C)} (l':Bool->LS)
  (hm:m.op=.move (.tmp z)) (hmg:m.guard=none) (hmd:m.dst=some d1)
  (ho:o.op=.binOp .eql t (.tmp d1) (.const (.slice none 0 0)) t2) (hog:o.guard=none) (hod:o.dst=some d)
  (hu:P.underlying t=some (.slice e)) (hz:ofL l z=.d false [.sl none rows])
  (hr:∀ v,refsOk (l' v)=true) (hl:∀ v,readL (put (put (ofL l) d1 (.d false [.sl none rows])) d (.p (.bool v))) (l' v)=l' v)
  (h1:OkL P N b (l' false) Q) (h2:rows=[]->OkL P N b (l' true) Q):OkL P N (.seq (.region id [m,o].toArray false) b) l Q:=by
 have hreg:OkL P N (.region id [m,o].toArray false) l (seqL (fun l'=>OkL P N b l' Q) Q):=by
  intro k hB w0 A I a w L hI hR;have hd:∀ x∈[m,o],∀ d,x.dst=some d->I.pins.length<=d/\d<N:=fun x hx d hd=>by
   have:=List.all_eq_true.1 hB x (by simpa using hx)
   rw[hd] at this;rw[hI];simpa using this
  refine wp_region ?_
  have hw:∀ (x:Oper) (tm:Array Value),x.guard=none->Region.wanted x (yielded [m,o].toArray tm)=true:=fun x tm hx=>by unfold Region.wanted;rw[hx]
  have e0:List.range [m,o].toArray.size=[0,1]:=rfl
  rw[e0];simp only[wpOps];have e1:([m,o].toArray)[0]?=some m:=rfl
  have e2:([m,o].toArray)[1]?=some o:=rfl
  rw[e1];simp only[hw m _ hmg,if_true];refine .inl (yhs (K:=fun σ'=>σ'=put (ofL l) d1 (.d false [.sl none rows])) hR (hd m (by simp)) ?_ fun a' w' σ' L' h3 h4=>?_)
  ·simp only[pvOp,hm,hz,sOp]
   have:evS (ofL l) (.tmp z)=.d false [.sl none rows]:=by simp[evS,hz]
   rw[this,hmd];exact⟨rfl,rfl⟩
  subst h3;rw[e2];simp only[hw o _ hog,if_true];left
  have hs:=h4.slot d1;have hp:put (ofL l) d1 (.d false [.sl none rows]) d1=.d false [.sl none rows]:=by unfold put;split <;> simp[updK,upd,killSV]
  rw[hp] at hs;obtain⟨ad,cap,hv,hnil⟩:∃ ad cap,a'.tmps.getD d1 undef=.slice ad rows.length cap/\(ad=none->rows=[]):=by
   have hf:=hs.2 0 _ rfl;have hc:=hs.1.1;have hc2:(a'.tmps.getD d1 undef).cells.getD 0 undef=a'.tmps.getD d1 undef:=by rw[hc];rfl
   rw[hc2] at hf;generalize a'.tmps.getD d1 undef=tv at hf
   cases hf with
   | nil=>exact⟨_,_,rfl,fun _=>rfl⟩
   | sl=>exact⟨_,_,rfl,fun h=>by cases h⟩
  have hev:a'.eval (.tmp d1)=.slice ad rows.length cap:=hv
  refine yot (ynt1 ho hu hev) ?_
  rw[hod];have h5:=h4.up.put (hd o (by simp) d hod) (sv:=.p (.bool ad.isNone)) (tv:=.bool ad.isNone) rfl
  refine⟨_,_,h5,l' ad.isNone,.inr (yaj (hr _) (hl _)),?_⟩
  show OkL P N b (l' ad.isNone) Q
  cases ad with
  | none=>exact h2 (hnil rfl)
  | some x=>exact h1
 exact yib hreg
end Go.PV

/-
 A walk over pure values: the block of an owned slice written in one go;slices cleared,copied,turned round.
 Conditions: none.
-/
namespace Go.PV
variable {P:Program} {N:Nat} {w0:World} {A:Nat->Prop} {I:Bor}
def rawRow:List C->Bool
 | []=>true
 | .raw v::l=>scal v&&rawRow l
 | _::_=>false
theorem ylq {l:List C} (h:rawRow l=true) {o:Nat} {c:C} (ho:l[o]?=some c):∃ v,c=.raw v/\scal v=true:=by
 induction l generalizing o with
 | nil=>simp at ho
 | cons x l ih =>
  cases x with
  | raw v =>
   simp only[rawRow,Bool.and_eq_true] at h;cases o with
   | zero=>simp at ho;exact⟨v,ho.symm,h.1⟩
   | succ o=>exact ih h.2 (by simpa using ho)
  | _=>simp[rawRow] at h
theorem ynp1 {M:Nat} {σ:St} {a:Act} {w:World} {L:Lab} (hR:Rel P N M w0 A I σ a w L) {r:Nat} {e:TypeId} {rows:List (List C)} (hσ:σ r=.ov false [.sl (some e) rows]) :
  (tmOf a r=.slice none 0 0/\rows=[])\/∃ g arr cap,tmOf a r=.slice (some ⟨g,0,none⟩) rows.length cap/\rows.length<=cap/\cap<=maxLen/\arr.size=cap*esz P e/\(∀ row∈rows,row.length=esz P e) /\
   L g=some (r,[(0,0)])/\w.heap[g]?=some (.cells arr e (0,0))/\(∀ i row o v,rows[i]?=some row->row[o]?=some (.raw v)->arr.getD (i*esz P e+o) undef=v):=by
 have hslot:=hR.slot r
 rw[hσ] at hslot
 have hrep:=hslot.2 0 _ rfl
 have hcell:(tmOf a r).cells=#[tmOf a r]:=hslot.1.1
 have hrep:Rep P (Zof w0 A L w) L w r [(0,0)] (tmOf a r) (.sl (some e) rows):=by
  have h1:(tmOf a r).cells.getD 0 undef=tmOf a r:=by rw[hcell];rfl
  rw[← h1];exact hrep
 rcases hrep.node with⟨h1,h2⟩ | ⟨b,arr,cap,h1,h2,h3,h4,h5,hn⟩
 ·exact .inl ⟨h1,h2⟩
 exact .inr ⟨b,arr,cap,h1,h2,h3,h4,h5,hn.lab,hn.heap,fun i row o v h6 h7=>(hn.kids i row o _ h6 h7).raw_eq⟩
def wrS (σ:St) (r:Nat) (x:SV):St:=fun s=>if s=r then x else killSV r (σ s)
theorem Rel.rewrite {M:Nat} {σ:St} {a:Act} {w w':World} {L:Lab} (hR:Rel P N M w0 A I σ a w L) {r g cap:Nat} {arr arr':Array Value} {e:TypeId} {rows rows':List (List C)}
  (hσ:σ r=.ov false [.sl (some e) rows]) (hv:tmOf a r=.slice (some ⟨g,0,none⟩) rows.length cap) (hl:L g=some (r,[(0,0)])) (ha:arr.size=cap*esz P e) (hc:cap<=maxLen) (hn:rows.length<=cap)
  (hs:arr'.size=arr.size) (hlen:rows'.length=rows.length) (hu:∀ row∈rows',row.length=esz P e)
  (hr:∀ i row o c,rows'[i]?=some row->row[o]?=some c->∃ v,c=.raw v/\scal v=true/\arr'.getD (i*esz P e+o) undef=v)
  (h1:w'.heap[g]?=some (.cells arr' e (0,0))) (h2:∀ b,b≠g->w'.heap[b]?=w.heap[b]?) (h3:w'.heap.size=w.heap.size) (h4:w'.os=w.os) (h5:w'.tape=w.tape) (h6:w'.output=w.output) :
  Rel P N M w0 A I (wrS σ r (.ov false [.sl (some e) rows'])) a w' L:=by
 have hz:∀ b,Zof w0 A L w b->Zof w0 A L w' b/\w'.heap[b]?=w.heap[b]?:=fun b hb =>
  ⟨⟨hb.1,by rw[h3];exact hb.2.1,hb.2.2⟩,h2 b (by rintro rfl;rw[hb.1] at hl;cases hl)⟩
 refine⟨hR.dfr,hR.siz,⟨h4.trans hR.ev.os,h5.trans hR.ev.tape,h6.trans hR.ev.output,by rw[h3];exact hR.ev.size,fun b hb hI=>?_⟩,hR.inj,fun b l hb=>by rw[h3];exact hR.lab b l hb,fun s hs=>?_,hR.hA,hR.pin,fun s=>?_⟩
 ·refine(h2 b ?_).trans (hR.ev.block b hb hI)
  rintro rfl
  rcases(hR.lab b _ hl).2.1 with h | h
  ·omega
  exact hI h
 ·have h7:=hR.out s hs
  unfold wrS;have:s≠r:=by rintro rfl;rw[h7] at hσ;cases hσ
  rw[if_neg this,h7];rfl
 by_cases hsr:s=r
 ·subst hsr
  simp only[wrS,if_true];have hv':a.tmps.getD s undef=.slice (some ⟨g,0,none⟩) rows'.length cap:=by rw[hlen];exact hv
  rw[hv'];refine⟨⟨rfl,rfl⟩,fun j c hj=>?_⟩
  cases j with
  | succ j=>simp at hj
  | zero =>
   simp at hj
   subst hj;refine Rep.own hl h1 (by rw[hlen];exact hn) hc (hs.trans ha) hu fun i row o c h7 h8=>?_
   obtain⟨v,rfl,h9,h10⟩:=hr i row o c h7 h8;rw[h10];exact .frz (.raw h9)
 simp only[wrS,if_neg hsr]
 rcases ymm r (σ s) with⟨h7,h8⟩ | h7
 ·rw[h7]
  refine(hR.slot s).keep hz (fun b q _ hb=>⟨hb,h2 b ?_⟩) fun x hx hroot=>?_
  ·rintro rfl
   rw[hl] at hb;exact hsr (congrArg Prod.fst (Option.some.inj hb)).symm
  have hxr:x≠r:=fun h=>h8 (h▸hx)
  have hk:wrS σ r (.ov false [.sl (some e) rows']) x=σ x:=by
   unfold wrS;rw[if_neg hxr];exact yii hroot
  refine⟨fun b q hb=>⟨hb,h2 b ?_⟩,rfl,?_,?_⟩
  ·rintro rfl
   rw[hl] at hb;exact hxr (congrArg Prod.fst (Option.some.inj hb)).symm
  ·rw[hk];exact hroot
  rw[hk]
 rw[h7];trivial
theorem Rel.putU {σ:St} {a:Act} {w:World} {L:Lab} (hR:Rel P N N w0 A I σ a w L) {d:Nat} (hd:I.pins.length<=d/\d<N) (v:Value):∃ L',Rel P N N w0 A I (Go.PV.put σ d .u) (a.put (some d) v) w L' :=
 ⟨_,hR.up.put hd (sv:=.u) (tv:=v) trivial⟩
theorem Rel.putV {σ:St} {a:Act} {w:World} {L:Lab} (hR:Rel P N N w0 A I σ a w L) {d:Nat} (hd:I.pins.length<=d/\d<N) (v:Value):∃ L',Rel P N N w0 A I (Go.PV.put σ d (.p v)) (a.put (some d) v) w L' :=
 ⟨_,hR.up.put hd (sv:=.p v) (tv:=v) rfl⟩
theorem yhp {ops:Array Oper} {Q:Exit->Act->World->Prop} {i:Nat} {rest:List Nat} {o:Oper} {a:Act} {w w':World} {v:Value} (ho:ops[i]?=some o) (hg:o.guard=none)
  (h:(execOp a.eval o).run P w=.ok (.value v) w') (hn:wpOps P ops Q rest (a.put o.dst v) w'):wpOps P ops Q (i::rest) a w:=by
 rw[wpOps_cons]
 unfold wpOp
 rw[ho]
 have hw:Region.wanted o (yielded ops a.tmps)=true:=by unfold Region.wanted;rw[hg]
 simp only[hw,if_true]
 exact .inl (yot h hn)
theorem ywi {a:Act} {d:Nat} {v:Value} (hd:d<a.tmps.size) (t:Nat):(a.put (some d) v).eval (.tmp t)=if t=d then v else a.eval (.tmp t):=yje1 a v hd t
theorem ygd (a:Act) (d:Option Nat) (v:Value):(a.put d v).tmps.size=a.tmps.size:=by cases d <;> simp[Act.put]
theorem ykj {a:Act} {o:Oper} {x:Operand} {w:World} (h:o.op=.move x):(execOp a.eval o).run P w=.ok (.value (a.eval x)) w:=by simp[execOp,h]
theorem yoj1 {a:Act} {o:Oper} {x:Operand} {w:World} (h:o.op=.assign x):(execOp a.eval o).run P w=.ok (.value (a.eval x)) w:=by simp[execOp,h]
theorem ygr1 {t e:TypeId} {inf:TypeInfo} (hu:P.underlying t=some (.slice e)) (hinf:P.info? e=some inf) (w:World) (ad:Option Addr) (len cap l h:Nat) (lo hi:Option Value) (h1:l<=h) (h2:h<=cap)
  (hlo:(lo=none/\l=0)\/∃ k,lo=some (.int k l)) (hhi:(hi=none/\h=len)\/∃ k,hi=some (.int k h)) :
  (Instr.sliceAt t (.slice ad len cap) lo hi none).run P w=.ok (.slice (if cap=l then ad else ad.map (·.add (l*inf.size))) (h-l) (cap-l)) w:=by
 have hb:∀ (n y:Nat) (k:IntKind) (cd:BoundsCode),n<=y->(Instr.sliceBound (.int k n) y cd).run P w=.ok n w:=fun n y k cd hn=>by
  have:(n:Int)<=(y:Int):=by omega
  simp[Instr.sliceBound,asIntOf,this]
 have hbounds:(Instr.sliceBounds true len cap lo hi none).run P w=.ok (l,h,cap) w:=by
  rcases hlo with⟨rfl,rfl⟩ | ⟨k,rfl⟩ <;> rcases hhi with⟨rfl,rfl⟩ | ⟨k',rfl⟩
  ·simp[Instr.sliceBounds]
  ·simp[Instr.sliceBounds,hb _ _ _ _ h2]
  ·simp[Instr.sliceBounds,hb _ _ _ _ h1]
  simp[Instr.sliceBounds,hb _ _ _ _ h1,hb _ _ _ _ h2]
 simp[Instr.sliceAt,run_underlying hu,Instr.slice,hbounds,sizeOf,typeInfo,hinf]
theorem ybm1 {σ:St} {a:Act} {w:World} {L:Lab} {l1:LS} {Q:Ex->LS->Prop} (hR:Rel P N N w0 A I σ a w L) (hr:refsOk l1=true) (hl:readL σ l1=l1) (hq:Q .normal l1) :
  lift P N w0 A I (fun e σ=>∃ l',(σ=ofL l'\/agree l' σ)/\Q e l') .normal a w:=⟨σ,L,hR,l1,.inr (yaj hr hl),hq⟩
theorem yvw1 {α:Type} {l:List α} {n:Nat} (z:α) (h:n<=l.length):(l.take n++List.replicate (l.length-n) z).length=l.length:=by simp;omega
theorem yww1 {rows:List (List C)} {n i:Nat} {z row:List C} (h:(rows.take n++List.replicate (rows.length-n) z)[i]?=some row) (hn:n<=rows.length):(i<n/\rows[i]?=some row)\/(n<=i/\i<rows.length/\row=z):=by
 by_cases hi:i<n
 ·left
  rw[List.getElem?_append_left (by simp;omega)] at h
  exact⟨hi,(yho h).2⟩
 right
 rw[List.getElem?_append_right (by simp;omega)] at h
 simp only[List.length_take] at h
 obtain⟨h1,h2⟩:=List.getElem?_eq_some_iff.1 h
 simp at h1 h2
 exact⟨by omega,by omega,h2.symm⟩
theorem yot1 {e:TypeId} {z:List C} (hz:zeroC P e=some z) (hraw:rawRow z=true):∃ i zv,P.info? e=some i/\i.zero=some zv/\zv.cells.size=i.size/\z.length=i.size/\∀ j v,z[j]?=some (.raw v)->zv.cells.getD j undef=v:=by
 obtain⟨i,zv,hi,hzv,hzs,hl,hr⟩:=yds hz
 refine⟨i,zv,hi,hzv,hzs,hl,fun j v hj=>?_⟩
 exact(hr (fun _=>False) (fun _=>none) default 0 j (.raw v) [] hj).raw_eq
theorem ygf1 {zs:Array Value} {n:Nat}:(Builtin.zeroCells zs n).size=n*zs.size/\∀ i o,i<n->o<zs.size->(Builtin.zeroCells zs n).getD (i*zs.size+o) undef=zs.getD o undef:=by
 refine⟨by simp[Builtin.zeroCells],fun i o hi ho=>?_⟩
 have hlt:i*zs.size+o<n*zs.size:=by
  calc i*zs.size+o<i*zs.size+zs.size:=by omega
   _=(i+1)*zs.size:=by rw[Nat.add_mul,Nat.one_mul]
   _<=n*zs.size:=Nat.mul_le_mul_right _ (by omega)
 have hmod:(i*zs.size+o) % zs.size=o:=by
  rw[Nat.add_comm,Nat.add_mul_mod_self_right,Nat.mod_eq_of_lt ho]
 simp[Builtin.zeroCells,Array.getD_eq_getD_getElem?,hlt,hmod,ho]
structure Wrote (w w':World) (g:Nat) (arr':Array Value) (e:TypeId):Prop where
 at':w'.heap[g]?=some (.cells arr' e (0,0))
 oth:∀ b,b≠g->w'.heap[b]?=w.heap[b]?
 size:w'.heap.size=w.heap.size
 os:w'.os=w.os
 tape:w'.tape=w.tape
 output:w'.output=w.output
theorem ycm1 {w:World} {g:Nat} {arr:Array Value} {e:TypeId} (h:w.heap[g]?=some (.cells arr e (0,0))):Wrote w w g arr e:=⟨h,fun _ _=>rfl,rfl,rfl,rfl,rfl⟩
theorem yad1 {w:World} {g:Nat} {arr:Array Value} {e:TypeId} (h:w.heap[g]?=some (.cells arr e (0,0))) (arr':Array Value):Wrote w (w.setRow g arr') g arr' e :=
 ⟨setRow_heap w g arr arr' e (0,0) h,fun b hb=>setRow_other w g b arr' hb,by simp,rfl,rfl,rfl⟩
theorem yxw1 {i o n sz:Nat} (hi:i<n) (ho:o<sz):i*sz+o<n*sz:=by
 calc i*sz+o<i*sz+sz:=by omega
  _=(i+1)*sz:=by rw[Nat.add_mul,Nat.one_mul]
  _<=n*sz:=Nat.mul_le_mul_right _ (by omega)
theorem yji1 {t e ty:TypeId} {inf:TypeInfo} {zv:Value} (hu:P.underlying t=some (.slice e)) (hi:P.info? e=some inf) (hz:inf.zero=some zv) (hzs:zv.cells.size=inf.size) (h1:∀ v∈zv.cells.toList,v.oneCell'=true)
  {w:World} {g cap n len:Nat} {arr:Array Value} (hg:w.heap[g]?=some (.cells arr e (0,0))) (ha:arr.size=cap*inf.size) (hn:n<=len) (hl:len<=cap) :
  ∃ w' arr',(Builtin.clear_ #[t] ty #[.slice (if cap=n then some ⟨g,0,none⟩ else(some (⟨g,0,none⟩:Addr)).map (·.add (n*inf.size))) (len-n) (cap-n)]).run P w=.ok (.tuple #[]) w'/\Wrote w w' g arr' e/\arr'.size=arr.size /\
   (∀ i o,i<n->o<inf.size->arr'.getD (i*inf.size+o) undef=arr.getD (i*inf.size+o) undef)/\∀ i o,n<=i->i<len->o<inf.size->arr'.getD (i*inf.size+o) undef=zv.cells.getD o undef:=by
 by_cases h0:len-n=0
 ·refine⟨w,arr,?_,ycm1 hg,rfl,fun _ _ _ _=>rfl,fun i o h2 h3 _=>by omega⟩
  rw[h0];cases hq:(if cap=n then some (⟨g,0,none⟩:Addr) else(some (⟨g,0,none⟩:Addr)).map (·.add (n*inf.size))) <;> simp[Builtin.clear_,run_underlying hu]
 have hne:¬ cap=n:=by omega
 obtain⟨z1,z2⟩:=ygf1 (zs:=zv.cells) (n:=len-n)
 have hb:n*inf.size+(len-n)*inf.size<=arr.size:=by
  rw[ha,← Nat.add_mul];exact Nat.mul_le_mul_right _ (by omega)
 have hst:=run_storeCells_at (P:=P) g (n*inf.size) e (Builtin.zeroCells zv.cells (len-n)).toList 0 arr w hg (by simp only[Array.length_toList,z1,hzs];omega) (fun v hv=>by
  simp only[Builtin.zeroCells,Array.toList_map,List.mem_map] at hv;obtain⟨j,_,rfl⟩:=hv;by_cases hs:zv.cells.size=0
  ·have:zv.cells=#[]:=by simpa using hs
   rw[this];rfl
  have:j % zv.cells.size<zv.cells.size:=Nat.mod_lt _ (by omega)
  exact h1 _ (by simp[this]))
 simp only[Nat.add_zero] at hst
 obtain⟨s1,s2⟩:=ygq (arr:=arr) (vs:=Builtin.zeroCells zv.cells (len-n)) (off:=n*inf.size) (by rw[z1,hzs];exact hb)
 rw[Array.length_toList] at hst
 refine⟨_,_,?_,yad1 hg _,s1,fun i o h2 h3=>?_,fun i o h2 h3 h4=>?_⟩
 ·obtain⟨m,hm⟩:∃ m,len-n=m+1:=⟨len-n-1,by omega⟩
  rw[if_neg hne];simp only[Option.map_some,Addr.add_lit,Nat.zero_add];have hrz:∀ w,(zeroValue e).run P w=.ok zv w:=fun w=>by simp[zeroValue,typeInfo,hi,hz]
  rw[hm] at hst ⊢
  simp[Builtin.clear_,run_underlying hu,hrz,hst]
 ·rw[s2,if_neg]
  have:=yxw1 h2 h3
  omega
 rw[s2,if_pos]
 ·have e1:i*inf.size+o-n*inf.size=(i-n)*zv.cells.size+o:=by
   rw[hzs,Nat.sub_mul];have:n*inf.size<=i*inf.size:=Nat.mul_le_mul_right _ h2
   omega
  rw[e1];exact z2 (i-n) o (by omega) (by omega)
 rw[z1,hzs]
 have k1:n*inf.size<=i*inf.size:=Nat.mul_le_mul_right _ h2
 have k2:=yxw1 h3 h4
 have k3:n*inf.size+(len-n)*inf.size=len*inf.size:=by rw[← Nat.add_mul];congr 1;omega
 omega
theorem Rel.wr_self {σ:St} {a:Act} {w:World} {L:Lab} (hR:Rel P N N w0 A I σ a w L) {r:Nat} {x:SV} (hx:σ r=x) (hr:isRoot x=true):Rel P N N w0 A I (wrS σ r x) a w L:=by
 refine hR.forget fun s=>?_
 unfold wrS
 by_cases hs:s=r
 ·subst hs
  rw[if_pos rfl];right
  refine⟨hx.symm,fun r' h=>?_⟩
  rw[hx] at h;rw[ylk1 h] at hr;cases hr
 rw[if_neg hs]
 rcases ymm r (σ s) with⟨h1,h2⟩ | h1
 ·right
  refine⟨h1,fun r' h=>?_⟩
  have hne:r'≠r:=fun h3=>h2 (h3▸h)
  rw[if_neg hne];have:=hR.slot s
  have hroot:isRoot (σ r')=true:=by
   cases hs2:σ s <;> rw[hs2] at h this <;> simp only[refOf] at h <;> first | (cases h;done) | skip
   ·rw[← Option.some.inj h];exact this.1
   rw[← Option.some.inj h];exact this.1
  exact yii hroot
 exact .inl h1
theorem yyw1 {id d1 d2 d3 s i:Nat} {m1 m2 o3 o4:Oper} {l0:LS} (l1:LS) {t e:TypeId} {sz:Nat} {k:IntKind} {n:Int} {rows rows':List (List C)} {z:List C}
  (h1:m1.op=.move (.tmp s)/\m1.guard=none/\m1.dst=some d1) (h2:m2.op=.move (.tmp i)/\m2.guard=none/\m2.dst=some d2)
  (h3:o3.op=.slice t (.tmp d1) (some (.tmp d2)) none none/\o3.guard=none/\o3.dst=some d3) (h4:o4.op=.call { callee:=.builtin .clear,args:=#[.tmp d3],argTypes:=#[t] }/\o4.guard=none/\o4.dst=none)
  (hne:(d1 != i&&d1 != d2)=true) (hE:slE P t=some (e,sz)) (hz:zeroC P e=some z) (hzr:rawRow z=true)
  (hs:ofL l0 s=.ov false [.sl (some e) rows]) (hi:ofL l0 i=.p (.int k n)) (hr1:refsOk l1=true)
  (hl1:readL (put (put (put (wrS (ofL l0) s (.ov false [.sl (some e) rows'])) d1 .u) d2 .u) d3 .u) l1=l1)
  (hn0:0<=n) (hn:n<=rows.length) (hraw:∀ row∈rows,rawRow row=true) (hrows:rows.take n.toNat++List.replicate (rows.length-n.toNat) z=rows') :
  RegOk P N (.region id [m1,m2,o3,o4].toArray false) l0 l1:=by
 intro Q hq k' hB w0 A I a w L hI hR
 have hd:∀ x∈[m1,m2,o3,o4],∀ d,x.dst=some d->I.pins.length<=d/\d<N:=fun x hx d hd=>by
  have:=List.all_eq_true.1 hB x (by simpa using hx)
  rw[hd] at this;rw[hI];simpa using this
 obtain⟨p1,p2,p3⟩:=h1
 obtain⟨q1,q2,q3⟩:=h2
 obtain⟨u1,u2,u3⟩:=h3
 obtain⟨v1,v2,v3⟩:=h4
 have hd1:=hd m1 (by simp) d1 p3
 have hd2:=hd m2 (by simp) d2 q3
 have hd3:=hd o3 (by simp) d3 u3
 simp only[Bool.and_eq_true,bne_iff_ne] at hne
 obtain⟨m,rfl⟩:∃ m:Nat,n=m:=⟨n.toNat,by omega⟩
 have hm:m<=rows.length:=by omega
 simp only[Int.toNat_natCast] at hrows
 obtain⟨inf,hu,hinf,hsz,hes⟩:=yrk hE
 obtain⟨inf',zv,hinf',hzv,hzs,hzl,hzg⟩:=yot1 hz hzr
 rw[hinf] at hinf'
 obtain rfl:=Option.some.inj hinf'
 have hiv:a.eval (.tmp i)=.int k m:=by have:=hR.slot i;rw[hi] at this;exact this
 have hN:=hR.siz
 have hlen':rows'.length=rows.length:=by rw[← hrows];exact yvw1 z hm
 -- the value that is cut,and what is done with it
 have key:∃ (ad:Option Addr) (cap:Nat) (w':World) (L':Lab),a.eval (.tmp s)=.slice ad rows.length cap/\m<=cap/\rows.length<=cap /\
   (Builtin.clear_ #[t] o4.type #[.slice (if cap=m then ad else ad.map (·.add (m*inf.size))) (rows.length-m) (cap-m)]).run P w=.ok (.tuple #[]) w'/\Rel P N N w0 A I (wrS (ofL l0) s (.ov false [.sl (some e) rows'])) a w' L':=by
  rcases ynp1 hR hs with⟨hv,rfl⟩ | ⟨g,arr,cap,hv,hcap,hmax,ha,hu',hl,hg,hget⟩
  ·have hm0:m=0:=by simpa using hm
   subst hm0;have:rows'=[]:=by rw[← hrows];rfl
   subst this;refine⟨none,0,w,L,hv,Nat.le_refl _,Nat.le_refl _,?_,hR.wr_self hs rfl⟩
   simp[Builtin.clear_,run_underlying hu]
  rw[hes] at ha hu'
  rw[← hsz] at ha hu'
  obtain⟨w',arr',g1,g2,g3,g4,g5⟩:=yji1 (ty:=o4.type) hu hinf hzv hzs (fun v hv=>by
   obtain⟨j,hj⟩:=List.mem_iff_getElem?.1 hv
   have hjl:j<z.length:=by
    have:=(List.getElem?_eq_some_iff.1 hj).1
    simp at this;omega
   obtain⟨x,hx,hxs⟩:=ylq hzr (List.getElem?_eq_getElem hjl)
   have:=hzg j x (by rw[List.getElem?_eq_getElem hjl,hx])
   have e1:zv.cells.getD j undef=v:=by simp at hj;simp[hj]
   rw[← e1,this];exact ybu hxs) hg ha hm hcap
  refine⟨some ⟨g,0,none⟩,cap,w',L,hv,by omega,hcap,g1,?_⟩
  refine hR.rewrite hs hv hl (by rw[hes,← hsz];exact ha) hmax hcap g3 hlen' (fun row hrow=>?_) (fun i row o c h5 h6=>?_) g2.at' g2.oth g2.size g2.os g2.tape g2.output
  ·rw[← hrows,List.mem_append] at hrow
   rw[hes,← hsz];rcases hrow with h | h
   ·exact hu' row (List.mem_of_mem_take h)
   rw[List.eq_of_mem_replicate h];exact hzl
  rw[← hrows] at h5;rw[hes,← hsz];rcases yww1 h5 hm with⟨h7,h8⟩ | ⟨h7,h8,rfl⟩
  ·obtain⟨v,rfl,hvs⟩:=ylq (hraw row (List.mem_of_getElem? h8)) h6
   refine⟨v,rfl,hvs,?_⟩
   have ho:o<inf.size:=by rw[← hu' row (List.mem_of_getElem? h8)];exact(List.getElem?_eq_some_iff.1 h6).1
   rw[g4 i o h7 ho];have:=hget i row o v h8 h6
   rw[hes,← hsz] at this;exact this
  obtain⟨v,rfl,hvs⟩:=ylq hzr h6;refine⟨v,rfl,hvs,?_⟩
  have ho:o<inf.size:=by rw[← hzl];exact(List.getElem?_eq_some_iff.1 h6).1
  rw[g5 i o h7 h8 ho];exact hzg o v h6
 obtain⟨ad,cap,w',L',hsv,hmc,hlc,hrun,hR'⟩:=key
 have hcut:=ygr1 hu hinf w ad rows.length cap m rows.length (some (.int k m)) none hm hlc (.inr ⟨k,rfl⟩) (.inl ⟨rfl,rfl⟩)
 refine wp_region ?_
 have e0:List.range [m1,m2,o3,o4].toArray.size=[0,1,2,3]:=rfl
 rw[e0]
 refine yhp (o:=m1) rfl p2 (ykj p1) ?_
 rw[p3]
 refine yhp (o:=m2) rfl q2 (ykj q1) ?_
 rw[q3,ywi (hN▸hd1.2),if_neg (fun h=>hne.1 h.symm),hiv,hsv]
 have ev1:∀ v,((a.put (some d1) (.slice ad rows.length cap)).put (some d2) v).eval (.tmp d1)=.slice ad rows.length cap:=fun v=>by
  rw[ywi (by rw[ygd];exact hN▸hd2.2),if_neg hne.2,ywi (hN▸hd1.2),if_pos rfl]
 have ev2:((a.put (some d1) (.slice ad rows.length cap)).put (some d2) (.int k m)).eval (.tmp d2)=.int k m:=by
  rw[ywi (by rw[ygd];exact hN▸hd2.2),if_pos rfl]
 refine yhp (o:=o3) (w':=w) rfl u2 (v:=.slice (if cap=m then ad else ad.map (·.add (m*inf.size))) (rows.length-m) (cap-m)) ?_ ?_
 ·simp only[execOp,u1,Option.map_some,Option.map_none,ev1,ev2]
  rw[Sem.run_bind,hcut];rfl
 rw[u3]
 refine yhp (o:=o4) (w':=w') rfl v2 (v:=.tuple #[]) ?_ ?_
 ·have ev3:∀ (a:Act) v,a.tmps.size=N->(a.put (some d3) v).eval (.tmp d3)=v:=fun a v h=>by rw[ywi (h▸hd3.2),if_pos rfl]
  have ev4:=ev3 ((a.put (some d1) (.slice ad rows.length cap)).put (some d2) (.int k m)) (.slice (if cap=m then ad else ad.map (·.add (m*inf.size))) (rows.length-m) (cap-m)) (by rw[ygd,ygd];exact hN)
  simp[execOp,v1,resolve,invoke,builtin,ev4,hrun]
 rw[v3]
 simp only[wpOps]
 obtain⟨L1,r1⟩:=hR'.putU hd1 (.slice ad rows.length cap)
 obtain⟨L2,r2⟩:=r1.putU hd2 (.int k m)
 obtain⟨L3,r3⟩:=r2.putU hd3 (.slice (if cap=m then ad else ad.map (·.add (m*inf.size))) (rows.length-m) (cap-m))
 exact ybm1 r3 hr1 hl1 hq
end Go.PV

/-
 A walk over pure values: what a slice owns cut off behind;slices copied.
 Conditions: none.
-/
namespace Go.PV
variable {P:Program} {N:Nat} {w0:World} {A:Nat->Prop} {I:Bor}
theorem yzw1 {id d1 d2 d3 d4 s i:Nat} {m1 m2 o3 o4:Oper} {l0:LS} (l1:LS) {t e:TypeId} {sz:Nat} {k:IntKind} {n:Int} {rows rows':List (List C)}
  (h1:m1.op=.move (.tmp s)/\m1.guard=none/\m1.dst=some d1) (h2:m2.op=.move (.tmp i)/\m2.guard=none/\m2.dst=some d2)
  (h3:o3.op=.slice t (.tmp d1) none (some (.tmp d2)) none/\o3.guard=none/\o3.dst=some d3) (h4:o4.op=.assign (.tmp d3)/\o4.guard=none/\o4.dst=some d4)
  (hne:(d1 != i&&d1 != d2&&s != d1&&s != d2&&s != d3)=true) (hE:slE P t=some (e,sz))
  (hs:ofL l0 s=.ov false [.sl (some e) rows]) (hi:ofL l0 i=.p (.int k n)) (hr1:refsOk l1=true)
  (hs3:put (put (put (ofL l0) d1 .u) d2 .u) d3 .u s=.ov false [.sl (some e) rows])
  (hl1:readL (put (gone (put (put (put (ofL l0) d1 .u) d2 .u) d3 .u) s) d4 (.ov false [.sl (some e) rows'])) l1=l1)
  (hn0:0<=n) (hn:n<=rows.length) (hrows:rows.take n.toNat=rows') :
  RegOk P N (.region id [m1,m2,o3,o4].toArray false) l0 l1:=by
 intro Q hq k' hB w0 A I a w L hI hR
 have hd:∀ x∈[m1,m2,o3,o4],∀ d,x.dst=some d->I.pins.length<=d/\d<N:=fun x hx d hd=>by
  have:=List.all_eq_true.1 hB x (by simpa using hx)
  rw[hd] at this;rw[hI];simpa using this
 obtain⟨p1,p2,p3⟩:=h1
 obtain⟨q1,q2,q3⟩:=h2
 obtain⟨u1,u2,u3⟩:=h3
 obtain⟨v1,v2,v3⟩:=h4
 have hd1:=hd m1 (by simp) d1 p3
 have hd2:=hd m2 (by simp) d2 q3
 have hd3:=hd o3 (by simp) d3 u3
 have hd4:=hd o4 (by simp) d4 v3
 simp only[Bool.and_eq_true,bne_iff_ne] at hne
 obtain⟨⟨⟨⟨ne1,ne2⟩,ne3⟩,ne4⟩,ne5⟩:=hne
 obtain⟨m,rfl⟩:∃ m:Nat,n=m:=⟨n.toNat,by omega⟩
 have hm:m<=rows.length:=by omega
 simp only[Int.toNat_natCast] at hrows
 obtain⟨inf,hu,hinf,hsz,hes⟩:=yrk hE
 have hiv:a.eval (.tmp i)=.int k m:=by have:=hR.slot i;rw[hi] at this;exact this
 have hN:=hR.siz
 obtain⟨ad,cap,hsv,hcap⟩:∃ ad cap,a.eval (.tmp s)=.slice ad rows.length cap/\rows.length<=cap:=by
  rcases ynp1 hR hs with⟨hv,rfl⟩ | ⟨g,arr,cap,hv,hcap,_⟩
  ·exact⟨none,0,hv,Nat.le_refl _⟩
  exact⟨_,cap,hv,hcap⟩
 have hcut:=ygr1 hu hinf w ad rows.length cap 0 m none (some (.int k m)) (Nat.zero_le _) (by omega) (.inl ⟨rfl,rfl⟩) (.inr ⟨k,rfl⟩)
 have hval:(Value.slice (if cap=0 then ad else ad.map (·.add (0*inf.size))) (m-0) (cap-0))=.slice ad m cap:=by
  have:ad.map (·.add (0*inf.size))=ad:=by cases ad <;> simp[Addr.add]
  rw[this];split <;> rfl
 rw[hval] at hcut
 refine wp_region ?_
 have e0:List.range [m1,m2,o3,o4].toArray.size=[0,1,2,3]:=rfl
 rw[e0]
 refine yhp (o:=m1) rfl p2 (ykj p1) ?_
 rw[p3]
 refine yhp (o:=m2) rfl q2 (ykj q1) ?_
 rw[q3,ywi (hN▸hd1.2),if_neg (fun h=>ne1 h.symm),hiv,hsv]
 have ev1:∀ v,((a.put (some d1) (.slice ad rows.length cap)).put (some d2) v).eval (.tmp d1)=.slice ad rows.length cap:=fun v=>by
  rw[ywi (by rw[ygd];exact hN▸hd2.2),if_neg ne2,ywi (hN▸hd1.2),if_pos rfl]
 have ev2:((a.put (some d1) (.slice ad rows.length cap)).put (some d2) (.int k m)).eval (.tmp d2)=.int k m:=by
  rw[ywi (by rw[ygd];exact hN▸hd2.2),if_pos rfl]
 refine yhp (o:=o3) (w':=w) rfl u2 (v:=.slice ad m cap) ?_ ?_
 ·simp only[execOp,u1,Option.map_some,Option.map_none,ev1,ev2]
  rw[Sem.run_bind,hcut];rfl
 rw[u3]
 refine yhp (o:=o4) (w':=w) rfl v2 (v:=.slice ad m cap) ?_ ?_
 ·rw[yoj1 v1,ywi (by rw[ygd,ygd];exact hN▸hd3.2),if_pos rfl]
 rw[v3]
 simp only[wpOps]
 obtain⟨L1,r1⟩:=hR.putU hd1 (.slice ad rows.length cap)
 obtain⟨L2,r2⟩:=r1.putU hd2 (.int k m)
 obtain⟨L3,r3⟩:=r2.putU hd3 (.slice ad m cap)
 have hts:tmOf (((a.put (some d1) (.slice ad rows.length cap)).put (some d2) (.int k m)).put (some d3) (.slice ad m cap)) s=.slice ad rows.length cap:=by
  rw[← hsv];show(((a.put _ _).put _ _).put _ _).eval (.tmp s)=_
  rw[ywi (by rw[ygd,ygd];exact hN▸hd3.2),if_neg ne5,ywi (by rw[ygd];exact hN▸hd2.2),if_neg ne4,ywi (hN▸hd1.2),if_neg ne3]
 have h1:=r3.takeN s
 have h2:=h1.put hd4 (sv:=.ov false [.sl (some e) rows']) (tv:=.slice ad m cap) (by
  refine⟨⟨rfl,rfl⟩,fun j c hj=>?_⟩
  cases j with
  | succ j=>simp at hj
  | zero =>
   simp at hj
   subst hj;show Rep P _ _ w N [(0,0)] (.slice ad m cap) _
   rcases ynp1 r3 hs3 with⟨hv,hr0⟩ | ⟨g,arr,cap',hv,hcap',hmax,ha,hu',hl,hg,_⟩
   ·rw[hts] at hv
    simp only[Value.slice.injEq] at hv;obtain⟨rfl,_,rfl⟩:=hv;have hm0:m=0:=by rw[hr0] at hm;simpa using hm
    subst hm0;rw[← hrows];exact .onil
   rw[hts] at hv;simp only[Value.slice.injEq] at hv;obtain⟨rfl,_,rfl⟩:=hv;have hml:rows'.length=m:=by rw[← hrows,List.length_take];omega
   have key:Rep P (Zof w0 A (mapL L3 s (toN N)) w) (mapL L3 s (toN N)) w N [(0,0)] (.slice (some ⟨g,0,none⟩) rows'.length cap) (.sl (some e) rows'):=by
    refine Rep.own (by simp[mapL,hl,toN]) hg (by omega) hmax ha (fun row hr=>hu' row ?_) fun i row o c h5 h6=>?_
    ·rw[← hrows] at hr;exact List.mem_of_mem_take hr
    rw[← hrows] at h5;have h7:=(yho h5).2
    have hslot:=r3.slot s;rw[hs3] at hslot;have hrep:=hslot.2 0 _ rfl;have hc1:(tmOf (((a.put (some d1) (.slice (some ⟨g,0,none⟩) rows.length cap)).put (some d2) (.int k m)).put (some d3) (.slice (some ⟨g,0,none⟩) m cap)) s).cells.getD 0 undef=.slice (some ⟨g,0,none⟩) rows.length cap:=by rw[hts];rfl
    rw[hc1] at hrep;rcases hrep.node with⟨h8,_⟩ | ⟨b,arr2,cap2,h8,_,_,_,_,hn⟩
    ·cases h8
    simp only[Value.slice.injEq,Option.some.injEq,Addr.mk.injEq] at h8;obtain⟨⟨rfl,_⟩,_⟩:=h8;have h9:=hn.heap;rw[hg] at h9;simp only[Option.some.injEq,Obj.cells.injEq] at h9;obtain⟨rfl,_⟩:=h9
    refine(hn.kids i row o c h7 h6).move _ (fun b h=>⟨⟨by simp[mapL,h.1],h.2⟩,rfl⟩) fun b q hb=>⟨?_,rfl⟩
    simp[mapL,hb,toN]
   rw[hml] at key;exact key)
 exact ybm1 h2 hr1 hl1 hq
def seqOk (ops:Array Oper):List (Nat×Bool)->Array Bool->Bool
 | [],listed=>(Region.ready .any ops listed).isEmpty
 | (i,fr)::l,listed=>(match ops[i]? with | some o=>o.guard.isNone | none=>false) &&
   (if fr then Region.free .any ops listed i&&(Region.ready .any ops listed).contains i else Region.ready .any ops listed==[i])&&seqOk ops l (listed.setIfInBounds i true)
def wpSeq (P:Program) (ops:Array Oper) (Q:Exit->Act->World->Prop):List (Nat×Bool)->Act->World->Prop
 | [],a,w=>Q .normal a w
 | (i,fr)::l,a,w=>match ops[i]? with
  | some o=>if fr then ∃ v,(∀ w,(execOp a.eval o).run P w=.ok (.value v) w)/\wpSeq P ops Q l (a.put o.dst v) w else o.wp P a w (wpSeq P ops Q l) Q
  | none=>False
end Go.PV

/-
 A walk over pure values: slices copied,at elements of one cell.
 Conditions: none.
-/
namespace Go.PV
variable {P:Program} {N:Nat} {w0:World} {A:Nat->Prop} {I:Bor}
def copyAt {α:Type} (xs:List α) (n:Nat) (ys:List α):List α:=xs.take n++ys.take (xs.length-n)++xs.drop (n+min ys.length (xs.length-n))
theorem row1 {row:List C} (h1:row.length=1) (h2:rawRow row=true):∃ v,row=[.raw v]/\scal v=true:=by
 match row,h1 with
 | [c],_ =>
  obtain⟨v,rfl,hv⟩:=ylq h2 (o:=0) rfl
  exact⟨v,rfl,hv⟩
def putsA (a:Act):List (Nat×Value)->Act
 | []=>a
 | (d,v)::l=>putsA (a.put (some d) v) l
def order9:List (Nat×Bool):=[(0,true),(1,true),(2,true),(3,true),(4,true),(5,true),(6,true),(7,false),(8,false),(9,false)]
end Go.PV

/-
 A walk over pure values: two elements of a slice exchanged,in whatever order.
 Conditions: none.
-/
namespace Go.PV
variable {P:Program} {N:Nat} {w0:World} {A:Nat->Prop} {I:Bor}
inductive Stp where
 | free (i:Nat)
 | one (i:Nat)
 | two (i j:Nat)
def stpLen:List Stp->Nat
 | []=>0
 | .two _ _::l=>stpLen l+2
 | _::l=>stpLen l+1
def opOk (ops:Array Oper) (i:Nat):Bool:=match ops[i]? with
 | some o=>o.guard.isNone
 | none=>false
def apart2 (ops:Array Oper) (i j:Nat):Bool:=match ops[i]?,ops[j]? with
 | some o,some p=>o.apart ops p
 | _,_=>false
def stpOk (ops:Array Oper):List Stp->Array Bool->Bool
 | [],listed=>(Region.ready .any ops listed).isEmpty
 | .free i::l,listed=>opOk ops i&&(Region.free .any ops listed i&&(Region.ready .any ops listed).contains i)&&stpOk ops l (listed.setIfInBounds i true)
 | .one i::l,listed=>opOk ops i&&(Region.ready .any ops listed==[i])&&stpOk ops l (listed.setIfInBounds i true)
 | .two i j::l,listed=>(opOk ops i&&opOk ops j&&apart2 ops i j&&i != j)&&(Region.ready .any ops listed==[i,j]&&Region.ready .any ops (listed.setIfInBounds i true)==[j]&&Region.ready .any ops (listed.setIfInBounds j true)==[i]) &&
   stpOk ops l ((listed.setIfInBounds i true).setIfInBounds j true)
def wpStp (P:Program) (ops:Array Oper) (Q:Exit->Act->World->Prop):List Stp->Act->World->Prop
 | [],a,w=>Q .normal a w
 | .free i::l,a,w=>∃ o v,ops[i]?=some o/\(∀ w,(execOp a.eval o).run P w=.ok (.value v) w)/\wpStp P ops Q l (a.put o.dst v) w
 | .one i::l,a,w=>∃ o,ops[i]?=some o/\o.wp P a w (wpStp P ops Q l) Q
 | .two i j::l,a,w=>∃ o p v u,ops[i]?=some o/\ops[j]?=some p/\(execOp a.eval o).run P w=.ok (.value v) w/\(execOp a.eval p).run P w=.ok (.value u) w/\wpStp P ops Q l ((a.put o.dst v).put p.dst u) w
theorem ydm1 {ops:Array Oper} {i:Nat} {o:Oper} (h:opOk ops i=true) (ho:ops[i]?=some o) (tm:Array Value):Region.wanted o (yielded ops tm)=true:=by
 unfold opOk at h
 rw[ho] at h
 simp only[Option.isNone_iff_eq_none] at h
 unfold Region.wanted;rw[h]
theorem ypt1 {listed:Array Bool} {i j:Nat} (h:i≠j):(listed.setIfInBounds j true).setIfInBounds i true=(listed.setIfInBounds i true).setIfInBounds j true:=by
 refine Array.ext_getElem? fun k=>?_
 simp only[Array.getElem?_setIfInBounds,Array.size_setIfInBounds]
 by_cases h1:i=k <;> by_cases h2:j=k <;> simp_all
theorem yfv {ops:Array Oper} {Q:Exit->Act->World->Prop} (hs:Region.noSelect ops=true) (hQ:∀ c a w,¬ Q (.panic c) a w):∀ (l:List Stp) (listed:Array Bool) (a:Act) (w:World),
  stpOk ops l listed=true->wpStp P ops Q l a w->wpAny P .any ops Q (stpLen l) listed a w
 | [],listed,a,w,h1,h2=>wpAny_done (by simpa [stpOk] using h1) h2 0
 | .free i::l,listed,a,w,h1,h2=>by
  simp only[stpOk,Bool.and_eq_true] at h1;obtain⟨⟨hg,hf⟩,hr⟩:=h1;obtain⟨o,v,ho,h3,h4⟩:=h2;exact wpAny_take ho hs hf.1 hf.2 (fun c a w h=>absurd h (hQ c _ _)) (.inl ⟨ydm1 hg ho _,h3⟩) (yfv hs hQ l _ _ w hr h4)
 | .one i::l,listed,a,w,h1,h2=>by
  simp only[stpOk,Bool.and_eq_true,beq_iff_eq] at h1;obtain⟨⟨hg,hf⟩,hr⟩:=h1;obtain⟨o,ho,h2⟩:=h2;refine wpAny_all hf (by simp) fun j hj=>?_
  simp at hj
  subst hj;unfold wpOp;rw[ho];simp only[ydm1 hg ho,if_true];left
  exact Oper.wp_mono (fun a w h=>yfv hs hQ l _ a w hr h) h2
 | .two i j::l,listed,a,w,h1,h2=>by
  simp only[stpOk,Bool.and_eq_true,beq_iff_eq,bne_iff_ne] at h1;obtain⟨⟨⟨⟨⟨hg1,hg2⟩,hap⟩,hne⟩,⟨hf1,hf2⟩,hf3⟩,hr⟩:=h1;obtain⟨o,p,v,u,ho,hp,h3,h4,h5⟩:=h2;unfold apart2 at hap
  rw[ho,hp] at hap;simp only at hap
  obtain⟨k1,k2,k3⟩:=Oper.apart_spec hap;have hsel:∀ {k:Nat} {x:Oper},ops[k]?=some x->∀ cs b,x.op≠.select cs b:=fun {k x} hx cs b=>Region.noSelect_spec hs k x cs b hx
  have hrest:=yfv hs hQ l _ _ w hr h5;have step:∀ {k:Nat} {x:Oper} {y:Value} {listed':Array Bool} {a':Act} {m:Nat},opOk ops k=true->ops[k]?=some x->Region.ready .any ops listed'=[k]->(execOp a'.eval x).run P w=.ok (.value y) w ->
    wpAny P .any ops Q m (listed'.setIfInBounds k true) (a'.put x.dst y) w->wpAny P .any ops Q (m+1) listed' a' w:=fun {k x y listed' a' m} hg hx hf he hn=>by
   refine wpAny_all hf (by simp) fun j hj=>?_
   simp at hj
   subst hj;unfold wpOp;rw[hx];simp only[ydm1 hg hx,if_true];exact .inl (yot he hn)
  refine wpAny_all hf1 (by simp) fun k hk=>?_
  simp at hk
  unfold wpOp;rcases hk with rfl | rfl
  ·rw[ho]
   simp only[ydm1 hg1 ho,if_true];refine .inl (yot h3 ?_)
   exact step hg2 hp hf2 (by rw[execOp_put p (hsel hp) a o.dst v k1];exact h4) hrest
  rw[hp];simp only[ydm1 hg2 hp,if_true];refine .inl (yot h4 ?_)
  refine step hg1 ho hf3 (by rw[execOp_put o (hsel ho) a p.dst u k3];exact h3) ?_
  rw[ypt1 hne,← Act.put_comm a v u k2];exact hrest
theorem ypj1 {id:Nat} {ops:Array Oper} {Q:Exit->Act->World->Prop} {a:Act} {w:World} (hm:P.follows .mixedOrders=true) (hs:Region.noSelect ops=true) (hQ:∀ c a w,¬ Q (.panic c) a w) (l:List Stp) (hl:stpLen l=ops.size)
  (h1:stpOk ops l (Array.replicate ops.size false)=true) (h2:wpStp P ops Q l a { w with drawn:=w.drawn+1 }):(Code.region id ops true).wp P Q a w :=
 wp_region_any hm (by have:=yfv hs hQ l _ a _ h1 h2;rwa [hl] at this)
theorem yup {ops:Array Oper} {Q:Exit->Act->World->Prop} {i:Nat} {l:List Stp} {o:Oper} {a:Act} {w:World} (ho:ops[i]?=some o) (v:Value) (h:∀ w,(execOp a.eval o).run P w=.ok (.value v) w) (hn:wpStp P ops Q l (a.put o.dst v) w):wpStp P ops Q (.free i::l) a w :=
 ⟨o,v,ho,h,hn⟩
theorem yem1 {e:TypeId} {g:Bool} {sz:Nat} (ht:tyC P e=some (g,sz)) (hg:g=false->sz=1) {w:World} {b off:Nat} {row:List C} (hl:row.length=sz) (hraw:rawRow row=true) (hc:∀ o v,row[o]?=some (.raw v)->w.cell? ⟨b,off+o,none⟩=some v) :
  ∃ V,(∀ w',w'.heap=w.heap->(Instr.loadAt e (.pointer (some ⟨b,off,none⟩))).run P w'=.ok V w')/\V.cells.size=sz/\(∀ x∈V.cells.toList,x.oneCell'=true)/\∀ o v,row[o]?=some (.raw v)->V.cells.getD o undef=v:=by
 have hex:∀ j,j<sz->∃ v,row[j]?=some (C.raw v)/\scal v=true:=fun j hj=>by
  obtain⟨v,hv,hs⟩:=ylq hraw (List.getElem?_eq_getElem (by omega:j<row.length))
  exact⟨v,by rw[List.getElem?_eq_getElem (by omega:j<row.length),hv],hs⟩
 have hget:∀ o v,row[o]?=some (C.raw v)->(cellsAt w b off sz)[o]?=some v:=fun o v h=>by
  have ho:o<sz:=by rw[← hl];exact(List.getElem?_eq_some_iff.1 h).1
  exact ybm ho (hc o v h)
 have hone:∀ v∈cellsAt w b off sz,v.oneCell'=true:=fun v hv=>by
  obtain⟨j,hj⟩:=List.mem_iff_getElem?.1 hv
  have hjl:j<sz:=by have:=(List.getElem?_eq_some_iff.1 hj).1;rwa [yoc] at this
  obtain⟨v',h1,h2⟩:=hex j hjl;rw[hget j v' h1] at hj;rw[← Option.some.inj hj];exact ybu h2
 have hsh:=yaz (g:=g) hone (fun h=>by rw[yoc];exact hg h)
 refine⟨mkV g (cellsAt w b off sz),fun w' hw'=>?_,by rw[hsh.2];simp[yoc],by rw[hsh.2];simpa using hone,fun o v h=>by rw[hsh.2];simp[hget o v h]⟩
 have hcell:∀ x,w'.cell? x=w.cell? x:=fun x=>by simp[World.cell?,hw']
 have:=ydt ht hg w' b off (fun j hj=>by
  obtain⟨v,h1,_⟩:=hex j hj;exact⟨v,by rw[hcell];exact hc j v h1⟩)
 have e:cellsAt w' b off sz=cellsAt w b off sz:=by
  apply List.ext_getElem?
  intro j;by_cases hj:j<sz
  ·obtain⟨v,h1,_⟩:=hex j hj
   rw[hget j v h1];exact ybm hj (by rw[hcell];exact hc j v h1)
  rw[List.getElem?_eq_none (by rw[yoc];omega),List.getElem?_eq_none (by rw[yoc];omega)]
 rw[e] at this
 simpa [Instr.loadAt,Instr.sureAddr] using this
def orderSwap:List Stp:=[.free 2,.free 3,.free 0,.free 1,.free 4,.free 5,.free 8,.free 9,.free 6,.free 10,.two 7 11,.one 12,.one 13,.one 14,.one 15]
theorem yyz1 {id:Nat} {o0 o1 o2 o3 o4 o5 o6 o7 o8 o9 o10 o11 o12 o13 o14 o15:Oper} {l0:LS} (l1:LS) {t e:TypeId} {g:Bool} {sz:Nat} {rows rows':List (List C)} {i j:Int} {ri rj:List C} (hm:P.follows .mixedOrders=true)
  (h0:o0.op=.move (.tmp 0)/\o0.dst=some 14) (h1:o1.op=.move (.tmp 2)/\o1.dst=some 15) (h2:o2.op=.move (.tmp 0)/\o2.dst=some 16) (h3:o3.op=.move (.tmp 3)/\o3.dst=some 17)
  (h4:o4.op=.move (.tmp 0)/\o4.dst=some 18) (h5:o5.op=.move (.tmp 3)/\o5.dst=some 19) (h6:o6.op=.indexAddr t (.tmp 18) (.tmp 19)/\o6.dst=some 20) (h7:o7.op=.load e (.tmp 20)/\o7.dst=some 21)
  (h8:o8.op=.move (.tmp 0)/\o8.dst=some 22) (h9:o9.op=.move (.tmp 2)/\o9.dst=some 23) (h10:o10.op=.indexAddr t (.tmp 22) (.tmp 23)/\o10.dst=some 24) (h11:o11.op=.load e (.tmp 24)/\o11.dst=some 25)
  (h12:o12.op=.indexAddr t (.tmp 14) (.tmp 15)/\o12.dst=some 26) (h13:o13.op=.store e (.tmp 26) (.tmp 21)/\o13.dst=none) (h14:o14.op=.indexAddr t (.tmp 16) (.tmp 17)/\o14.dst=some 27) (h15:o15.op=.store e (.tmp 27) (.tmp 25)/\o15.dst=none)
  (hseq:(Region.noSelect [o0,o1,o2,o3,o4,o5,o6,o7,o8,o9,o10,o11,o12,o13,o14,o15].toArray&&stpOk [o0,o1,o2,o3,o4,o5,o6,o7,o8,o9,o10,o11,o12,o13,o14,o15].toArray orderSwap (Array.replicate 16 false))=true)
  (hE:slE P t=some (e,sz)) (hT:tyC P e=some (g,sz)) (hg:g=false->sz=1) (hs:ofL l0 0=.ov false [.sl (some e) rows]) (hi:ofL l0 2=.p (.int .i64 i)) (hj:ofL l0 3=.p (.int .i64 j)) (hr1:refsOk l1=true)
  (hl1:readL (put (put (put (put (put (put (put (put (put (put (put (put (put (put (wrS (ofL l0) 0 (.ov false [.sl (some e) rows'])) 16 .u) 17 .u) 14 .u) 15 .u) 18 .u) 19 .u) 22 .u) 23 .u) 20 .u) 24 .u) 21 .u) 25 .u) 26 .u) 27 .u) l1=l1)
  (hraw:∀ row∈rows,rawRow row=true) (hi0:0<=i) (hj0:0<=j) (hri:rows[i.toNat]?=some ri) (hrj:rows[j.toNat]?=some rj) (hij:i≠j) (hrows:(rows.set i.toNat rj).set j.toNat ri=rows') :
  RegOk P N (.region id [o0,o1,o2,o3,o4,o5,o6,o7,o8,o9,o10,o11,o12,o13,o14,o15].toArray true) l0 l1:=by
 intro Q hq k' hB w0 A I a w L hI hR
 have hd:∀ x∈[o0,o1,o2,o3,o4,o5,o6,o7,o8,o9,o10,o11,o12,o13,o14,o15],∀ d,x.dst=some d->I.pins.length<=d/\d<N:=fun x hx d hd=>by
  have:=List.all_eq_true.1 hB x (by simpa using hx)
  rw[hd] at this;rw[hI];simpa using this
 have d0:=hd o0 (by simp) 14 h0.2
 have d1:=hd o1 (by simp) 15 h1.2
 have d2:=hd o2 (by simp) 16 h2.2
 have d3:=hd o3 (by simp) 17 h3.2
 have d4:=hd o4 (by simp) 18 h4.2
 have d5:=hd o5 (by simp) 19 h5.2
 have d6:=hd o6 (by simp) 20 h6.2
 have d7:=hd o7 (by simp) 21 h7.2
 have d8:=hd o8 (by simp) 22 h8.2
 have d9:=hd o9 (by simp) 23 h9.2
 have d10:=hd o10 (by simp) 24 h10.2
 have d11:=hd o11 (by simp) 25 h11.2
 have d12:=hd o12 (by simp) 26 h12.2
 have d14:=hd o14 (by simp) 27 h14.2
 simp only[Bool.and_eq_true] at hseq
 obtain⟨m,rfl⟩:∃ m:Nat,i=m:=⟨i.toNat,by omega⟩
 obtain⟨n,rfl⟩:∃ n:Nat,j=n:=⟨j.toNat,by omega⟩
 simp only[Int.toNat_natCast] at hri hrj hrows
 have hmn:m≠n:=by omega
 have hml:m<rows.length:=(List.getElem?_eq_some_iff.1 hri).1
 have hnl:n<rows.length:=(List.getElem?_eq_some_iff.1 hrj).1
 obtain⟨inf,hu,hinf,hsz,hes⟩:=yrk hE
 have hN:=hR.siz
 have hiv:a.eval (.tmp 2)=.int .i64 m:=by have:=hR.slot 2;rw[hi] at this;exact this
 have hjv:a.eval (.tmp 3)=.int .i64 n:=by have:=hR.slot 3;rw[hj] at this;exact this
 rcases ynp1 hR hs with⟨_,h0⟩ | ⟨b,arr,cap,hv,hcap,hmax,ha,hu',hl,hb,hget⟩
 ·rw[h0] at hml;simp at hml
 rw[hes] at ha hu' hget
 have hsv:a.eval (.tmp 0)=.slice (some ⟨b,0,none⟩) rows.length cap:=hv
 have hrl:∀ {k row},rows[k]?=some row->row.length=sz/\rawRow row=true:=fun h=>⟨hu' _ (List.mem_of_getElem? h),hraw _ (List.mem_of_getElem? h)⟩
 have hin:∀ k,k<rows.length->k*sz+sz<=arr.size:=fun k hk=>by
  rw[ha];calc k*sz+sz=(k+1)*sz:=by rw[Nat.add_mul,Nat.one_mul]
   _<=cap*sz:=Nat.mul_le_mul_right _ (by omega)
 have hcell:∀ k row,rows[k]?=some row->∀ o v,row[o]?=some (.raw v)->w.cell? ⟨b,k*sz+o,none⟩=some v:=fun k row hk o v ho=>by
  have h1:=hget k row o v hk ho;have h2:o<sz:=by rw[← (hrl hk).1];exact(List.getElem?_eq_some_iff.1 ho).1
  have h3:=hin k (List.getElem?_eq_some_iff.1 hk).1
  have h4:k*sz+o<arr.size:=by omega
  simp[World.cell?,hb,h4]
  rw[← h1];simp[h4]
 obtain⟨Vi,li1,li2,li3,li4⟩:=yem1 hT hg (hrl hri).1 (hrl hri).2 (hcell m ri hri)
 obtain⟨Vj,lj1,lj2,lj3,lj4⟩:=yem1 hT hg (hrl hrj).1 (hrl hrj).2 (hcell n rj hrj)
 -- the two stores
 have hb1:w.drew.heap[b]?=some (.cells arr e (0,0)):=hb
 have st1:=yxw (P:=P) hT hb1 lj2 lj3 (hin m hml)
 obtain⟨p1,p2⟩:=ygq (arr:=arr) (vs:=Vj.cells) (off:=m*sz) (by rw[lj2];exact hin m hml)
 rw[lj2] at p1 p2
 generalize hA1:(arr.toList.take (m*sz)++Vj.cells.toList++arr.toList.drop (m*sz+sz)).toArray=arr1 at st1 p1 p2
 have W1:=yad1 hb1 arr1
 have st2:=yxw (P:=P) hT W1.at' li2 li3 (by rw[p1];exact hin n hnl)
 obtain⟨q1,q2⟩:=ygq (arr:=arr1) (vs:=Vi.cells) (off:=n*sz) (by rw[li2,p1];exact hin n hnl)
 rw[li2] at q1 q2
 generalize hA2:(arr1.toList.take (n*sz)++Vi.cells.toList++arr1.toList.drop (n*sz+sz)).toArray=arr2 at st2 q1 q2
 have W2:=yad1 W1.at' arr2
 have hR':Rel P N N w0 A I (wrS (ofL l0) 0 (.ov false [.sl (some e) rows'])) a ((w.drew.setRow b arr1).setRow b arr2) L:=by
  refine hR.rewrite hs hv hl (by rw[hes];exact ha) hmax hcap (q1.trans p1) (by rw[← hrows];simp) (fun row hrow=>?_) (fun k row o c h5 h6=>?_) W2.at' (fun b' hb'=>(W2.oth b' hb').trans (W1.oth b' hb')) (W2.size.trans W1.size) (W2.os.trans W1.os) (W2.tape.trans W1.tape) (W2.output.trans W1.output)
  ·rw[hes]
   obtain⟨k,hk⟩:=List.mem_iff_getElem?.1 hrow
   rw[← hrows,List.getElem?_set] at hk;split at hk
   ·split at hk
    ·rw[← Option.some.inj hk];exact(hrl hri).1
    cases hk
   rw[List.getElem?_set] at hk;split at hk
   ·rw[← Option.some.inj hk];exact(hrl hrj).1
   exact(hrl hk).1
  rw[hes];rw[← hrows,List.getElem?_set] at h5;have far:∀ x y o,x≠y->o<sz->¬ (x*sz<=y*sz+o/\y*sz+o<x*sz+sz):=fun x y o hxy ho=>by
   rintro⟨k1,k2⟩
   rcases Nat.lt_or_ge x y with h | h
   ·have:=Nat.mul_le_mul_right sz (show x+1<=y from h)
    rw[Nat.add_mul,Nat.one_mul] at this;omega
   have:=Nat.mul_le_mul_right sz (show y+1<=x from by omega)
   rw[Nat.add_mul,Nat.one_mul] at this;omega
  have fin:∀ {row:List C},rawRow row=true->row.length=sz->row[o]?=some c->(∀ v,row[o]?=some (.raw v)->arr2.getD (k*sz+o) undef=v)->∃ v,c=.raw v/\scal v=true/\arr2.getD (k*sz+o) undef=v:=fun h1 h2 h3 h4=>by
   obtain⟨v,rfl,hvs⟩:=ylq h1 h3;exact⟨v,rfl,hvs,h4 v h3⟩
  split at h5
  ·rename_i hk
   subst hk;rw[if_pos (by simpa using hnl)] at h5;obtain rfl:=Option.some.inj h5
   refine fin (hrl hri).2 (hrl hri).1 h6 fun v hv=>?_
   have ho:o<sz:=by rw[← (hrl hri).1];exact(List.getElem?_eq_some_iff.1 hv).1
   rw[q2,if_pos (by omega),show n*sz+o-n*sz=o from by omega];exact li4 o v hv
  rename_i hk;rw[List.getElem?_set] at h5;split at h5
  ·rename_i hk2
   subst hk2;obtain rfl:=Option.some.inj h5
   refine fin (hrl hrj).2 (hrl hrj).1 h6 fun v hv=>?_
   have ho:o<sz:=by rw[← (hrl hrj).1];exact(List.getElem?_eq_some_iff.1 hv).1
   rw[q2,if_neg (far n m o hk ho),p2,if_pos (by omega),show m*sz+o-m*sz=o from by omega];exact lj4 o v hv
  rename_i hk2;refine fin (hrl h5).2 (hrl h5).1 h6 fun v hv=>?_
  have ho:o<sz:=by rw[← (hrl h5).1];exact(List.getElem?_eq_some_iff.1 hv).1
  rw[q2,if_neg (far n k o hk ho),p2,if_neg (far m k o hk2 ho)];exact hget k row o v h5 hv
 refine ypj1 hm hseq.1 (fun c a w h=>h) orderSwap rfl hseq.2 ?_
 have ee:∀ (a:Act) (d:Nat) (v:Value) (t:Nat),a.tmps.size=N->d<N->(a.put (some d) v).eval (.tmp t)=if t=d then v else a.eval (.tmp t):=fun a d v t h1 h2=>ywi (h1▸h2) t
 have ix:∀ (w:World) (k:Nat),k<rows.length->(Instr.indexAt t (.slice (some ⟨b,0,none⟩) rows.length cap) (.int .i64 k)).run P w=.ok (.pointer (some ⟨b,k*sz,none⟩)) w:=fun w k hk=>by
  have:=yvw hE w b 0 rows.length cap .i64 (k:Int) (by omega) (by simpa using hk)
  simpa using this
 generalize hS:Value.slice (some ⟨b,0,none⟩) rows.length cap=S at hsv ix
 obtain⟨a1,ha1⟩:∃ a1,a1=a.put (some 16) S:=⟨_,rfl⟩
 obtain⟨a2,ha2⟩:∃ a2,a2=a1.put (some 17) (.int .i64 n):=⟨_,rfl⟩
 obtain⟨a3,ha3⟩:∃ a3,a3=a2.put (some 14) S:=⟨_,rfl⟩
 obtain⟨a4,ha4⟩:∃ a4,a4=a3.put (some 15) (.int .i64 m):=⟨_,rfl⟩
 obtain⟨a5,ha5⟩:∃ a5,a5=a4.put (some 18) S:=⟨_,rfl⟩
 obtain⟨a6,ha6⟩:∃ a6,a6=a5.put (some 19) (.int .i64 n):=⟨_,rfl⟩
 obtain⟨a7,ha7⟩:∃ a7,a7=a6.put (some 22) S:=⟨_,rfl⟩
 obtain⟨a8,ha8⟩:∃ a8,a8=a7.put (some 23) (.int .i64 m):=⟨_,rfl⟩
 obtain⟨a9,ha9⟩:∃ a9,a9=a8.put (some 20) (.pointer (some ⟨b,n*sz,none⟩)):=⟨_,rfl⟩
 obtain⟨a10,ha10⟩:∃ a10,a10=a9.put (some 24) (.pointer (some ⟨b,m*sz,none⟩)):=⟨_,rfl⟩
 obtain⟨a11,ha11⟩:∃ a11,a11=a10.put (some 21) Vj:=⟨_,rfl⟩
 obtain⟨a12,ha12⟩:∃ a12,a12=a11.put (some 25) Vi:=⟨_,rfl⟩
 obtain⟨a13,ha13⟩:∃ a13,a13=a12.put (some 26) (.pointer (some ⟨b,m*sz,none⟩)):=⟨_,rfl⟩
 obtain⟨a14,ha14⟩:∃ a14,a14=a13.put (some 27) (.pointer (some ⟨b,n*sz,none⟩)):=⟨_,rfl⟩
 have s1:a1.tmps.size=N:=by rw[ha1,ygd,hN]
 have s2:a2.tmps.size=N:=by rw[ha2,ygd,s1]
 have s3:a3.tmps.size=N:=by rw[ha3,ygd,s2]
 have s4:a4.tmps.size=N:=by rw[ha4,ygd,s3]
 have s5:a5.tmps.size=N:=by rw[ha5,ygd,s4]
 have s6:a6.tmps.size=N:=by rw[ha6,ygd,s5]
 have s7:a7.tmps.size=N:=by rw[ha7,ygd,s6]
 have s8:a8.tmps.size=N:=by rw[ha8,ygd,s7]
 have s9:a9.tmps.size=N:=by rw[ha9,ygd,s8]
 have s10:a10.tmps.size=N:=by rw[ha10,ygd,s9]
 have s11:a11.tmps.size=N:=by rw[ha11,ygd,s10]
 have s12:a12.tmps.size=N:=by rw[ha12,ygd,s11]
 have s13:a13.tmps.size=N:=by rw[ha13,ygd,s12]
 have f1:∀ t,a1.eval (.tmp t)=if t=16 then S else a.eval (.tmp t):=fun t=>by rw[ha1];exact ee a _ _ t hN d2.2
 have f2:∀ t,a2.eval (.tmp t)=if t=17 then .int .i64 n else a1.eval (.tmp t):=fun t=>by rw[ha2];exact ee a1 _ _ t s1 d3.2
 have f3:∀ t,a3.eval (.tmp t)=if t=14 then S else a2.eval (.tmp t):=fun t=>by rw[ha3];exact ee a2 _ _ t s2 d0.2
 have f4:∀ t,a4.eval (.tmp t)=if t=15 then .int .i64 m else a3.eval (.tmp t):=fun t=>by rw[ha4];exact ee a3 _ _ t s3 d1.2
 have f5:∀ t,a5.eval (.tmp t)=if t=18 then S else a4.eval (.tmp t):=fun t=>by rw[ha5];exact ee a4 _ _ t s4 d4.2
 have f6:∀ t,a6.eval (.tmp t)=if t=19 then .int .i64 n else a5.eval (.tmp t):=fun t=>by rw[ha6];exact ee a5 _ _ t s5 d5.2
 have f7:∀ t,a7.eval (.tmp t)=if t=22 then S else a6.eval (.tmp t):=fun t=>by rw[ha7];exact ee a6 _ _ t s6 d8.2
 have f8:∀ t,a8.eval (.tmp t)=if t=23 then .int .i64 m else a7.eval (.tmp t):=fun t=>by rw[ha8];exact ee a7 _ _ t s7 d9.2
 have f9:∀ t,a9.eval (.tmp t)=if t=20 then .pointer (some ⟨b,n*sz,none⟩) else a8.eval (.tmp t):=fun t=>by rw[ha9];exact ee a8 _ _ t s8 d6.2
 have f10:∀ t,a10.eval (.tmp t)=if t=24 then .pointer (some ⟨b,m*sz,none⟩) else a9.eval (.tmp t):=fun t=>by rw[ha10];exact ee a9 _ _ t s9 d10.2
 have f11:∀ t,a11.eval (.tmp t)=if t=21 then Vj else a10.eval (.tmp t):=fun t=>by rw[ha11];exact ee a10 _ _ t s10 d7.2
 have f12:∀ t,a12.eval (.tmp t)=if t=25 then Vi else a11.eval (.tmp t):=fun t=>by rw[ha12];exact ee a11 _ _ t s11 d11.2
 have f13:∀ t,a13.eval (.tmp t)=if t=26 then .pointer (some ⟨b,m*sz,none⟩) else a12.eval (.tmp t):=fun t=>by rw[ha13];exact ee a12 _ _ t s12 d12.2
 have f14:∀ t,a14.eval (.tmp t)=if t=27 then .pointer (some ⟨b,n*sz,none⟩) else a13.eval (.tmp t):=fun t=>by rw[ha14];exact ee a13 _ _ t s13 d14.2
 have xi:∀ {o:Oper} {x y:Operand} {c:Act} {k:Nat} (w:World),o.op=.indexAddr t x y->c.eval x=S->c.eval y=.int .i64 k->k<rows.length->(execOp c.eval o).run P w=.ok (.value (.pointer (some ⟨b,k*sz,none⟩))) w:=fun {o x y c k} w h1 h2 h3 h4=>by
  simp only[execOp,h1,h2,h3];rw[Sem.run_bind,ix w k h4];rfl
 have xl:∀ {o:Oper} {x:Operand} {c:Act} {V p:Value} (w:World),o.op=.load e x->c.eval x=p->(Instr.loadAt e p).run P w=.ok V w->(execOp c.eval o).run P w=.ok (.value V) w:=fun {o x c V p} w h1 h2 h3=>by
  simp only[execOp,h1,h2];rw[Sem.run_bind,h3];rfl
 unfold orderSwap
 refine yup (o:=o2) rfl S (fun w=>by rw[ykj h2.1,hsv]) ?_
 rw[h2.2,← ha1]
 refine yup (o:=o3) rfl (.int .i64 n) (fun w=>by rw[ykj h3.1];simp[f1,hjv]) ?_
 rw[h3.2,← ha2]
 refine yup (o:=o0) rfl S (fun w=>by rw[ykj h0.1];simp[f2,f1,hsv]) ?_
 rw[h0.2,← ha3]
 refine yup (o:=o1) rfl (.int .i64 m) (fun w=>by rw[ykj h1.1];simp[f3,f2,f1,hiv]) ?_
 rw[h1.2,← ha4]
 refine yup (o:=o4) rfl S (fun w=>by rw[ykj h4.1];simp[f4,f3,f2,f1,hsv]) ?_
 rw[h4.2,← ha5]
 refine yup (o:=o5) rfl (.int .i64 n) (fun w=>by rw[ykj h5.1];simp[f5,f4,f3,f2,f1,hjv]) ?_
 rw[h5.2,← ha6]
 refine yup (o:=o8) rfl S (fun w=>by rw[ykj h8.1];simp[f6,f5,f4,f3,f2,f1,hsv]) ?_
 rw[h8.2,← ha7]
 refine yup (o:=o9) rfl (.int .i64 m) (fun w=>by rw[ykj h9.1];simp[f7,f6,f5,f4,f3,f2,f1,hiv]) ?_
 rw[h9.2,← ha8]
 refine yup (o:=o6) rfl (.pointer (some ⟨b,n*sz,none⟩)) (fun w=>xi w h6.1 (by simp[f8,f7,f6,f5]) (by simp[f8,f7,f6]) hnl) ?_
 rw[h6.2,← ha9]
 refine yup (o:=o10) rfl (.pointer (some ⟨b,m*sz,none⟩)) (fun w=>xi w h10.1 (by simp[f9,f8,f7]) (by simp[f9,f8]) hml) ?_
 rw[h10.2,← ha10]
 refine⟨o7,o11,Vj,Vi,rfl,rfl,xl _ h7.1 (by simp[f10,f9]) (lj1 _ rfl),xl _ h11.1 (by simp[f10]) (li1 _ rfl),?_⟩
 rw[h7.2,h11.2,← ha11,← ha12]
 refine⟨o12,rfl,yot (xi _ h12.1 (by simp[f12,f11,f10,f9,f8,f7,f6,f5,f4,f3]) (by simp[f12,f11,f10,f9,f8,f7,f6,f5,f4]) hml) ?_⟩
 rw[h12.2,← ha13]
 have skip:∀ {o:Oper} {c:Act} {x y:Operand} {p V:Value} {w w':World} {K:Act->World->Prop} {Q:Exit->Act->World->Prop},o.op=.store e x y->o.dst=none->c.eval x=p->c.eval y=V->(Instr.storeAt e p V).run P w=.ok () w'->K c w'->o.wp P c w K Q:=fun {o c x y p V w w' K Q} h1 h2 h3 h4 h5 h6=>by
  have:(execOp c.eval o).run P w=.ok .skip w':=by
   simp only[execOp,h1,h3,h4];rw[Sem.run_bind,h5];rfl
  unfold Oper.wp;rw[this,Oper.upon_skip,h2];exact h6
 refine⟨o13,rfl,skip h13.1 h13.2 (by simp[f13]) (by simp[f13,f12,f11]) st1 ?_⟩
 refine⟨o14,rfl,yot (xi _ h14.1 (by simp[f13,f12,f11,f10,f9,f8,f7,f6,f5,f4,f3,f2,f1]) (by simp[f13,f12,f11,f10,f9,f8,f7,f6,f5,f4,f3,f2]) hnl) ?_⟩
 rw[h14.2,← ha14]
 refine⟨o15,rfl,skip h15.1 h15.2 (by simp[f14]) (by simp[f14,f13,f12]) st2 ?_⟩
 simp only[wpStp]
 obtain⟨L1,r1⟩:=hR'.putU d2 S
 rw[← ha1] at r1
 obtain⟨L2,r2⟩:=r1.putU d3 (.int .i64 n)
 rw[← ha2] at r2
 obtain⟨L3,r3⟩:=r2.putU d0 S
 rw[← ha3] at r3
 obtain⟨L4,r4⟩:=r3.putU d1 (.int .i64 m)
 rw[← ha4] at r4
 obtain⟨L5,r5⟩:=r4.putU d4 S
 rw[← ha5] at r5
 obtain⟨L6,r6⟩:=r5.putU d5 (.int .i64 n)
 rw[← ha6] at r6
 obtain⟨L7,r7⟩:=r6.putU d8 S
 rw[← ha7] at r7
 obtain⟨L8,r8⟩:=r7.putU d9 (.int .i64 m)
 rw[← ha8] at r8
 obtain⟨L9,r9⟩:=r8.putU d6 (.pointer (some ⟨b,n*sz,none⟩))
 rw[← ha9] at r9
 obtain⟨L10,r10⟩:=r9.putU d10 (.pointer (some ⟨b,m*sz,none⟩))
 rw[← ha10] at r10
 obtain⟨L11,r11⟩:=r10.putU d7 Vj
 rw[← ha11] at r11
 obtain⟨L12,r12⟩:=r11.putU d11 Vi
 rw[← ha12] at r12
 obtain⟨L13,r13⟩:=r12.putU d12 (.pointer (some ⟨b,m*sz,none⟩))
 rw[← ha13] at r13
 obtain⟨L14,r14⟩:=r13.putU d14 (.pointer (some ⟨b,n*sz,none⟩))
 rw[← ha14] at r14
 exact ybm1 r14 hr1 hl1 hq
end Go.PV
namespace Go.PV
variable {P:Program}
theorem yhr1 {α:Type} {f:α->List C} {xs:List α} (h:∀ x,rawRow (f x)=true):∀ row∈xs.map f,rawRow row=true:=by
 intro row hr
 obtain⟨x,_,rfl⟩:=List.mem_map.1 hr
 exact h x
theorem yax1 {α:Type} (f:α->List C) (xs:List α) (n:Nat) (z:α) {zr:List C} (hz:f z=zr):(xs.map f).take n++List.replicate ((xs.map f).length-n) zr=(xs.take n++List.replicate (xs.length-n) z).map f:=by subst hz;simp[List.map_take]
theorem yqt1 {t t2:TypeId} {a b:Operand} {k:IntKind} {x y:Int}:PureAt P (.binOp .and t a b t2) [.int k x,.int k y] (.int k (iand k x y)):=by
 intro ρ o ho hv w
 have hv:ρ a=.int k x/\ρ b=.int k y:=by simpa [Op.operands] using hv
 simp[execOp,ho,hv.1,hv.2,eqGuard,binOp,Op.intBits,iand]
theorem yrt1 {t t2:TypeId} {a b:Operand} {k k':IntKind} {x y:Int} (h:0<=y):PureAt P (.binOp .shr t a b t2) [.int k x,.int k' y] (.int k (ishr k x y)):=by
 intro ρ o ho hv w
 have hv:ρ a=.int k x/\ρ b=.int k' y:=by simpa [Op.operands] using hv
 have:¬ y<0:=by omega
 simp[execOp,ho,hv.1,hv.2,eqGuard,binOp,Op.shift,ishr,this]
theorem ybd1 {s d:TypeId} {a:Operand} {k k':IntKind} {x:Int} (h1:P.underlying s=some (.int k)) (h2:P.underlying d=some (.int k')):PureAt P (.convert s d a) [.int k x] (.int k' (k'.wrap x)):=by
 intro ρ o ho hv w
 have hv:ρ a=.int k x:=by simpa [Op.operands] using hv
 simp[execOp,ho,hv,convert,run_underlying h1,run_underlying h2,Conv.intToInt]
end Go.PV

/-
 A walk over pure values: a struct of one slice handed in,the slice lent on.
 Conditions: none.
-/
namespace Go.PV
variable {P:Program}
end Go.PV

/-
 A walk over pure values: a region's operations listed in another order.
 Conditions: none.
-/
namespace Go.PV
variable {P:Program} {N:Nat}
def permOp (π:List Nat) (o:Oper):Oper:={ o with after:=o.after.map fun e=>{ e with on:=π.idxOf e.on },guard:=o.guard.map fun g=>(π.idxOf g.1,g.2) }
def permOps (π:List Nat) (ops:List Oper):List Oper:=π.map fun i=>permOp π (ops.getD i default)
def permB (π:List Nat) (ops:List Oper):Bool :=
 (π.length==ops.length&&((List.range ops.length).all (fun i=>decide (π.idxOf i<ops.length)&&π.getD (π.idxOf i) ops.length==i)&&(List.range ops.length).all (fun j=>decide (π.getD j ops.length<ops.length)&&π.idxOf (π.getD j ops.length)==j))) &&
 ops.all fun o=>o.after.all (fun e=>decide (e.on<ops.length))&&(match o.guard with | some g=>decide (g.1<ops.length) | none=>true)
section
variable {π:List Nat} {ops:List Oper} (h:permB π ops=true)
include h
end
end Go.PV

/-
 A walk over pure values: a region in whatever order,every order walked.
 Conditions: none.
-/
namespace Go.PV
variable {P:Program} {N:Nat}
def freeAt (ops:Array Oper) (listed:Array Bool):Option Nat:=(Region.ready .any ops listed).find? fun k=>match ops[k]? with
 | some o=>plainO o&&(Region.noSelect ops&&Region.free .any ops listed k)
 | none=>false
def pvT (P:Program) (ops:Array Oper) (K:St->Prop):Nat->Array Bool->St->Prop
 | 0,listed,σ=>Region.ready .any ops listed=[]/\K σ
 | f+1,listed,σ=>match freeAt ops listed with
  | some k=>∃ o,ops[k]?=some o/\o.guard=none/\pvOpF P o σ fun σ'=>pvT P ops K f (listed.setIfInBounds k true) σ'
  | none=>(Region.ready .any ops listed=[]->K σ)/\∀ i∈Region.ready .any ops listed,∃ o,ops[i]?=some o/\o.guard=none/\pvOpF P o σ fun σ'=>pvT P ops K f (listed.setIfInBounds i true) σ'
def xTl (step:Nat->Option (List LS×List Prop)):List Nat->Option (List LS×List Prop)
 | []=>some ([],[])
 | i::l=>match step i,xTl step l with
  | some (a,b),some (c,d)=>some (a++c,b++d)
  | _,_=>none
def xT (P:Program) (ops:Array Oper) (hs:List (Nat×HH)) (l1:LS):Nat->Array Bool->St->Option (List LS×List Prop)
 | 0,listed,σ=>(match Region.ready .any ops listed with
  | []=>some ([readL σ l1],[])
  | _=>none)
 | f+1,listed,σ =>
  let go:=fun k=>match ops[k]? with
   | some o=>if o.guard.isNone=true then(match xOpF P o σ (hintAt hs k) with
    | some (σ1,o2)=>(match xT P ops hs l1 f (listed.setIfInBounds k true) (xFix σ1 (hintAt hs k)).1 with
     | some (ls,o3)=>some (ls,o2++((xFix σ1 (hintAt hs k)).2++o3))
     | none=>none)
    | none=>none) else none
   | none=>none
  match freeAt ops listed with
  | some k=>go k
  | none=>(match Region.ready .any ops listed with
   | []=>some ([readL σ l1],[])
   | i::l=>xTl go (i::l))
theorem ybx1 {step:Nat->Option (List LS×List Prop)}:∀ {l:List Nat} {ls:List LS} {obs:List Prop},xTl step l=some (ls,obs)->allP obs->∀ i∈l,∃ a b,step i=some (a,b)/\allP b/\∀ x∈a,x∈ls
 | [],ls,obs,e,ho,i,hi=>by simp at hi
 | i::l,ls,obs,e,ho,j,hj=>by
  simp only[xTl] at e;split at e
  ·rename_i a b c d h1 h2
   simp only[Option.some.injEq,Prod.mk.injEq] at e;obtain⟨rfl,rfl⟩:=e;rw[allP_append] at ho;rcases List.mem_cons.1 hj with rfl | hj
   ·exact⟨a,b,h1,ho.1,fun x hx=>by simp[hx]⟩
   obtain⟨a',b',h3,h4,h5⟩:=ybx1 h2 ho.2 j hj;exact⟨a',b',h3,h4,fun x hx=>by simp[h5 x hx]⟩
  cases e
end Go.PV

/-
 A walk over pure values: structs of two structs of two whole numbers compared.
 Conditions: none.
-/
namespace Go.PV
variable {P:Program}
theorem yst1 {t:TypeId} {f g:Field} {k:IntKind} {x1 x2 y1 y2:Int} (d:Nat) (w:World) (hu:P.underlying t=some (.struct #[f,g])) (hs:P.stoodInHeld t=false)
  (hf : P.underlying f.type = some (.int k)) (hg : P.underlying g.type = some (.int k)) (n1 : (f.name != "_") = true) (n2 : (g.name != "_") = true) (o1 : f.offset = 0) (o2 : g.offset = 1) :
  (Op.equalIn (d+2) t (.agg #[.int k x1,.int k x2]) (.agg #[.int k y1,.int k y2])).run P w=.ok ((x1==y1)&&(x2==y2)) w:=by
 have hfs:P.fieldsOf t=#[f,g]:=by simp[Program.fieldsOf,hu]
 rw[run_equalIn_struct w (d+1) t _ _ (by rw[hfs];exact hu) hs,hfs]
 have e1 : f.name ≠ "_" := by simpa using n1
 have e2 : g.name ≠ "_" := by simpa using n2
 have p:∀ (h:Field) (cs:Array Value) (v:Value),P.underlying h.type=some (.int k)->cs[h.offset]?=some v->(part h.type cs h.offset).run P w=.ok v w:=fun h cs v h1 h2=>by
  simp[part,isAgg,run_underlying h1,h2]
 simp only[Op.eqFields,e1,e2,ne_eq,not_false_eq_true,if_true,Sem.run_bind]
 rw[p f _ (.int k x1) hf (by simp[o1])]
 simp only[Result.andThen_ok]
 rw[p f _ (.int k y1) hf (by simp[o1])]
 simp only[Result.andThen_ok]
 rw[run_equalIn_int w d f.type k k x1 y1 hf]
 simp only[Result.andThen_ok]
 cases h:(x1==y1)
 ·simp
 simp only[Bool.not_true,Bool.false_eq_true,if_false,Sem.run_bind]
 rw[p g _ (.int k x2) hg (by simp[o2])]
 simp only[Result.andThen_ok]
 rw[p g _ (.int k y2) hg (by simp[o2])]
 simp only[Result.andThen_ok]
 rw[run_equalIn_int w d g.type k k x2 y2 hg]
 simp only[Result.andThen_ok]
 cases h':(x2==y2) <;> simp
def twoS (P:Program) (t:TypeId) (k:IntKind):Bool :=
 match P.underlying t,P.info? t with
 | some (.struct fs),some i=>i.size==2 && !P.stoodInHeld t&&(match fs.toList with
  | [f, g] => (f.name != "_") && (g.name != "_") && f.offset == 0 && g.offset == 1 && (match P.underlying f.type, P.underlying g.type with
   | some (.int k1),some (.int k2)=>k1==k&&k2==k
   | _,_=>false)
  | _=>false)
 | _,_=>false
theorem yir1 {t:TypeId} {k:IntKind} (h:twoS P t k=true):(∃ fs i,P.underlying t=some (.struct fs)/\P.info? t=some i/\i.size=2) /\
  ∀ (d:Nat) (x1 x2 y1 y2:Int) (w:World),(Op.equalIn (d+2) t (.agg #[.int k x1,.int k x2]) (.agg #[.int k y1,.int k y2])).run P w=.ok ((x1==y1)&&(x2==y2)) w:=by
 unfold twoS at h
 cases hu:P.underlying t with
 | none=>rw[hu] at h;cases h
 | some d =>
  cases hi:P.info? t with
  | none=>rw[hu,hi] at h;cases d <;> cases h
  | some i =>
   rw[hu,hi] at h;cases d with
   | struct fs =>
    obtain⟨l⟩:=fs;match l with
    | [f,g] =>
     dsimp only at h
     cases h1:P.underlying f.type with
     | none=>rw[h1] at h;simp at h
     | some d1 =>
      cases h2:P.underlying g.type with
      | none=>rw[h1,h2] at h;cases d1 <;> simp at h
      | some d2 =>
       rw[h1,h2] at h;cases d1 <;> first | (simp at h;done) | skip
       cases d2 <;> first | (simp at h;done) | skip
       simp only[Bool.and_eq_true,Bool.not_eq_true',beq_iff_eq] at h;obtain⟨⟨a0,a1⟩,⟨⟨⟨a2,a3⟩,a4⟩,a5⟩,a6,a7⟩:=h;subst a6;subst a7;exact⟨⟨_,i,rfl,rfl,a0⟩,fun d x1 x2 y1 y2 w=>yst1 d w hu a1 h1 h2 a2 a3 a4 a5⟩
    | []=>simp at h
    | [_]=>simp at h
    | _::_::_::_=>simp at h
   | _=>cases h
def four (P:Program) (t:TypeId) (k:IntKind):Bool :=
 match P.underlying t with
 | some (.struct fs)=> !P.stoodInHeld t && !P.eqGuardType P.depth t&&(match fs.toList with
  | [f, g] => (f.name != "_") && (g.name != "_") && f.offset == 0 && g.offset == 2 && twoS P f.type k && twoS P g.type k
  | _=>false)
 | _=>false
theorem ycx1 {t:TypeId} {f g:Field} {k:IntKind} {x1 x2 x3 x4 y1 y2 y3 y4:Int} (w:World) (hu:P.underlying t=some (.struct #[f,g])) (hs:P.stoodInHeld t=false)
  (hf : twoS P f.type k = true) (hg : twoS P g.type k = true) (n1 : (f.name != "_") = true) (n2 : (g.name != "_") = true) (o1 : f.offset = 0) (o2 : g.offset = 2) :
  (Op.equalIn 10000 t (.agg #[.int k x1,.int k x2,.int k x3,.int k x4]) (.agg #[.int k y1,.int k y2,.int k y3,.int k y4])).run P w=.ok (((x1==y1)&&(x2==y2))&&((x3==y3)&&(x4==y4))) w:=by
 have hfs:P.fieldsOf t=#[f,g]:=by simp[Program.fieldsOf,hu]
 rw[run_equalIn_struct w 9999 t _ _ (by rw[hfs];exact hu) hs,hfs]
 have e1 : f.name ≠ "_" := by simpa using n1
 have e2 : g.name ≠ "_" := by simpa using n2
 obtain⟨⟨fs1,i1,u1,j1,s1⟩,q1⟩:=yir1 hf
 obtain⟨⟨fs2,i2,u2,j2,s2⟩,q2⟩:=yir1 hg
 have p1:∀ (z1 z2 z3 z4:Int),(part f.type #[.int k z1,.int k z2,.int k z3,.int k z4] f.offset).run P w=.ok (.agg #[.int k z1,.int k z2]) w:=fun z1 z2 z3 z4=>by
  simp[part,isAgg,run_underlying u1,Sem.run_bind,sizeOf,typeInfo,j1,s1,o1]
 have p2:∀ (z1 z2 z3 z4:Int),(part g.type #[.int k z1,.int k z2,.int k z3,.int k z4] g.offset).run P w=.ok (.agg #[.int k z3,.int k z4]) w:=fun z1 z2 z3 z4=>by
  simp[part,isAgg,run_underlying u2,Sem.run_bind,sizeOf,typeInfo,j2,s2,o2]
 simp only[Op.eqFields,e1,e2,ne_eq,not_false_eq_true,if_true,Sem.run_bind]
 rw[p1]
 simp only[Result.andThen_ok]
 rw[p1]
 simp only[Result.andThen_ok]
 rw[q1 9997 x1 x2 y1 y2 w]
 simp only[Result.andThen_ok]
 cases h:((x1==y1)&&(x2==y2))
 ·simp
 simp only[Bool.not_true,Bool.false_eq_true,if_false,Sem.run_bind]
 rw[p2]
 simp only[Result.andThen_ok]
 rw[p2]
 simp only[Result.andThen_ok]
 rw[q2 9997 x3 x4 y3 y4 w]
 simp only[Result.andThen_ok]
 cases h':((x3==y3)&&(x4==y4)) <;> simp
theorem ydx1 {t:TypeId} {k:IntKind} {x1 x2 x3 x4 y1 y2 y3 y4:Int} (h:four P t k=true) (w:World) :
  (Op.equalIn 10000 t (.agg #[.int k x1,.int k x2,.int k x3,.int k x4]) (.agg #[.int k y1,.int k y2,.int k y3,.int k y4])).run P w=.ok (((x1==y1)&&(x2==y2))&&((x3==y3)&&(x4==y4))) w/\P.eqGuardType P.depth t=false:=by
 unfold four at h
 cases hu:P.underlying t with
 | none=>rw[hu] at h;cases h
 | some d =>
  rw[hu] at h;cases d with
  | struct fs =>
   obtain⟨l⟩:=fs;match l with
   | [f,g] =>
    simp only[Bool.and_eq_true,Bool.not_eq_true',beq_iff_eq] at h;obtain⟨⟨a1,a8⟩,⟨⟨⟨⟨a2,a3⟩,a4⟩,a5⟩,a6⟩,a7⟩:=h;exact⟨ycx1 w hu a1 a6 a7 a2 a3 a4 a5,a8⟩
   | []=>simp at h
   | [_]=>simp at h
   | _::_::_::_=>simp at h
  | _=>cases h
theorem yop1 {t t2:TypeId} {a b:Operand} {k:IntKind} {x1 x2 x3 x4 y1 y2 y3 y4:Int} (h:four P t k=true):PureAt P (.binOp .neq t a b t2) [.agg #[.int k x1,.int k x2,.int k x3,.int k x4],.agg #[.int k y1,.int k y2,.int k y3,.int k y4]] (.bool (!(((x1==y1)&&(x2==y2))&&((x3==y3)&&(x4==y4))))):=by
 intro ρ o ho hv w
 have hv:ρ a=.agg #[.int k x1,.int k x2,.int k x3,.int k x4]/\ρ b=.agg #[.int k y1,.int k y2,.int k y3,.int k y4]:=by simpa [Op.operands] using hv
 obtain⟨h1,h2⟩:=ydx1 (x1:=x1) (x2:=x2) (y1:=y1) (y2:=y2) (x3:=x3) (x4:=x4) (y3:=y3) (y4:=y4) h w
 simp only[execOp,ho,hv.1,hv.2,Sem.run_bind]
 rw[run_eqGuard_agg w _ t a b _ _ h2]
 simp only[Result.andThen_ok]
 rw[run_neq_struct w,h1]
 rfl
end Go.PV

/-
 A walk over pure values: the rules once more,with what the kernel reckons left out.
 Conditions: none.
-/
namespace Go.PV
variable {P:Program} {N:Nat}
theorem A1 {a:Prop} (x:a):a/\True:=⟨x,trivial⟩
theorem A2 {a b:Prop} (x:a) (y:b):a/\b/\True:=⟨x,y,trivial⟩
theorem A3 {a b c:Prop} (x:a) (y:b) (z:c):a/\b/\c/\True:=⟨x,y,z,trivial⟩
theorem A4 {a b c d:Prop} (x:a) (y:b) (z:c) (u:d):a/\b/\c/\d/\True:=⟨x,y,z,u,trivial⟩
theorem A5 {a b c d e:Prop} (x:a) (y:b) (z:c) (u:d) (v:e):a/\b/\c/\d/\e/\True:=⟨x,y,z,u,v,trivial⟩
theorem A6 {a b c d e f:Prop} (x:a) (y:b) (z:c) (u:d) (v:e) (w:f):a/\b/\c/\d/\e/\f/\True:=⟨x,y,z,u,v,w,trivial⟩
theorem B6 {a b c d e f g:Prop} (x:a) (y:b) (z:c) (u:d) (v:e) (w:f) (t:g):a/\b/\c/\d/\e/\f/\g:=⟨x,y,z,u,v,w,t⟩
theorem r_gq {id:Nat} {ops:List Oper} {l0:LS} {Q:Prop} (l1:LS) (hs:List (Nat×HH)) (ho:Q) (e:(xGo P ops hs l0 l1).map (fun p=>(p.1,allP p.2))=some (l1,Q):=by kernel_rfl):RegOk P N (.region id ops.toArray false) l0 l1:=by
 cases hx:xGo P ops hs l0 l1 with
 | none=>rw[hx] at e;cases e
 | some p =>
  rw[hx] at e;simp only[Option.map_some,Option.some.injEq,Prod.mk.injEq] at e;obtain⟨e1,e2⟩:=e;exact r_go l1 hs p.2 (by rw[hx,← e1]) (by rw[e2];exact ho)
theorem r_dq {id:Nat} {ops:List Oper} {l0:LS} {Q:Prop} (hm:P.follows .mixedOrders=true) (n:Nat) (T:List (Nat×Nat)) (l1:LS) (hs:List (Nat×HH)) (ho:Q) (e:(xGoD P n T ops hs l0 l1).map (fun p=>(p.1,allP p.2))=some (l1,Q):=by kernel_rfl):RegOk P N (.region id ops.toArray true) l0 l1:=by
 cases hx:xGoD P n T ops hs l0 l1 with
 | none=>rw[hx] at e;cases e
 | some p =>
  rw[hx] at e;simp only[Option.map_some,Option.some.injEq,Prod.mk.injEq] at e;obtain⟨e1,e2⟩:=e;exact ytz1 hm n T l1 hs p.2 (by rw[hx,← e1]) (by rw[e2];exact ho)
theorem kc {c:Operand} (b:Bool) {x y:Code} {l:LS} {Q:Ex->LS->Prop} (h1:b=true->OkL P N x l Q) (h2:b=false->OkL P N y l Q) (hc:evS (ofL l) c=.p (.bool b):=by kernel_rfl):OkL P N (.cond c x y) l Q:=ymt1 hc h1 h2
theorem er {fn:Func} {args:List Arg} {vals:List RV} {l:LS} (ls:List (RV×Nat)) (h1:retVs P (ofL l) fn.results.toList=some ls:=by kernel_rfl) (h2:ovOk ls=true:=by rfl) (h3:ls.map (·.1)=vals:=by kernel_rfl) (h4:outsOf (ofL l) ((List.range args.length).zip args)=some []:=by rfl):endL P fn args { vals:=vals } .ret l:=ywz1 h1 h2 h3 h4
theorem ebr {fn:Func} {vals:List RV} {x':SV} {l:LS} (ls:List (RV×Nat)) (h1:retVs P (ofL l) fn.results.toList=some ls:=by kernel_rfl) (h2:ovOk ls=true:=by rfl) (h0:(ls.all fun y=> !isOvR y.1||y.2 != 0)=true:=by rfl) (h3:ls.map (·.1)=vals:=by kernel_rfl) (h4:ofL l 0=x':=by kernel_rfl):endLB P fn vals x' .ret l:=yuz1 h1 h2 h0 h3 h4
theorem ebe {fn:Func} {vals:List RV} {x':SV} {l:LS} (ls:List (RV×Nat)) (h1:retVs P (ofL l) fn.results.toList=some ls:=by kernel_rfl) (h2:ovOk ls=true:=by rfl) (h0:(ls.all fun y=> !isOvR y.1||y.2 != 0)=true:=by rfl) (h3:ls.map (·.1)=vals:=by kernel_rfl) (h4:ofL l 0=x':=by kernel_rfl):endLB P fn vals x' .normal l:=yvz1 h1 h2 h0 h3 h4
theorem lqn {X Y:Type} {o:X ⊕ Y} {J:X->LS} {Q:Ex->LS->Prop} {l:LS} (x':X) (h:some (Sum.inl x')=some o) (h1:refsOk (J x')=true:=by kernel_rfl) (h2:readL (ofL l) (J x')=J x':=by kernel_rfl):loopQ o J Q .normal l:=lq_n x' (Option.some.inj h).symm (yry1 h1 h2)
theorem jx {X:Type} {K:X->Prop} {J:X->LS} {l:LS} (x:X) (h:K x) (h1:refsOk (J x)=true:=by kernel_rfl) (h2:readL (ofL l) (J x)=J x:=by kernel_rfl):∃ x,K x/\wk l (J x):=⟨x,h,yry1 h1 h2⟩
theorem mo {f:FuncId} {fn:Func} {c:Code} {args:List Arg} {res:Res} (hf:P.funcs[f]?=some fn) (l0:LS) (h:OkL P fn.ntmps c l0 (endL P fn args res)) (hb:fn.body=some c:=by rfl) (hc:callable P f=true:=by kernel_rfl)
  (hN:(decide (args.length<=fn.ntmps)&&codeB 0 fn.ntmps c&&args.all notPtrA)=true:=by kernel_rfl) (hl0:(List.range args.length).zip (args.map argSV)=l0:=by kernel_rfl):Meets P f args res:=ygi1 hc hf hb hN hl0 h
theorem mob {f:FuncId} {fn:Func} {c:Code} {x x':SV} {args:List Arg} {vals:List RV} (hf:P.funcs[f]?=some fn) (l0:LS) (h:OkL P fn.ntmps c l0 (endLB P fn vals x')) (hb:fn.body=some c:=by rfl) (hc:callable P f=true:=by kernel_rfl)
  (hN:(decide (args.length+1<=fn.ntmps)&&codeB 1 fn.ntmps c&&args.all notPtrA)=true:=by kernel_rfl) (hx':(isOwnR x'||match(generalizing:=false) x' with | .u=>true | _=>false)=true:=by kernel_rfl) (hl0:(List.range (args.length+1)).zip (x::args.map argSV)=l0:=by kernel_rfl):MeetsB P f x args vals x':=ywl1 hc hf hb hN hx' hl0 h
theorem bs {α β:Type} {o:Option α} {f:α->Option β} {r:β} (h:o.bind f=some r):∃ x,o=some x/\f x=some r:=Option.bind_eq_some_iff.1 h
theorem oi {α:Type} {a b:α} (h:some a=some b):a=b:=Option.some.inj h
theorem ft (b:Bool):b=true\/b=false:=Bool.eq_false_or_eq_true b
abbrev rI (n:Int):C:=.raw (.int .i64 n)
abbrev iV (n:Int):Value:=.int .i64 n
abbrev wI (n:Int):Arg:=.v (.int .i64 n)
abbrev Cu:=List Int×Int×Int
abbrev eCu:Cu->List C:=eP (eF (eU .u8)) (eP eI (eU .u64))
abbrev Qr:=Int×Int
abbrev Qp:=Qr×Qr
abbrev eRt:Qr->List C:=eP eI eI
abbrev ePt:Qp->List C:=eP eRt eRt
abbrev vRt (x:Qr):Value:=.agg #[.int .i64 x.1,.int .i64 x.2]
abbrev vPt (x:Qp):Value:=.agg #[.int .i64 x.1.1,.int .i64 x.1.2,.int .i64 x.2.1,.int .i64 x.2.2]
abbrev gT:HH:={ g:=some true }
abbrev gF:HH:={ g:=some false }
abbrev bT:HH:={ b:=some true }
abbrev bF:HH:={ b:=some false }
end Go.PV

/-
 A walk over pure values: decimal numerals.
 Conditions: none.
-/
set_option linter.all false
namespace Go.PV
def itoaB (n:Int):ByteArray:=⟨(Lib.itoa n).toArray⟩
def byteB (z:Int):ByteArray:=⟨[UInt8.ofNat (Int.toNat z)].toArray⟩
end Go.PV

/-
 A walk over pure values: letters and parts of strings.
 Conditions: none.
-/
set_option linter.all false
namespace Go.PV
variable {P:Program}
def strAt (s:ByteArray) (i:Int):Int:=if h:0<=i/\i<s.size then((s[i.toNat]'(by omega)).toNat:Int) else 0
def strCut (s:ByteArray) (i j:Int):ByteArray:=s.extract i.toNat j.toNat
def bytesL (b:ByteArray):List Int:=b.data.toList.map fun c=>(c.toNat:Int)
end Go.PV

/-
 A walk over pure values: strings.Builder: the check that it has not been copied.
 Conditions: none.
-/
set_option linter.all false
namespace Go.PV
variable {P:Program}
def eBp (t:TypeId):Unit->List C:=fun _=>[.bp t]
def bytesB (xs:List Int):ByteArray:=⟨(xs.map fun z=>UInt8.ofNat (Int.toNat z)).toArray⟩
def bytesOk (xs:List Int):Bool:=xs.all fun x=>decide (0<=x)&&decide (x<=255)
def asciiB (b:ByteArray):Bool:=b.data.toList.all fun x=>decide (x.toNat<128)
def trimB (a b:ByteArray):ByteArray:=⟨(((a.data.toList.reverse.dropWhile (b.data.toList.contains ·)).reverse).dropWhile (b.data.toList.contains ·)).toArray⟩
def cutB (s t:ByteArray):ByteArray×ByteArray×Bool:=(⟨(Lib.cut s.data.toList t.data.toList).1.toArray⟩,⟨(Lib.cut s.data.toList t.data.toList).2.1.toArray⟩,(Lib.cut s.data.toList t.data.toList).2.2)
def atoiV (s:ByteArray):Int×Bool:=match Lib.atoiAll s.data.toList with
 | .ok v=>(v,true)
 | .range=>(Lib.atoiSat s.data.toList,false)
 | _=>(0,false)
def eEr:Bool->List C:=fun b=>[.er b]
def oppP (q:(Int×Int)×(Int×Int)):(Int×Int)×(Int×Int):=((w64 (q.1.2-q.1.1),q.1.2),(w64 (q.2.2-q.2.1),q.2.2))
end Go.PV

/-
 Lists of fractions sorted and compacted: the words.
 Conditions: none.
-/
set_option linter.all false
namespace Go.PV
def cpF (d:Nat->Int×Int):Nat->List (Int×Int)
 | 0=>[]
 | m+1=>if 1<=m/\d m=d (m-1) then cpF d m else cpF d m++[d m]
def cpL (l:List (Int×Int)):List (Int×Int):=cpF (fun i=>l.getD i (0,0)) l.length
def okR (x:Int×Int):Bool:=decide (1<=x.2/\x.2<=1000000000 /\ -1000000000<=x.1/\x.1<=1000000000/\Int.gcd x.1 x.2=1)
def leR (x y:Int×Int):Bool:= !decide (y.1*x.2<x.1*y.2)
def sortR (l:List (Int×Int)):List (Int×Int):=l.mergeSort leR
end Go.PV

/-
 A walk in a round of a range over a function: what holds of operations elsewhere holds there.
 Conditions: none.
-/
set_option linter.all false
namespace Go.PV
variable {P:Program} {N:Nat}
def Fx (ro:Option Nat):Fence:={ Fence.wide with round:=ro }
def dz (ds:List Deferred) (a:Act):Act:={ a with defers:=a.defers++ds }
def noDefer (o:Oper):Bool:=match o.op with | .defer _=>false | _=>true
section
variable {ro:Option Nat} {n:Nat} {ds:List Deferred} {Q Q':Exit->Act->World->Prop} {ops:Array Oper}
end
def liftX (ds:List Deferred) (P:Program) (N:Nat) (w0:World) (A:Nat->Prop) (I:Bor) (Q:Ex->LS->Prop):Exit->Act->World->Prop
 | .normal,a,w=>∃ a0 σ L l',a=dz ds a0/\Rel P N N w0 A I σ a0 w L/\(σ=ofL l'\/agree l' σ)/\Q .normal l'
 | .exit id,a,w=>∃ a0 σ L l',a=dz ds a0/\Rel P N N w0 A I σ a0 w L/\(σ=ofL l'\/agree l' σ)/\Q (.exit id) l'
 | .ret,a,w=>∃ a0 σ L l',a=dz ds a0/\Rel P N N w0 A I σ a0 w L/\(σ=ofL l'\/agree l' σ)/\Q .ret l'
 | _,_,_=>False
def codeX (k N:Nat):Code->Bool
 | .region _ ops _=>opsB k N ops.toList&&ops.toList.all noDefer
 | .seq a b=>codeX k N a&&codeX k N b
 | .cond _ a b=>codeX k N a&&codeX k N b
 | .block _ c=>codeX k N c
 | .skip=>true
 | .ret=>true
 | .exit _=>true
 | _=>false
def OkX (ro:Option Nat) (ds:List Deferred) (P:Program) (N:Nat) (c:Code) (l:LS) (Q:Ex->LS->Prop):Prop :=
 ∀ n k,codeX k N c=true->∀ w0 A I a w L,I.pins.length=k->Rel P N N w0 A I (ofL l) a w L->c.wpIn (Fx ro) n P (liftX ds P N w0 A I Q) (dz ds a) w
section
variable {ro:Option Nat} {ds:List Deferred}
theorem ycd1 {w0:World} {A:Nat->Prop} {I:Bor} {σ:St} {a:Act} {w:World} {L:Lab} {l':LS} (hR:Rel P N N w0 A I σ a w L) (h:σ=ofL l'\/agree l' σ):Rel P N N w0 A I (ofL l') a w L:=by
 rcases h with rfl | h
 ·exact hR
 exact yrf hR h
def RegX (ro:Option Nat) (ds:List Deferred) (P:Program) (N:Nat) (c:Code) (l0 l1:LS):Prop:=∀ Q:Ex->LS->Prop,Q .normal l1->OkX ro ds P N c l0 Q
end
end Go.PV

/-
 A walk in a round of a range over a function: the relation carried to another world,another frame,another beginning.
 Conditions: none.
-/
set_option linter.all false
namespace Go.PV
variable {P:Program} {N:Nat}
def CellsKept (w w':World):Prop:=∀ (b:Nat) (arr:Array Value) (e:TypeId) (f:Nat×Nat),w.heap[b]?=some (.cells arr e f)->w'.heap[b]?=some (.cells arr e f)
structure LabKept (w:World) (L L':Lab):Prop where
 sub:∀ b x,L' b=some x->L b=some x
 cel:∀ (b:Nat) (x:Nat×Path) (arr:Array Value) (e:TypeId) (f:Nat×Nat),L b=some x->w.heap[b]?=some (.cells arr e f)->L' b=some x
theorem LabKept.none {w:World} {L L':Lab} (h:LabKept w L L') {b:Nat} (hb:L b=none):L' b=none:=by
 cases hx:L' b with
 | none=>rfl
 | some x=>rw[h.sub b x hx] at hb;cases hb
def simpleS:SV->Bool
 | .u | .p _ | .d .. | .ov .. | .box _=>true
 | _=>false
def SlotFrom (σ:St) (a a':Act) (σ':St) (s:Nat):Prop :=
 σ' s=.u\/(∃ v,σ' s=.p v/\a'.tmps.getD s undef=v/\s<N)\/(simpleS (σ' s)=true/\σ s=σ' s/\a'.tmps.getD s undef=a.tmps.getD s undef)
def cleanL (w:World) (L:Lab):Lab:=fun b=>match w.heap[b]? with | some (.cells ..)=>L b | _=>none
def baseA (w0:World) (A:Nat->Prop) (w:World) (L:Lab):Nat->Prop:=fun b=>Zof w0 A L w b\/cleanL w L b≠none
def baseI (w:World) (L:Lab) (pins:List Value):Bor:=⟨fun b=>cleanL w L b≠none,pins⟩
section
variable {w0:World} {A:Nat->Prop} {I:Bor} {σ σ':St} {a a':Act} {w w':World} {L L':Lab}
end
def rawR (rows:List (List C)):Bool:=rows.all fun r=>r.all fun c=>match c with | .raw _=>true | _=>false
end Go.PV

/-
 Slices of pairs of numbers compacted and sorted: the contracts' common part.
 Conditions: none.
-/
set_option linter.all false
namespace Go.PV
variable {P:Program}
theorem yfm1 (x y:Int×Int):((x.1==y.1)&&(x.2==y.2))=decide (x=y):=by
 obtain⟨a,b⟩:=x
 obtain⟨c,d⟩:=y
 by_cases h1:a=c <;> by_cases h2:b=d <;> simp[h1,h2]
theorem ytt1 {k:Nat} (h2:k<=9223372036854775807):IntKind.i64.wrap (k:Int)=(k:Int):=by
 have e2:(2 ^ IntKind.bits .i64:Int)=18446744073709551616:=by decide
 have e3:(2 ^ (IntKind.bits .i64-1):Int)=9223372036854775808:=by decide
 unfold IntKind.wrap
 simp only[e2]
 rw[Int.emod_eq_of_lt (by omega) (by omega)]
 split
 ·rename_i h
  simp only[e3,Bool.and_eq_true,decide_eq_true_eq] at h;omega
 rfl
theorem yki1 {k:Nat} (h1:1<=k) (h2:k<=9223372036854775807):IntKind.i64.wrap ((k:Int)-1)=((k-1:Nat):Int):=by
 rw[show((k:Int)-1)=((k-1:Nat):Int) by omega]
 exact ytt1 (by omega)
structure Wc (w wr:World) (b n c:Nat) (e:TypeId) (F:Nat->Int×Int):Prop where
 os:wr.os=w.os
 tape:wr.tape=w.tape
 output:wr.output=w.output
 size:wr.heap.size=w.heap.size
 oth:∀ k,k≠b->wr.heap[k]?=w.heap[k]?
 at':∃ arr:Array Value,wr.heap[b]?=some (.cells arr e (0,0))/\arr.size=c/\∀ i,i<n->arr[i*2]?=some (.int .i64 (F i).1)/\arr[i*2+1]?=some (.int .i64 (F i).2)
theorem Wc.drew {w wr:World} {b n c:Nat} {e:TypeId} {F:Nat->Int×Int} (h:Wc w wr b n c e F) (q:Nat):Wc w (wr.drewN q) b n c e F:=⟨h.os,h.tape,h.output,h.size,h.oth,h.at'⟩
theorem Wc.cell {w wr:World} {b n c:Nat} {e:TypeId} {F:Nat->Int×Int} (h:Wc w wr b n c e F) {i:Nat} (hi:i<n):wr.cell? ⟨b,i*2,none⟩=some (.int .i64 (F i).1)/\wr.cell? ⟨b,i*2+1,none⟩=some (.int .i64 (F i).2):=by
 obtain⟨arr,h1,h2,h3⟩:=h.at'
 exact⟨by simp[World.cell?,h1,(h3 i hi).1],by simp[World.cell?,h1,(h3 i hi).2]⟩
theorem Wc.free {w wr:World} {b n c:Nat} {e:TypeId} {F:Nat->Int×Int} (h:Wc w wr b n c e F) (o:Nat):wr.frozen? ⟨b,o,none⟩=false:=by
 obtain⟨arr,h1,h2,h3⟩:=h.at'
 simp[World.frozen?,h1]
theorem Wc.set {w wr:World} {b n c:Nat} {e:TypeId} {F:Nat->Int×Int} (h:Wc w wr b n c e F) {k:Nat} (hk:k<n) (u:Int×Int):Wc w ((wr.setCell ⟨b,k*2,none⟩ (.int .i64 u.1)).setCell ⟨b,k*2+1,none⟩ (.int .i64 u.2)) b n c e (fun i=>if i=k then u else F i):=by
 obtain⟨arr,h1,h2,h3⟩:=h.at'
 refine⟨h.os,h.tape,h.output,?_,fun j hj=>?_,(arr.setIfInBounds (k*2) (.int .i64 u.1)).setIfInBounds (k*2+1) (.int .i64 u.2),?_,by simp[h2],fun i hi=>?_⟩
 ·simp[World.setCell,h.size]
 ·rw[← h.oth j hj]
  simp[World.setCell,Array.getElem?_modify,Ne.symm hj]
 ·simp[World.setCell,Array.getElem?_modify,h1]
 have hk3:=h3 k hk
 have l1:k*2+1<arr.size:=(Array.getElem?_eq_some_iff.1 hk3.2).1
 by_cases e:i=k
 ·subst e
  simp[Array.getElem?_setIfInBounds,l1,show i*2<arr.size by omega]
 have:=h3 i hi
 simp only[if_neg e]
 rw[Array.getElem?_setIfInBounds,if_neg (by omega),Array.getElem?_setIfInBounds,if_neg (by omega),Array.getElem?_setIfInBounds,if_neg (by omega),Array.getElem?_setIfInBounds,if_neg (by omega)]
 exact this
theorem yli1 (d:Nat->Int×Int):∀ k,(∀ j,1<=j->j<k->d j≠d (j-1))->(cpF d k).length=k/\∀ i,i<k->(cpF d k)[i]?=some (d i)
 | 0,_=>⟨rfl,fun i hi=>by omega⟩
 | k+1,h=>by
  obtain⟨l,g⟩:=yli1 d k fun j h1 h2=>h j h1 (by omega)
  have hno:¬ (1<=k/\d k=d (k-1)):=fun ⟨h1,h2⟩=>h k h1 (by omega) h2
  simp only[cpF,if_neg hno];refine⟨by simp[l],fun i hi=>?_⟩
  by_cases e:i=k
  ·subst e
   rw[List.getElem?_append_right (by omega),l];simp
  rw[List.getElem?_append_left (by omega)];exact g i (by omega)
theorem yjr1 {d:Nat->Int×Int} {m:Nat} (h1:1<=m) (h:d m=d (m-1)):cpF d (m+1)=cpF d m:=by simp only[cpF,if_pos (And.intro h1 h)]
theorem yex1 {d:Nat->Int×Int} {m:Nat} (h:¬ d m=d (m-1)):cpF d (m+1)=cpF d m++[d m]:=by simp only[cpF];rw[if_neg fun hh=>h hh.2]
theorem yab2 {Z:Nat->Prop} {L:Lab} {w:World} {s g cap:Nat} {p:Path} {arr:Array Value} {e:TypeId} {l:List (Int×Int)} (hs:esz P e=2) (hg:w.heap[g]?=some (.cells arr e (0,0))) (ha:arr.size=cap*esz P e) (hn:l.length<=cap)
  (hr:∀ i row o c,(l.map (eP eI eI))[i]?=some row->row[o]?=some c->Rep P Z L w s (p++[(i,o)]) (arr.getD (i*esz P e+o) undef) c):Wc w w g l.length (cap*2) e fun i=>l.getD i (0,0):=by
 rw[hs] at ha
 refine⟨rfl,rfl,rfl,rfl,fun _ _=>rfl,arr,hg,ha,fun i hi=>?_⟩
 have e0:(l.map (eP eI eI))[i]?=some [.raw (.int .i64 l[i].1),.raw (.int .i64 l[i].2)]:=by
  rw[List.getElem?_map,List.getElem?_eq_getElem hi];rfl
 have r0:=(hr i _ 0 _ e0 rfl).raw_eq
 have r1:=(hr i _ 1 _ e0 rfl).raw_eq
 rw[hs] at r0 r1
 rw[Array.getD_eq_getD_getElem?,Array.getElem?_eq_getElem (show i*2+0<arr.size by omega)] at r0
 rw[Array.getD_eq_getD_getElem?,Array.getElem?_eq_getElem (show i*2+1<arr.size by omega)] at r1
 have d0:l.getD i (0,0)=l[i]:=by simp[hi]
 rw[d0]
 refine⟨?_,?_⟩
 ·rw[Array.getElem?_eq_getElem (show i*2<arr.size by omega)]
  exact congrArg some r0
 rw[Array.getElem?_eq_getElem (show i*2+1<arr.size by omega)]
 exact congrArg some r1
theorem yfx1 {Z:Nat->Prop} {L:Lab} {w0 w:World} {s g cap n:Nat} {p:Path} {e:TypeId} {F:Nat->Int×Int} {l:List (Int×Int)} (hs:esz P e=2) (hW:Wc w0 w g n (cap*2) e F) (hl:L g=some (s,p)) (hn:l.length<=n) (hnc:n<=cap) (hm:cap<=maxLen) (hF:∀ i,i<l.length->l[i]?=some (F i)) :
  Rep P Z L w s p (.slice (some ⟨g,0,none⟩) l.length cap) (.sl (some e) (l.map (eP eI eI))):=by
 obtain⟨arr,h1,h2,h3⟩:=hW.at'
 have hlen:(l.map (eP eI eI)).length=l.length:=List.length_map ..
 have:=Rep.own (P:=P) (Z:=Z) (L:=L) (w:=w) (s:=s) (p:=p) (g:=g) (cap:=cap) (arr:=arr) (e:=e) (rows:=l.map (eP eI eI)) hl h1 (by omega) hm (by rw[hs];exact h2) (fun row hrow=>by
   obtain⟨x,_,rfl⟩:=List.mem_map.1 hrow;rw[hs];rfl) (fun i row o c h5 h6=>by
   rw[List.getElem?_map] at h5;cases hx:l[i]? with
   | none=>rw[hx] at h5;cases h5
   | some x =>
    rw[hx] at h5;obtain rfl:=Option.some.inj h5
    have hi:i<l.length:=(List.getElem?_eq_some_iff.1 hx).1
    have hFi:=hF i hi;rw[hx] at hFi;obtain rfl:=Option.some.inj hFi
    have h3i:=h3 i (by omega)
    rw[hs];match o,h6 with
    | 0,h6 =>
     obtain rfl:=Option.some.inj h6
     have:arr.getD (i*2+0) undef=.int .i64 (F i).1:=by rw[Array.getD_eq_getD_getElem?,Nat.add_zero,h3i.1];rfl
     rw[this];exact .frz (.raw rfl)
    | 1,h6 =>
     obtain rfl:=Option.some.inj h6
     have:arr.getD (i*2+1) undef=.int .i64 (F i).2:=by rw[Array.getD_eq_getD_getElem?,h3i.2];rfl
     rw[this];exact .frz (.raw rfl)
    | o+2,h6=>simp[eP,eI] at h6)
 rw[hlen] at this
 exact this
theorem ykr1 (d:Nat->Int×Int):∀ m,(cpF d m).length<=m
 | 0=>Nat.le_refl _
 | m+1=>by
  have:=ykr1 d m
  simp only[cpF];split
  ·omega
  simp;omega
theorem ymi1 {Z:Nat->Prop} {L:Lab} {w:World} {s:Nat} {p:Path} {v:Value} {e:TypeId} {rows:List (List C)} (h:Rep P Z L w s p v (.sl (some e) rows)) :
  (v=.slice none 0 0/\rows=[])\/∃ (g cap:Nat) (arr:Array Value),v=.slice (some ⟨g,0,none⟩) rows.length cap/\L g=some (s,p)/\w.heap[g]?=some (.cells arr e (0,0))/\rows.length<=cap/\cap<=maxLen/\arr.size=cap*esz P e /\
   ∀ (i:Nat) (row:List C) (o:Nat) (c:C),rows[i]?=some row->row[o]?=some c->Rep P Z L w s (p++[(i,o)]) (arr.getD (i*esz P e+o) undef) c:=by
 cases h with
 | frz h=>cases h
 | onil=>exact .inl ⟨rfl,rfl⟩
 | own hl hg hn hm ha hsz hr=>exact .inr ⟨_,_,_,rfl,hl,hg,hn,hm,ha,hr⟩
theorem yhf1 {f:FuncId} {e:TypeId} {l:List (Int×Int)} (hc:callable P f=true) (hs:esz P e=2)
  (h1:∀ (b n cap:Nat) (d:Nat->Int×Int) (w0 w:World),n<=cap->cap<=9223372036854775807->Wc w0 w b n (cap*2) e d->Calls P f #[.slice (some ⟨b,0,none⟩) n cap] w fun e' w'=>∃ F,e'=.returned (.slice (some ⟨b,0,none⟩) (cpF d n).length cap)/\Wc w0 w' b n (cap*2) e F/\∀ i,i<(cpF d n).length->(cpF d n)[i]?=some (F i))
  (h2:∀ w:World,Calls P f #[.slice none 0 0] w fun e' w'=>e'=.returned (.slice none 0 0)/\w'=w) :
  MeetsB P f (.ov false [.sl (some e) (l.map (eP eI eI))]) [] [.ov false [.sl (some e) ((cpL l).map (eP eI eI))]] .u:=by
 refine⟨hc,fun w A L0 v0 vs hA hL hinj hlent hargs=>?_⟩
 have hvs:vs=[]:=by cases vs with | nil=>rfl | cons a l=>exact hargs.elim
 subst hvs
 obtain⟨⟨hv,_⟩,hrep⟩:=hlent
 have hrep:=hrep 0 _ rfl
 rw[hv] at hrep
 have hrep:Rep P A L0 w 0 [(0,0)] v0 (.sl (some e) (l.map (eP eI eI))):=hrep
 have cs:(v0=.slice none 0 0/\l.map (eP eI eI)=[])\/∃ (g cap:Nat) (arr:Array Value),v0=.slice (some ⟨g,0,none⟩) (l.map (eP eI eI)).length cap/\L0 g=some (0,[(0,0)])/\w.heap[g]?=some (.cells arr e (0,0))/\(l.map (eP eI eI)).length<=cap/\cap<=maxLen/\arr.size=cap*esz P e /\
   ∀ (i:Nat) (row:List C) (o:Nat) (c:C),(l.map (eP eI eI))[i]?=some row->row[o]?=some c->Rep P A L0 w 0 ([(0,0)]++[(i,o)]) (arr.getD (i*esz P e+o) undef) c:=ymi1 hrep
 rcases cs with⟨rfl,hnil⟩ | ⟨g,cap,arr,rfl,hl,hg,hn,hm,ha,hr⟩
 ·have hl0:l=[]:=by simpa using hnil
  subst hl0;refine(h2 w).mono fun e' w' h=>?_
  obtain⟨rfl,rfl⟩:=h;refine⟨_,fun _=>none,rfl,⟨⟨rfl,rfl,rfl,Nat.le_refl _,fun _ _ _=>rfl⟩,fun _ _ _ h=>(by cases h),fun _ _ h=>(by cases h),⟨⟨rfl,rfl⟩,fun j c hj=>?_⟩,trivial⟩⟩
  cases j with
  | zero=>obtain rfl:=Option.some.inj hj;exact .onil
  | succ j=>simp at hj
 have hlen:(l.map (eP eI eI)).length=l.length:=List.length_map ..
 rw[hlen] at hn
 rw[show(Value.slice (some ⟨g,0,none⟩) (l.map (eP eI eI)).length cap)=.slice (some ⟨g,0,none⟩) l.length cap by rw[hlen]]
 have hW:=yab2 hs hg ha hn hr
 refine(h1 g l.length cap _ w w hn (by unfold maxLen at hm;omega) hW).mono fun e' w' h=>?_
 obtain⟨F,rfl,hW',hF⟩:=h
 have hlg:g<w.heap.size:=(Array.getElem?_eq_some_iff.1 hg).1
 refine⟨_,fun b=>if b=g then some (1,[(0,0)]) else none,rfl,⟨⟨hW'.os,hW'.tape,hW'.output,by rw[hW'.size];exact Nat.le_refl _,fun b _ hb=>hW'.oth b fun h=>?_⟩,fun b b' l hb hb'=>?_,fun b l hb=>?_,⟨⟨rfl,rfl⟩,fun j c hj=>?_⟩,trivial⟩⟩
 ·subst h
  exact hb (by show L0 b≠none;rw[hl];simp)
 ·split at hb
  ·split at hb'
   ·rename_i x y;rw[x,y]
   cases hb'
  cases hb
 ·split at hb
  ·rename_i x
   subst x;exact⟨by rw[hW'.size];exact hlg,.inr (by rw[hl];simp)⟩
  cases hb
 cases j with
 | zero =>
  obtain rfl:=Option.some.inj hj
  exact yfx1 hs hW' (by simp) (ykr1 _ _) hn hm hF
 | succ j=>simp at hj
end Go.PV

/-
 Slices of fractions sorted: the order,and the contract's common part.
 Conditions: none.
-/
set_option linter.all false
namespace Go.PV
open Go.Sort Go.Proofs
variable {P:Program}
theorem okR_iff {x:Int×Int}:okR x=true↔1<=x.2/\x.2<=1000000000 /\ -1000000000<=x.1/\x.1<=1000000000/\Int.gcd x.1 x.2=1:=by simp[okR]
abbrev FR:={x:Int×Int // okR x=true}
instance:Inhabited FR:=⟨⟨(0,1),by decide⟩⟩
def cmpF (x y:Int×Int):Int:=if x.1*y.2<y.1*x.2 then -1 else if y.1*x.2<x.1*y.2 then 1 else 0
def encF (x:FR):List Value:=[.int .i64 x.1.1,.int .i64 x.1.2]
def cfF (x y:FR):Int:=cmpF x.1 y.1
theorem ygx1 (x y:FR):ltOf cfF x y=decide (x.1.1*y.1.2<y.1.1*x.1.2):=by
 unfold ltOf cfF cmpF
 by_cases h1:x.1.1*y.1.2<y.1.1*x.1.2
 ·simp[h1]
 by_cases h2:y.1.1*x.1.2<x.1.1*y.1.2
 ·simp[h1,h2]
 simp[h1,h2]
theorem ygm1 {a b c d e f:Int} (hb:0<b) (hd:0<d) (hf:0<f) (h1:a*d<c*b) (h2:c*f<e*d):a*f<e*b:=by
 have e1:=Int.mul_lt_mul_of_pos_right h1 hf
 have e2:=Int.mul_lt_mul_of_pos_right h2 hb
 have k1:c*b*f=c*f*b:=by rw[Int.mul_assoc,Int.mul_comm b f,Int.mul_assoc]
 have k2:a*d*f=a*f*d:=by rw[Int.mul_assoc,Int.mul_comm d f,Int.mul_assoc]
 have k3:e*d*b=e*b*d:=by rw[Int.mul_assoc,Int.mul_comm d b,Int.mul_assoc]
 exact Int.lt_of_mul_lt_mul_right (a:=d) (by omega) (by omega)
theorem yqj1 {a b c d e f:Int} (hb:0<b) (hd:0<d) (hf:0<f) (h1:c*b<=a*d) (h2:e*d<=c*f):e*b<=a*f:=by
 have e1:=Int.mul_le_mul_of_nonneg_right h1 (show 0<=f by omega)
 have e2:=Int.mul_le_mul_of_nonneg_right h2 (show 0<=b by omega)
 have k1:c*b*f=c*f*b:=by rw[Int.mul_assoc,Int.mul_comm b f,Int.mul_assoc]
 have k2:a*d*f=a*f*d:=by rw[Int.mul_assoc,Int.mul_comm d f,Int.mul_assoc]
 have k3:e*d*b=e*b*d:=by rw[Int.mul_assoc,Int.mul_comm d b,Int.mul_assoc]
 exact Int.le_of_mul_le_mul_right (a:=d) (by omega) hd
theorem ylr1 {a b:Int} (h1 : -1000000000<=a) (h2:a<=1000000000) (h3:1<=b) (h4:b<=1000000000) : -1000000000000000000<=a*b/\a*b<=1000000000000000000:=by
 have e1:=Int.mul_le_mul_of_nonneg_right h2 (show 0<=b by omega)
 have e2:=Int.mul_le_mul_of_nonneg_right h1 (show 0<=b by omega)
 omega
theorem yni1 {a:Int} (h1 : -1000000000000000000<=a) (h2:a<=1000000000000000000):Go.RowKit.wrap64 a=a:=by
 unfold Go.RowKit.wrap64
 omega
theorem yzz1:SWO (ltOf cfF) where
 irrefl x:=by rw[ygx1];simp
 trans x y z h1 h2:=by
  rw[ygx1] at *
  have p1:=okR_iff.1 x.2;have p2:=okR_iff.1 y.2;have p3:=okR_iff.1 z.2;simp only[decide_eq_true_eq] at *
  exact ygm1 (by omega) (show 0<y.1.2 by omega) (by omega) h1 h2
 ntrans x y z h1 h2:=by
  rw[ygx1] at *
  have p1:=okR_iff.1 x.2;have p2:=okR_iff.1 y.2;have p3:=okR_iff.1 z.2;simp only[decide_eq_false_iff_not,Int.not_lt] at *
  exact yqj1 (by omega) (show 0<y.1.2 by omega) (by omega) h1 h2
theorem yhx1 {a b:Int×Int} (ga:Int.gcd a.1 a.2=1) (gb:Int.gcd b.1 b.2=1) (pa:0<a.2) (pb:0<b.2) (h:a.1*b.2=b.1*a.2):a=b:=by
 obtain⟨p,q⟩:=a
 obtain⟨r,s⟩:=b
 simp only at *
 have hn:p.natAbs*s.natAbs=r.natAbs*q.natAbs:=by rw[← Int.natAbs_mul,← Int.natAbs_mul,h]
 have c1:Nat.Coprime p.natAbs q.natAbs:=ga
 have c2:Nat.Coprime r.natAbs s.natAbs:=gb
 have d1:s.natAbs∣q.natAbs:=by
  have:s.natAbs∣r.natAbs*q.natAbs:=⟨p.natAbs,by rw[← hn];exact Nat.mul_comm _ _⟩
  exact c2.symm.dvd_of_dvd_mul_left this
 have d2:q.natAbs∣s.natAbs:=by
  have:q.natAbs∣p.natAbs*s.natAbs:=⟨r.natAbs,by rw[hn];exact Nat.mul_comm _ _⟩
  exact c1.symm.dvd_of_dvd_mul_left this
 have hqs:q.natAbs=s.natAbs:=Nat.dvd_antisymm d2 d1
 have hq:q=s:=by omega
 subst hq
 have:p=r:=Int.eq_of_mul_eq_mul_right (by omega) h
 rw[this]
theorem yaa2 (x y:FR) (h1:ltOf cfF x y=false) (h2:ltOf cfF y x=false):x=y:=by
 rw[ygx1] at *
 have p1:=okR_iff.1 x.2
 have p2:=okR_iff.1 y.2
 simp only[decide_eq_false_iff_not,Int.not_lt] at *
 exact Subtype.ext (yhx1 p1.2.2.2.2 p2.2.2.2.2 (by omega) (by omega) (by omega))
def frs (l:List (Int×Int)) (h:∀ x∈l,okR x=true):List FR:=l.attach.map fun x=>⟨x.1,h x.1 x.2⟩
theorem ymr1 (l:List (Int×Int)) (h:∀ x∈l,okR x=true):(frs l h).map (·.1)=l:=by
 unfold frs
 rw[List.map_map]
 exact List.attach_map_subtype_val l
theorem yix1 (l:List (Int×Int)) (h:∀ x∈l,okR x=true):(frs l h).length=l.length:=by simp[frs]
theorem yut1 (l:List (Int×Int)) (h:∀ x∈l,okR x=true):((frs l h).mergeSort fun x y=> !(ltOf cfF) y x).map (·.1)=sortR l:=by
 rw[List.map_mergeSort (s:=leR) fun a _ b _=>by rw[ygx1];rfl,ymr1]
 rfl
theorem yoi1 (l:List FR) {i:Nat} (hi:i<l.length):(flatK encF 2 l.toArray)[i*2]?=some (.int .i64 l[i].1.1)/\(flatK encF 2 l.toArray)[i*2+1]?=some (.int .i64 l[i].1.2):=by
 have sz:(flatK encF 2 l.toArray).size=l.length*2:=by simp
 have g0:=get_flatK encF 2 l.toArray (i*2) (by simp;omega)
 have g1:=get_flatK encF 2 l.toArray (i*2+1) (by simp;omega)
 have d0:i*2 / 2=i:=by omega
 have d1:(i*2+1) / 2=i:=by omega
 have m0:i*2 % 2=0:=by omega
 have m1:(i*2+1) % 2=1:=by omega
 rw[d0,m0,getElem!_pos l.toArray i (by simpa using hi)] at g0
 rw[d1,m1,getElem!_pos l.toArray i (by simpa using hi)] at g1
 rw[getElem!_pos _ (i*2) (by rw[sz];omega)] at g0
 rw[getElem!_pos _ (i*2+1) (by rw[sz];omega)] at g1
 refine⟨?_,?_⟩
 ·rw[Array.getElem?_eq_getElem (by rw[sz];omega),g0];simp[encF]
 rw[Array.getElem?_eq_getElem (by rw[sz];omega),g1];simp[encF]
theorem yhm1 {n t:Nat} (ht:t<n*2):∃ i,i<n/\(t=i*2\/t=i*2+1):=⟨t / 2,by omega,by omega⟩
theorem yvt1 {w w0:World} {b n c:Nat} {e:TypeId} {F:Nat->Int×Int} {l:List FR} (hW:Wc w0 w b n c e F) (hn:n=l.length) (hF:∀ i (hi:i<l.length),F i=l[i].1):HoldsK encF 2 w b 0 l.toArray:=by
 intro t ht
 have sz:(flatK encF 2 l.toArray).size=l.length*2:=by simp
 rw[sz] at ht
 obtain⟨i,hi,hti⟩:=yhm1 ht
 obtain⟨c0,c1⟩:=hW.cell (show i<n by omega)
 obtain⟨f0,f1⟩:=yoi1 l hi
 rw[Nat.zero_add]
 refine⟨?_,hW.free t⟩
 rw[hF i hi] at c0 c1
 rcases hti with rfl | rfl
 ·rw[c0,getElem!_pos _ (i*2) (by rw[sz];omega)]
  rw[Array.getElem?_eq_getElem (by rw[sz];omega)] at f0
  exact f0.symm
 rw[c1,getElem!_pos _ (i*2+1) (by rw[sz];omega)]
 rw[Array.getElem?_eq_getElem (by rw[sz];omega)] at f1
 exact f1.symm
theorem yxg1 {w w0:World} {b n c q:Nat} {e:TypeId} {F:Nat->Int×Int} {l:List FR} (os:Array Obj) (hW:Wc w0 w b n c e F) (hn:n=l.length) :
  ∃ arr:Array Value,(sortWorldK encF 2 w b 0 q l.toArray os).heap[b]?=some (.cells arr e (0,0))/\arr.size=c/\∀ i (hi:i<l.length),arr[i*2]?=some (.int .i64 l[i].1.1)/\arr[i*2+1]?=some (.int .i64 l[i].1.2):=by
 obtain⟨arr,h1,h2,h3⟩:=hW.at'
 have hb:b<w.heap.size:=(Array.getElem?_eq_some_iff.1 h1).1
 refine⟨putCells id 0 (flatK encF 2 l.toArray) arr,?_,by simp[putCells,h2],fun i hi=>?_⟩
 ·unfold sortWorldK grow putRowK putRow mapBlock Sort.ahead
  simp only
  rw[Array.getElem?_append_left (by simpa using hb),Array.getElem?_modify,if_pos rfl,h1];rfl
 obtain⟨f0,f1⟩:=yoi1 l hi
 have h3i:=h3 i (by omega)
 have l1:i*2+1<arr.size:=(Array.getElem?_eq_some_iff.1 h3i.2).1
 have sz:(flatK encF 2 l.toArray).size=l.length*2:=by simp
 have at0:∀ t,t<l.length*2->t<arr.size->(putCells id 0 (flatK encF 2 l.toArray) arr)[t]?=(flatK encF 2 l.toArray)[t]?:=fun t ht hts=>by
  unfold putCells;rw[Array.getElem?_mapIdx,Array.getElem?_eq_getElem hts];simp only[Option.map_some,Nat.zero_le,true_and,Nat.zero_add,Nat.sub_zero,id];rw[if_pos (by rw[sz];exact ht),getElem!_pos _ t (by rw[sz];exact ht),Array.getElem?_eq_getElem (by rw[sz];exact ht)]
 rw[at0 (i*2) (by omega) (by omega),at0 (i*2+1) (by omega) (by omega)]
 exact⟨f0,f1⟩
theorem yim1 {f g:FuncId} {e:TypeId} {l:List (Int×Int)} (hc:callable P f=true) (hs:esz P e=2) (hok:∀ x∈l,okR x=true) (hlen:l.length<4611686018427387904)
  (h1:∀ (b cap:Nat) (d:Array FR) (w:World),HoldsK encF 2 w b 0 d->b<w.heap.size->d.size<4611686018427387904->Calls P f #[.slice (some ⟨b,0,none⟩) d.size cap,.func (.func g) #[] #[]] w fun e w'=>e=.returned (.tuple #[])/\∃ n os,w'=sortWorldK encF 2 w b 0 n (d.toList.mergeSort fun x y=> !(ltOf cfF) y x).toArray os)
  (h2:∀ w:World,Calls P f #[.slice none 0 0,.func (.func g) #[] #[]] w fun e' w'=>e'=.returned (.tuple #[])/\w'=w) :
  MeetsB P f (.ov false [.sl (some e) (l.map (eP eI eI))]) [.v (.func (.func g) #[] #[])] [] (.ov false [.sl (some e) ((sortR l).map (eP eI eI))]):=by
 refine⟨hc,fun w A L0 v0 vs hA hL hinj hlent hargs=>?_⟩
 obtain⟨v1,rfl,rfl⟩:∃ v1,vs=[v1]/\v1=.func (.func g) #[] #[]:=by
  match vs,hargs with
  | [v1],hargs=>exact⟨v1,rfl,hargs.1⟩
  | v1::v2::vs,hargs=>exact hargs.2.elim
 obtain⟨⟨hv,_⟩,hrep⟩:=hlent
 have hrep:=hrep 0 _ rfl
 rw[hv] at hrep
 have hrep:Rep P A L0 w 0 [(0,0)] v0 (.sl (some e) (l.map (eP eI eI))):=hrep
 have cs:(v0=.slice none 0 0/\l.map (eP eI eI)=[])\/∃ (g cap:Nat) (arr:Array Value),v0=.slice (some ⟨g,0,none⟩) (l.map (eP eI eI)).length cap/\L0 g=some (0,[(0,0)])/\w.heap[g]?=some (.cells arr e (0,0))/\(l.map (eP eI eI)).length<=cap/\cap<=maxLen/\arr.size=cap*esz P e /\
   ∀ (i:Nat) (row:List C) (o:Nat) (c:C),(l.map (eP eI eI))[i]?=some row->row[o]?=some c->Rep P A L0 w 0 ([(0,0)]++[(i,o)]) (arr.getD (i*esz P e+o) undef) c:=ymi1 hrep
 rcases cs with⟨rfl,hnil⟩ | ⟨b,cap,arr,rfl,hl,hg,hn,hm,ha,hr⟩
 ·have hl0:l=[]:=by simpa using hnil
  subst hl0;refine(h2 w).mono fun e' w' h=>?_
  obtain⟨rfl,rfl⟩:=h;refine⟨_,L0,rfl,⟨⟨rfl,rfl,rfl,Nat.le_refl _,fun _ _ _=>rfl⟩,hinj,fun b l h=>⟨(hL b l h).1,.inr (by rw[h];simp)⟩,⟨#[],rfl,rfl,fun j r hj=>(by simp at hj)⟩,⟨rfl,rfl⟩,fun j c hj=>?_⟩⟩
  cases j with
  | zero =>
   obtain rfl:=Option.some.inj hj
   have:sortR []=[]:=by simp[sortR]
   rw[this];exact .onil
  | succ j=>simp at hj
 have hln:(l.map (eP eI eI)).length=l.length:=List.length_map ..
 rw[hln] at hn
 rw[show(Value.slice (some ⟨b,0,none⟩) (l.map (eP eI eI)).length cap)=.slice (some ⟨b,0,none⟩) l.length cap by rw[hln]]
 have hW:=yab2 hs hg ha hn hr
 have hfl:=yix1 l hok
 have hsz:(frs l hok).toArray.size=l.length:=by simpa using hfl
 have hval:=ymr1 l hok
 have hH:HoldsK encF 2 w b 0 (frs l hok).toArray:=yvt1 hW (by rw[hfl]) fun i hi=>by
  have e1:((frs l hok).map (·.1))[i]?=some (frs l hok)[i].1:=by rw[List.getElem?_map,List.getElem?_eq_getElem hi];rfl
  rw[hval] at e1;rw[List.getD_eq_getElem?_getD,e1];rfl
 have hlg:b<w.heap.size:=(Array.getElem?_eq_some_iff.1 hg).1
 have hcall:=h1 b cap (frs l hok).toArray w hH hlg (by rw[hsz];exact hlen)
 rw[hsz] at hcall
 refine hcall.mono fun e' w' h=>?_
 obtain⟨rfl,q,os,rfl⟩:=h
 have hst:=yut1 l hok
 have hpl:((frs l hok).mergeSort fun x y=> !(ltOf cfF) y x).length=l.length:=by rw[List.length_mergeSort,hfl]
 obtain⟨arr',q1,q2,q3⟩:=yxg1 (q:=q) (l:=(frs l hok).mergeSort fun x y=> !(ltOf cfF) y x) os hW (by rw[hpl])
 have hsl:(sortR l).length=l.length:=by unfold sortR;exact List.length_mergeSort l
 have hW':Wc (sortWorldK encF 2 w b 0 q ((frs l hok).mergeSort fun x y=> !(ltOf cfF) y x).toArray os) (sortWorldK encF 2 w b 0 q ((frs l hok).mergeSort fun x y=> !(ltOf cfF) y x).toArray os) b l.length (cap*2) e (fun i=>(sortR l).getD i (0,0)):=⟨rfl,rfl,rfl,rfl,fun _ _=>rfl,arr',q1,q2,fun i hi=>by
  have hi':i<((frs l hok).mergeSort fun x y=> !(ltOf cfF) y x).length:=by omega
  have e1:(((frs l hok).mergeSort fun x y=> !(ltOf cfF) y x).map (·.1))[i]?=some ((frs l hok).mergeSort fun x y=> !(ltOf cfF) y x)[i].1:=by rw[List.getElem?_map,List.getElem?_eq_getElem hi'];rfl
  rw[hst] at e1;have e2:(sortR l).getD i (0,0)=((frs l hok).mergeSort fun x y=> !(ltOf cfF) y x)[i].1:=by rw[List.getD_eq_getElem?_getD,e1];rfl
  rw[e2];exact q3 i hi'⟩
 have hsize:w.heap.size<=(sortWorldK encF 2 w b 0 q ((frs l hok).mergeSort fun x y=> !(ltOf cfF) y x).toArray os).heap.size:=by
  unfold sortWorldK grow putRowK putRow mapBlock Sort.ahead
  simp
 refine⟨_,L0,rfl,⟨⟨rfl,rfl,rfl,hsize,fun j hj hb=>?_⟩,hinj,fun b l h=>⟨Nat.lt_of_lt_of_le (hL b l h).1 hsize,.inr (by rw[h];simp)⟩,⟨#[],rfl,rfl,fun j r hj=>(by simp at hj)⟩,⟨rfl,rfl⟩,fun j c hj=>?_⟩⟩
 ·have hne:j≠b:=fun h=>by
   subst h;exact hb (by show L0 j≠none;rw[hl];simp)
  unfold sortWorldK grow putRowK putRow mapBlock Sort.ahead
  simp only
  rw[Array.getElem?_append_left (by simpa using hj),Array.getElem?_modify,if_neg (Ne.symm hne)]
 cases j with
 | zero =>
  obtain rfl:=Option.some.inj hj
  have:=yfx1 (P:=P) (Z:=fun b_1=>L0 b_1=none/\b_1<(sortWorldK encF 2 w b 0 q ((frs l hok).mergeSort fun x y=> !(ltOf cfF) y x).toArray os).heap.size/\((A b_1\/L0 b_1≠none)\/w.heap.size<=b_1)) (L:=L0) (s:=0) (p:=[(0,0)]) (l:=sortR l) hs hW' hl (by omega) hn hm (fun i hi=>by rw[List.getD_eq_getElem?_getD,List.getElem?_eq_getElem hi];rfl)
  rw[hsl] at this;exact this
 | succ j=>simp at hj
end Go.PV

/-
 A walk of a range over a function: the loop.
 Conditions: none.
-/
set_option linter.all false
namespace Go.PV
open Go.RowKit
variable {P:Program} {N:Nat}
def markOf (D:Nat):Deferred:={ target:=.collected D,args:=#[] }
def liftF (P:Program) (N:Nat) (w0:World) (A:Nat->Prop) (I:Bor) (Q:LS->Prop):Exit->Act->World->Prop
 | .normal,a,w | .ret,a,w=>∃ a0 L l' ds,a=dz ds a0/\Rel P N N w0 A I (ofL l') a0 w L/\Q l' /\
   (ds=[]\/∃ D,ds=[markOf D]/\w0.heap.size<=D/\w.heap[D]?=some (.deferred (some []))/\l'.all (fun x=>simpleS x.2)=true)
 | _,_,_=>False
def OkF (P:Program) (N:Nat) (c:Code) (l:LS) (Q:LS->Prop):Prop :=
 ∀ n,2<=n->∀ w0 A I a w L,I.pins=[]->Rel P N N w0 A I (ofL l) a w L->c.wpIn (Fx none) n P (liftF P N w0 A I Q) a w
def OkT (P:Program) (N:Nat) (c rest:Code) (l:LS) (Q:LS->Prop):Prop :=
 ∀ n,2<=n->∀ w0 A I a w L,I.pins=[]->Rel P N N w0 A I (ofL l) a w L->c.wpIn (Fx none) n P (Exit.then (rest.wpIn (Fx none) n P (liftF P N w0 A I Q)) (liftF P N w0 A I Q)) a w
def Turns {α:Type} (P:Program) (f:FuncId) (caps:List (Bool×List C)) (encs:α->Array Value) (S Sp:List α->Prop) (n:Nat):Prop :=
 ∀ (Z:Nat->Prop) (w:World) (v:Value) (m:Nat),FrzV Z w false v [.fn f caps]->(∀ b,Z b->b<w.heap.size)->1<=m ->
  ∃ lb,v=.func (.func f) #[] lb/\SeqStopsK (Fx none) m P f lb encs (fun W W'=>∀ b,Z b->W'.heap[b]?=W.heap[b]?) S Sp n w
section
variable {w0:World} {A:Nat->Prop} {I:Bor} {a:Act} {w:World} {L:Lab}
end
def pinsOf (K:Nat) (a:Act):List Value:=(List.range K).map fun s=>a.tmps.getD s undef
end Go.PV

/-
 A walk over pure values: a function value that has caught two boxes,and its calls.
 Conditions: none.
-/
set_option linter.all false
namespace Go.PV
variable {P:Program} {N:Nat}
def ptTo (b:Nat):Value:=.pointer (some ⟨b,0,none⟩)
def Takes (P:Program) (f:FuncId) (y:Value) (xs ys xs' ys':List Value):Prop :=
 callable P f=true/\∀ (w:World) (A:Nat->Prop) (b1 b2:Nat) (e1 e2:TypeId),
  ((∀ b,A b->b<w.heap.size/\b≠b1/\b≠b2)/\Tabs P A w)->b1≠b2 ->
  w.heap[b1]?=some (.cells xs.toArray e1 (0,0))->w.heap[b2]?=some (.cells ys.toArray e2 (0,0)) ->
  Calls P f #[y,ptTo b1,ptTo b2] w (fun e w'=>∃ v,e=.returned v/\Ev ⟨fun b=>b=b1\/b=b2,[]⟩ w w' /\
   (∃ e,w'.heap[b1]?=some (.cells xs'.toArray e (0,0)))/\∃ e,w'.heap[b2]?=some (.cells ys'.toArray e (0,0)))
theorem ynr1 {Z:Nat->Prop} {L:Lab} {w:World} {s b:Nat} {xs:List Value} {e:TypeId} (hL:L b=some (s,[])) (hw:w.heap[b]?=some (.cells xs.toArray e (0,0))) (hs:xs.all scal=true):BoxAt P Z L w s b (xs.map .raw):=by
 refine⟨hL,xs.toArray,e,hw,by simp,fun j c hj=>?_⟩
 rw[List.getElem?_map] at hj
 cases hx:xs[j]? with
 | none=>rw[hx] at hj;cases hj
 | some v =>
  rw[hx] at hj;simp only[Option.map_some,Option.some.injEq] at hj;subst hj;have hv:xs.toArray.getD j undef=v:=by simp[Array.getD_eq_getD_getElem?,hx]
  rw[hv];exact⟨.frz (.raw (List.all_eq_true.1 hs v (List.mem_of_getElem? hx))),fun t h=>by cases h⟩
theorem yor1 {Z:Nat->Prop} {L:Lab} {w:World} {s b:Nat} {xs:List Value} (h:BoxAt P Z L w s b (xs.map .raw)):∃ e,w.heap[b]?=some (.cells xs.toArray e (0,0)):=by
 obtain⟨_,arr,e,h2,h3,h4⟩:=h
 refine⟨e,?_⟩
 rw[h2]
 have:arr=xs.toArray:=by
  apply Array.ext
  ·simpa using h3
  intro i h5 h6;have h7:i<xs.length:=by simpa using h6
  have:=(h4 i (.raw xs[i]) (by simp[h7])).1.raw_eq
  rw[Array.getD_eq_getD_getElem?,Array.getElem?_eq_getElem h5] at this;simpa using this
 rw[this]
end Go.PV

/-
 A walk over pure values: code within which two boxes are caught by a function value,and that value is called.
 Conditions: none.
-/
set_option linter.all false
namespace Go.PV
variable {P:Program} {N:Nat} {r1 b1 r2 b2:Nat}
def OkV (P:Program) (N r1 b1 r2 b2:Nat) (c:Code) (l:LS) (Q:Ex->LS->Prop):Prop :=
 ∀ w0 A I a w L,codeB I.pins.length N c=true->I.pins[r1]?=some (ptTo b1)->I.pins[r2]?=some (ptTo b2)->Rel P N N w0 A I (ofL l) a w L->c.wp P (lift P N w0 A I fun e σ=>∃ l',(σ=ofL l'\/agree l' σ)/\Q e l') a w
theorem ywt1 {w0 w:World} {A:Nat->Prop} {I I':Bor} {σ:St} {a:Act} {L:Lab} (hR:Rel P N N w0 A I σ a w L) (hb:I'.blk=I.blk) (hp:∀ s v,I'.pins[s]?=some v->a.tmps.getD s undef=v):Rel P N N w0 A I' σ a w L:=by
 obtain⟨blk,pins⟩:=I
 obtain⟨blk',pins'⟩:=I'
 simp only at hb
 subst hb
 exact⟨hR.dfr,hR.siz,⟨hR.ev.os,hR.ev.tape,hR.ev.output,hR.ev.size,hR.ev.block⟩,hR.inj,hR.lab,hR.out,hR.hA,hp,hR.slot⟩
def clo (f:FuncId) (b1 b2:Nat):Value:=.func (.func f) #[] #[ptTo b1,ptTo b2]
theorem yjm1 {w0:World} {A:Nat->Prop} {I:Bor} {ops:Array Oper} {Q:Exit->Act->World->Prop} {K:St->Prop} {rest:List Nat} (hB:opsB I.pins.length N ops.toList=true) (hK:∀ a w σ L,K σ->Rel P N N w0 A I σ a w L->wpOps P ops Q rest a w):∀ (l:List Oper) (k:Nat) (σ:St) (a:Act) (w:World) (L:Lab),
  (∀ j,j<l.length->l[j]?=ops[k+j]?)->Rel P N N w0 A I σ a w L->pvL P ops l σ K->wpOps P ops Q (List.range' k l.length++rest) a w
 | [],k,σ,a,w,L,_,hR,h=>hK a w σ L h hR
 | o::l,k,σ,a,w,L,hl,hR,h=>by
  have ho:ops[k]?=some o:=by simpa using(hl 0 (by simp)).symm
  have hl':∀ j,j<l.length->l[j]?=ops[k+1+j]?:=fun j hj=>by have:=hl (j+1) (by simpa using hj);simpa [Nat.add_assoc,Nat.add_comm 1 j] using this
  have hd:∀ d,o.dst=some d->I.pins.length<=d/\d<N:=fun d hd=>by
   have:=List.all_eq_true.1 hB o (by have:=Array.mem_of_getElem? ho;simpa using this)
   rw[hd] at this;simpa using this
  simp only[List.length_cons,List.range'_succ,List.cons_append,wpOps,ho];rcases yto1 hR h with⟨h1,h2⟩ | ⟨h1,h2⟩
  ·rw[if_pos h1]
   exact .inl (yao hR hd h2 fun a' w' σ' L' h3 h4=>yjm1 hB hK l (k+1) σ' a' w' L' hl' h4 h3)
  rw[if_neg (by rw[h1];simp)]
  obtain⟨L',h3⟩:=yut (tv:=undef) (sv:=.p (.tuple #[])) hR.up rfl o.dst hd
  exact yjm1 hB hK l (k+1) _ _ w L' hl' h3 h2
def afterT (r1 r2 d:Nat) (X Y:SV) (l:LS):LS:=l.map fun x=>if x.1=r1 then(x.1,X) else if x.1=r2 then(x.1,Y) else if x.1=d then(x.1,.u) else x
def xPre (P:Program) (n:Nat) (ops:List Oper) (hs:List (Nat×HH)) (l0 l1:LS):Option (LS×List Prop):=match xL P ops.toArray hs 0 (ops.take n) (ofL l0) with
 | some (σ',obs)=>if refsOk l1=true then some (readL σ' l1,obs) else none
 | none=>none
end Go.PV

/-
 A walk over pure values: a region of which one operation is served by a rule of its own;memory that is asked for ahead (slices.Grow of nothing).
 Conditions: none.
-/
set_option linter.all false
namespace Go.PV
variable {P:Program} {N:Nat}
def Mid (P:Program) (N:Nat) (o:Oper) (l1 l2:LS):Prop:=∀ (w0:World) (A:Nat->Prop) (I:Bor) (a:Act) (w:World) (L:Lab) (next:Act->World->Prop) (Q:Exit->Act->World->Prop),Rel P N N w0 A I (ofL l1) a w L ->
 (∀ d,o.dst=some d->I.pins.length<=d/\d<N)->(∀ a' w' L',Rel P N N w0 A I (ofL l2) a' w' L'->next a' w')->o.wp P a w next Q
def xPost (P:Program) (n:Nat) (ops:List Oper) (hs:List (Nat×HH)) (l2 l3:LS):Option (LS×List Prop):=match xL P ops.toArray hs (n+1) (ops.drop (n+1)) (ofL l2) with
 | some (σ',obs)=>if refsOk l3=true then some (readL σ' l3,obs) else none
 | none=>none
def growOk (i:TypeInfo):Bool:=match i.zero with
 | some z=>z.cells.size==i.size&&(decide (0<i.size)&&decide (i.bytes<=128))
 | none=>false
end Go.PV

/-
 A walk over pure values: a function value that has caught a box with a mark and two frozen boxes,called within another function.
 Conditions: none.
-/
set_option linter.all false
namespace Go.PV
variable {P:Program} {N:Nat}
def TakesR (P:Program) (f:FuncId) (y:Value) (s s':Bool) (fc gc:List C) (v:Value):Prop :=
 callable P f=true/\∀ (w:World) (A:Nat->Prop) (b1:Nat) (e1:TypeId) (v2 v3:Value),
  ((∀ b,A b->b<w.heap.size/\b≠b1)/\Tabs P A w)->w.heap[b1]?=some (.cells #[.bool s] e1 (0,0))->Frz A w v2 (.pt fc)->Frz A w v3 (.pt gc) ->
  Calls P f #[y,ptTo b1,v2,v3] w (fun e w'=>e=.returned v/\Ev ⟨fun b=>b=b1,[]⟩ w w'/\∃ e,w'.heap[b1]?=some (.cells #[.bool s'] e (0,0)))
structure Bs (b1:Nat) (v2 v3:Value) (fc gc:List C) (w00:World) (A00:Nat->Prop) (I00:Nat->Prop) (s:Bool) (w0:World) (A:Nat->Prop) (I:Bor):Prop where
 pins:I.pins=[]
 size:w00.heap.size<=w0.heap.size
 os:w0.os=w00.os
 tape:w0.tape=w00.tape
 output:w0.output=w00.output
 block:∀ b,b<w00.heap.size->¬ I00 b->b≠b1->w0.heap[b]?=w00.heap[b]?
 hA:∀ b,A b->A00 b\/w00.heap.size<=b
 hI:∀ b,b∈I->I00 b\/w00.heap.size<=b
 lt:b1<w0.heap.size
 nA:¬ A b1
 nI:b1∉I
 cell:∃ e,w0.heap[b1]?=some (.cells #[.bool s] e (0,0))
 f2:Frz (fun b=>A b/\b∉I) w0 v2 (.pt fc)
 f3:Frz (fun b=>A b/\b∉I) w0 v3 (.pt gc)
def clR (f:FuncId) (b1:Nat) (v2 v3:Value):Value:=.func (.func f) #[] #[ptTo b1,v2,v3]
section
variable {b1:Nat} {v2 v3:Value} {fc gc:List C} {w00:World} {A00 I00:Nat->Prop}
def liftD (P:Program) (N:Nat) (b1:Nat) (v2 v3:Value) (fc gc:List C) (w00:World) (A00 I00:Nat->Prop) (Q:Ex->LS->Bool->Prop):Exit->Act->World->Prop
 | .normal,a,w=>∃ s w0 A I L l,Bs b1 v2 v3 fc gc w00 A00 I00 s w0 A I/\Rel P N N w0 A I (ofL l) a w L/\Q .normal l s
 | .exit id,a,w=>∃ s w0 A I L l,Bs b1 v2 v3 fc gc w00 A00 I00 s w0 A I/\Rel P N N w0 A I (ofL l) a w L/\Q (.exit id) l s
 | .ret,a,w=>∃ s w0 A I L l,Bs b1 v2 v3 fc gc w00 A00 I00 s w0 A I/\Rel P N N w0 A I (ofL l) a w L/\Q .ret l s
 | _,_,_=>False
def OkD (P:Program) (N:Nat) (b1:Nat) (v2 v3:Value) (fc gc:List C) (w00:World) (A00 I00:Nat->Prop) (c:Code) (l:LS) (s:Bool) (Q:Ex->LS->Bool->Prop):Prop :=
 codeB 0 N c=true->∀ w0 A I a w L,Bs b1 v2 v3 fc gc w00 A00 I00 s w0 A I->Rel P N N w0 A I (ofL l) a w L->c.wp P (liftD P N b1 v2 v3 fc gc w00 A00 I00 Q) a w
theorem d_ok {c:Code} {l:LS} {s:Bool} {Q:Ex->LS->Bool->Prop} (h:OkL P N c l fun e l'=>Q e l' s):OkD P N b1 v2 v3 fc gc w00 A00 I00 c l s Q:=fun hB w0 A I a w L hb hR=>by
 refine wp_mono (h 0 hB w0 A I a w L (by rw[hb.pins];rfl) hR) fun e a' w' hl=>?_
 cases e with
 | normal=>obtain⟨σ,L',h1,l',h2,h3⟩:=hl;exact⟨s,w0,A,I,L',l',hb,ycd1 h1 h2,h3⟩
 | exit id=>obtain⟨σ,L',h1,l',h2,h3⟩:=hl;exact⟨s,w0,A,I,L',l',hb,ycd1 h1 h2,h3⟩
 | ret=>obtain⟨σ,L',h1,l',h2,h3⟩:=hl;exact⟨s,w0,A,I,L',l',hb,ycd1 h1 h2,h3⟩
 | _=>exact hl.elim
def seqD (K:LS->Bool->Prop) (Q:Ex->LS->Bool->Prop):Ex->LS->Bool->Prop:=fun e l s=>match e with
 | .normal=>K l s
 | e=>Q e l s
def blockD (id:Nat) (Q:Ex->LS->Bool->Prop):Ex->LS->Bool->Prop:=fun e l s=>match e with
 | .exit i=>if i=id then Q .normal l s else Q (.exit i) l s
 | e=>Q e l s
theorem OkD.weak {c:Code} {l l':LS} {s:Bool} {Q:Ex->LS->Bool->Prop} (h:OkD P N b1 v2 v3 fc gc w00 A00 I00 c l' s Q) (hw:wk l l'):OkD P N b1 v2 v3 fc gc w00 A00 I00 c l s Q:=fun hB w0 A I a w L hb hR=>h hB w0 A I a w L hb (yrf hR hw)
theorem ysy1 {c d:Code} {l:LS} {s:Bool} {Q:Ex->LS->Bool->Prop} (h:OkD P N b1 v2 v3 fc gc w00 A00 I00 c l s (seqD (fun l' s'=>OkD P N b1 v2 v3 fc gc w00 A00 I00 d l' s' Q) Q)):OkD P N b1 v2 v3 fc gc w00 A00 I00 (.seq c d) l s Q:=fun hB w0 A I a w L hb hR=>by
 simp only[codeB,Bool.and_eq_true] at hB
 refine wp_seq (wp_mono (h hB.1 w0 A I a w L hb hR) fun e a w hl=>?_)
 cases e with
 | normal=>obtain⟨s',w0',A',I',L',l',h1,h2,h3⟩:=hl;exact h3 hB.2 w0' A' I' a w L' h1 h2
 | exit id=>exact hl
 | ret=>exact hl
 | _=>exact hl.elim
theorem yrj1 {c d:Code} {l l1:LS} {s:Bool} {Q:Ex->LS->Bool->Prop} (h:RegOk P N c l l1) (hq:OkD P N b1 v2 v3 fc gc w00 A00 I00 d l1 s Q):OkD P N b1 v2 v3 fc gc w00 A00 I00 (.seq c d) l s Q:=ysy1 (d_ok (h _ hq))
theorem yba2 {c:Operand} {x y:Code} {l:LS} {s:Bool} {Q:Ex->LS->Bool->Prop} (b:Bool) (h1:b=true->OkD P N b1 v2 v3 fc gc w00 A00 I00 x l s Q) (h2:b=false->OkD P N b1 v2 v3 fc gc w00 A00 I00 y l s Q) (hc:evS (ofL l) c=.p (.bool b):=by kernel_rfl):OkD P N b1 v2 v3 fc gc w00 A00 I00 (.cond c x y) l s Q:=fun hB w0 A I a w L hb hR=>by
 simp only[codeB,Bool.and_eq_true] at hB
 refine wp_cond (yjk1 hR hc) ?_
 cases b
 ·exact h2 rfl hB.2 w0 A I a w L hb hR
 exact h1 rfl hB.1 w0 A I a w L hb hR
theorem ypr1 {id:Nat} {c:Code} {l:LS} {s:Bool} {Q:Ex->LS->Bool->Prop} (h:OkD P N b1 v2 v3 fc gc w00 A00 I00 c l s (blockD id Q)):OkD P N b1 v2 v3 fc gc w00 A00 I00 (.block id c) l s Q:=fun hB w0 A I a w L hb hR=>by
 refine wp_block (wp_mono (h hB w0 A I a w L hb hR) fun e a w hl=>?_)
 cases e with
 | normal=>exact hl
 | exit i =>
  obtain⟨s',w0',A',I',L',l',h1,h2,h3⟩:=hl;simp only[Exit.inBlock];unfold blockD at h3;split
  ·rename_i hi
   simp only[hi,if_true] at h3;exact⟨s',w0',A',I',L',l',h1,h2,h3⟩
  rename_i hi;simp only[hi,if_false] at h3;exact⟨s',w0',A',I',L',l',h1,h2,h3⟩
 | ret=>exact hl
 | _=>exact hl.elim
theorem yca2 {X Y:Type} {c:Code} {l:LS} {s:Bool} {Q:Ex->LS->Bool->Prop} {body:X->Option (X ⊕ Y)} {x0:X} {y:Y} (J:X->LS) (m:X->Bool) (h:loopO body x0=some y) (h0:wk l (J x0)) (hs:m x0=s)
  (hr:∀ x o,body x=some o->(∀ y',o=.inr y'->y'=y)->OkD P N b1 v2 v3 fc gc w00 A00 I00 c (J x) (m x) (seqD (fun l' s'=>∃ x',o=.inl x'/\wk l' (J x')/\s'=m x') Q)):OkD P N b1 v2 v3 fc gc w00 A00 I00 (.loop c) l s Q:=by
 refine OkD.weak ?_ h0
 subst hs
 intro hB w0 A I a w L hb hR
 obtain⟨n,hn⟩:=loopO_some.1 h
 refine yfi1 (X:=X×Nat) (fun z a w=>iterO body z.2 z.1=some y/\∃ w0 A I L,Bs b1 v2 v3 fc gc w00 A00 I00 (m z.1) w0 A I/\Rel P N N w0 A I (ofL (J z.1)) a w L) (fun z=>z.2) (x0,n) ⟨hn,w0,A,I,L,hb,hR⟩ fun z a w ⟨hz,w0,A,I,L,hb,hR⟩=>?_
 obtain⟨x,k⟩:=z
 cases k with
 | zero=>cases hz
 | succ k =>
  simp only[iterO] at hz;have go:∀ o,body x=some o->(∀ x',o=.inl x'->iterO body k x'=some y)->(∀ y',o=.inr y'->y'=y)->c.wp P (Exit.then (fun a' w'=>∃ z':X×Nat,(iterO body z'.2 z'.1=some y/\∃ w0 A I L,Bs b1 v2 v3 fc gc w00 A00 I00 (m z'.1) w0 A I/\Rel P N N w0 A I (ofL (J z'.1)) a' w' L)/\z'.2<k+1) (liftD P N b1 v2 v3 fc gc w00 A00 I00 Q)) a w:=fun o hbo h1 h2=>by
   refine wp_mono (hr x o hbo h2 hB w0 A I a w L hb hR) fun e a w hl=>?_
   cases e with
   | normal =>
    obtain⟨s',w0',A',I',L',l',g1,g2,x',g3,g4,rfl⟩:=hl;exact⟨(x',k),⟨h1 x' g3,w0',A',I',L',g1,yrf g2 g4⟩,Nat.lt_succ_self k⟩
   | exit id=>exact hl
   | ret=>exact hl
   | _=>exact hl.elim
  split at hz
  ·rename_i x' hbo
   exact go _ hbo (fun x'' h=>by cases h;exact hz) (fun y' h=>by cases h)
  ·rename_i y' hbo
   exact go _ hbo (fun x'' h=>by cases h) (fun y'' h=>by cases h;exact Option.some.inj hz)
  cases hz
theorem yda2 {s:Bool} {w0 w:World} {A:Nat->Prop} {I:Bor} {σ:St} {a:Act} {L:Lab} (hb:Bs b1 v2 v3 fc gc w00 A00 I00 s w0 A I) (hR:Rel P N N w0 A I σ a w L):L b1=none/\w.heap[b1]?=w0.heap[b1]?:=by
 have h2:=hR.ev.block b1 hb.lt hb.nI
 refine⟨?_,h2⟩
 cases hl:L b1 with
 | none=>rfl
 | some x =>
  rcases(hR.lab b1 x hl).2.1 with h | h
  ·have:=hb.lt;omega
  exact absurd h hb.nI
theorem yjx1 {s:Bool} {w0 w:World} {A:Nat->Prop} {I:Bor} {σ:St} {a:Act} {L:Lab} (hb:Bs b1 v2 v3 fc gc w00 A00 I00 s w0 A I) (hR:Rel P N N w0 A I σ a w L):∀ b,(A b/\b∉I)->Zof w0 A L w b/\w.heap[b]?=w0.heap[b]?:=fun b h=>by
 have h1:=hR.hA.1.1 b h.1
 have hL:L b=none:=by
  cases hl:L b with
  | none=>rfl
  | some x =>
   rcases(hR.lab b x hl).2.1 with h' | h'
   ·omega
   exact absurd h' h.2
 exact⟨⟨hL,Nat.lt_of_lt_of_le h1 hR.ev.size,.inl h.1⟩,hR.ev.block b h1 h.2⟩
theorem yhb2 {f:FuncId} {s s':Bool} {y v:Value} {w0 w:World} {A:Nat->Prop} {I:Bor} {σ:St} {a:Act} {L:Lab} {o:Oper} {fs ar d:Nat} {ts:Array TypeId} {next:Act->World->Prop} {Q:Exit->Act->World->Prop} (hT:TakesR P f y s s' fc gc v) (hb:Bs b1 v2 v3 fc gc w00 A00 I00 s w0 A I) (hR:Rel P N N w0 A I σ a w L)
  (ho:o.op=.call { callee:=.value (.tmp fs),args:=#[.tmp ar],argTypes:=ts }/\o.dst=some d) (hd:d<N) (h1:σ fs=.p (clR f b1 v2 v3)) (h2:σ ar=.p y)
  (hn:∀ w0' A' I' a' w' L',Bs b1 v2 v3 fc gc w00 A00 I00 s' w0' A' I'->Rel P N N w0' A' I' (put σ d (.p v)) a' w' L'->next a' w'):o.wp P a w next Q:=by
 obtain⟨l1,e1⟩:=yda2 hb hR
 have hfree:=yjx1 hb hR
 obtain⟨ec,hc⟩:=hb.cell
 have hz1:¬ Zof w0 A L w b1:=fun h=>by
  rcases h.2.2 with h | h
  ·exact hb.nA h
  have:=hb.lt;omega
 have hFe:evS σ (.tmp fs)=.p (clR f b1 v2 v3):=by simp[evS,h1]
 have hYe:evS σ (.tmp ar)=.p y:=by simp[evS,h2]
 refine yoz ho.1 (yjk1 hR hFe) hT.1 ?_
 have ea:(#[Operand.tmp ar].map a.eval++#[ptTo b1,v2,v3])=#[y,ptTo b1,v2,v3]:=by simp[yjk1 hR hYe]
 rw[ea]
 refine(hT.2 w (Zof w0 A L w) b1 ec v2 v3 ⟨fun b hb'=>⟨hb'.2.1,fun h=>hz1 (h▸hb')⟩,ytw hR⟩ (by rw[e1,hc]) (hb.f2.mono fun b h=>hfree b h) (hb.f3.mono fun b h=>hfree b h)).mono ?_
 rintro e w' ⟨rfl,ev,e',hc'⟩
 refine⟨v,rfl,?_⟩
 rw[ho.2]
 -- the tale begins anew
 let A':Nat->Prop:=fun b=>Zof w0 A L w b\/L b≠none
 let I':Bor:=⟨fun b=>L b≠none,[]⟩
 have hsame:∀ b,b<w.heap.size->b≠b1->w'.heap[b]?=w.heap[b]?:=fun b h h'=>ev.block b h h'
 have hlt:∀ b x,L b=some x->b<w.heap.size/\b≠b1:=fun b x h=>⟨(hR.lab b x h).1,fun e=>by subst e;rw[l1] at h;cases h⟩
 have hzz:∀ b,Zof w0 A L w b->(A' b/\b∉I')/\w'.heap[b]?=w.heap[b]?:=fun b h=>⟨⟨.inl h,fun hh=>hh h.1⟩,hsame b h.2.1 fun e=>hz1 (e▸h)⟩
 have hR':Rel P N N w' A' I' σ a w' L:=by
  refine⟨hR.dfr,hR.siz,⟨rfl,rfl,rfl,Nat.le_refl _,fun _ _ _=>rfl⟩,hR.inj,fun b x h=>⟨Nat.lt_of_lt_of_le (hR.lab b x h).1 ev.size,.inr (by show L b≠none;rw[h];simp),(hR.lab b x h).2.2⟩,hR.out,⟨⟨fun b h=>?_,(ytw hR).mono fun b h=>hzz b h⟩,fun b h=>.inr h⟩,fun t v h=>by simp[I'] at h,fun t=>?_⟩
  ·rcases h with h | h
   ·exact Nat.lt_of_lt_of_le h.2.1 ev.size
   obtain⟨x,hx⟩:=Option.ne_none_iff_exists'.1 h
   exact Nat.lt_of_lt_of_le (hR.lab b x hx).1 ev.size
  refine(hR.slot t).keep (fun b h=>⟨⟨h.1,Nat.lt_of_lt_of_le h.2.1 ev.size,.inl (.inl h)⟩,(hzz b h).2⟩) (fun b q _ h=>⟨h,hsame b (hlt b _ h).1 (hlt b _ h).2⟩) fun r _ hr=>⟨fun b q h=>⟨h,hsame b (hlt b _ h).1 (hlt b _ h).2⟩,rfl,hr,rfl⟩
 have hb':Bs b1 v2 v3 fc gc w00 A00 I00 s' w' A' I':=by
  have hold:∀ b,(A b\/w0.heap.size<=b)->A00 b\/w00.heap.size<=b:=fun b h=>by
   rcases h with h | h
   ·exact hb.hA b h
   exact .inr (Nat.le_trans hb.size h)
  refine⟨rfl,Nat.le_trans hb.size (Nat.le_trans hR.ev.size ev.size),ev.os.trans (hR.ev.os.trans hb.os),ev.tape.trans (hR.ev.tape.trans hb.tape),ev.output.trans (hR.ev.output.trans hb.output),fun b g1 g2 g3=>?_,fun b h=>?_,fun b h=>?_,Nat.lt_of_lt_of_le hb.lt (Nat.le_trans hR.ev.size ev.size),fun h=>?_,fun h=>h l1,⟨e',hc'⟩,hb.f2.mono fun b h=>?_,hb.f3.mono fun b h=>?_⟩
  ·have hlt0:b<w0.heap.size:=Nat.lt_of_lt_of_le g1 hb.size
   have hnI:b∉I:=fun h=>by
    rcases hb.hI b h with h | h
    ·exact g2 h
    omega
   exact(hsame b (Nat.lt_of_lt_of_le hlt0 hR.ev.size) g3).trans ((hR.ev.block b hlt0 hnI).trans (hb.block b g1 g2 g3))
  ·rcases h with h | h
   ·exact hold b h.2.2
   obtain⟨x,hx⟩:=Option.ne_none_iff_exists'.1 h
   rcases(hR.lab b x hx).2.1 with h | h
   ·exact .inr (Nat.le_trans hb.size h)
   exact hb.hA b (hR.hA.2 b h)
  ·obtain⟨x,hx⟩:=Option.ne_none_iff_exists'.1 (show L b≠none from h)
   rcases(hR.lab b x hx).2.1 with h | h
   ·exact .inr (Nat.le_trans hb.size h)
   exact hb.hI b h
  ·rcases h with h | h
   ·exact hz1 h
   exact h l1
  ·obtain⟨z,e⟩:=hfree b h
   exact⟨(hzz b z).1,(hzz b z).2.trans e⟩
  obtain⟨z,e⟩:=hfree b h;exact⟨(hzz b z).1,(hzz b z).2.trans e⟩
 obtain⟨L1,hR1⟩:=hR'.putV (d:=d) ⟨by simp[I'],hd⟩ v
 exact hn _ _ _ _ _ _ hb' hR1
def pvTD (P:Program) (ops:Array Oper) (c d:Nat) (fv y v:Value) (fs ar:Nat) (K:St->Prop):Nat->Array Bool->St->Prop
 | 0,listed,σ=>Region.ready .any ops listed=[]/\listed.getD c false=true/\K σ
 | f+1,listed,σ=>match freeAt ops listed with
  | some k=>k≠c/\∃ o,ops[k]?=some o/\o.guard=none/\pvOpF P o σ fun σ'=>pvTD P ops c d fv y v fs ar K f (listed.setIfInBounds k true) σ'
  | none=>(Region.ready .any ops listed=[]->listed.getD c false=true/\K σ)/\∀ i∈Region.ready .any ops listed,if i=c then σ fs=.p fv/\σ ar=.p y/\listed.getD c false=false/\c<listed.size/\pvTD P ops c d fv y v fs ar K f (listed.setIfInBounds c true) (put σ d (.p v))
   else ∃ o,ops[i]?=some o/\o.guard=none/\pvOpF P o σ fun σ'=>pvTD P ops c d fv y v fs ar K f (listed.setIfInBounds i true) σ'
theorem ykm1 {l:Array Bool} {i c:Nat} (h:i≠c):(l.setIfInBounds i true).getD c false=l.getD c false:=by
 rw[Array.getD_eq_getD_getElem?,Array.getD_eq_getD_getElem?,Array.getElem?_setIfInBounds,if_neg h]
theorem ylm1 {f:FuncId} {s s':Bool} {y v:Value} {ops:Array Oper} {oc:Oper} {Q:Exit->Act->World->Prop} {K:St->Prop} {c d fs ar:Nat} {ts:Array TypeId} (hO:opsB 0 N ops.toList=true) (hQ:∀ c a w,¬ Q (.panic c) a w) (hT:TakesR P f y s s' fc gc v)
  (hoc:ops[c]?=some oc) (ho:oc.op=.call { callee:=.value (.tmp fs),args:=#[.tmp ar],argTypes:=ts }/\oc.dst=some d/\oc.guard=none)
  (hK:∀ w0 A I a w σ L,K σ->Bs b1 v2 v3 fc gc w00 A00 I00 s' w0 A I->Rel P N N w0 A I σ a w L->Q .normal a w) :
  ∀ (fuel:Nat) (listed:Array Bool) (a:Act) (w:World) (σ:St) (w0:World) (A:Nat->Prop) (I:Bor) (L:Lab),Bs b1 v2 v3 fc gc w00 A00 I00 (if listed.getD c false=true then s' else s) w0 A I->Rel P N N w0 A I σ a w L->pvTD P ops c d (clR f b1 v2 v3) y v fs ar K fuel listed σ->wpAny P .any ops Q fuel listed a w:=by
 have hdst:∀ {i:Nat} {o:Oper},ops[i]?=some o->∀ d,o.dst=some d->0<=d/\d<N:=fun {i o} ho d hd=>by
  have:=List.all_eq_true.1 hO o (by have:=Array.mem_of_getElem? ho;simpa using this)
  rw[hd] at this;simpa using this
 have hwt:∀ {o:Oper} (tm:Array Value),o.guard=none->Region.wanted o (yielded ops tm)=true:=fun {o} tm hg=>by unfold Region.wanted;rw[hg]
 intro fuel
 induction fuel with
 | zero =>
  intro listed a w σ w0 A I L hb hR ⟨h1,h2,h3⟩
  rw[if_pos h2] at hb;exact⟨h1,hK _ _ _ a w σ L h3 hb hR⟩
 | succ fuel ih =>
  intro listed a w σ w0 A I L hb hR h;have hp0:I.pins.length=0:=by rw[hb.pins];rfl
  simp only[pvTD] at h;cases hf:freeAt ops listed with
  | some k =>
   rw[hf] at h;obtain⟨hkc,o,ho',hg,hp⟩:=h;have h1:=List.find?_some hf
   have h2:=List.mem_of_find?_eq_some hf
   rw[ho'] at h1;simp only[Bool.and_eq_true] at h1;obtain⟨hpl,hns,hfr⟩:=h1;have hwp:=yao (next:=fun a' w'=>∃ σ' L',pvTD P ops c d (clR f b1 v2 v3) y v fs ar K fuel (listed.setIfInBounds k true) σ'/\Rel P N N w0 A I σ' a' w' L') (Q:=Q) hR (by rw[hp0];exact hdst ho') hp fun a' w' σ' L' h6 h7=>⟨σ',L',h6,h7⟩
   obtain⟨_,v',hv,σ',L',h6,h7⟩:=yei1 hpl hQ hwp;exact wpAny_take ho' hns hfr (by simpa using h2) (fun c a w h=>absurd h (hQ c _ _)) (.inl ⟨hwt _ hg,hv⟩) (ih _ _ w σ' w0 A I L' (by rw[ykm1 hkc];exact hb) h7 h6)
  | none =>
   rw[hf] at h;refine⟨fun h0=>?_,fun i hi=>?_⟩
   ·obtain⟨g1,g2⟩:=h.1 h0
    rw[if_pos g1] at hb;exact hK _ _ _ a w σ L g2 hb hR
   have hh:=h.2 i hi;unfold wpOp;by_cases hic:i=c
   ·subst hic
    rw[if_pos rfl] at hh;obtain⟨g1,g2,g3,g4,g5⟩:=hh;rw[g3,if_neg (by simp)] at hb;rw[hoc];simp only[hwt _ ho.2.2,if_true];refine .inl (yhb2 hT hb hR ⟨ho.1,ho.2.1⟩ (hdst hoc d ho.2.1).2 g1 g2 fun w0' A' I' a' w' L' h6 h7=>ih _ a' w' _ w0' A' I' L' ?_ h7 g5)
    have:(listed.setIfInBounds i true).getD i false=true:=by
     rw[Array.getD_eq_getD_getElem?,Array.getElem?_setIfInBounds,if_pos rfl,if_pos g4];rfl
    rw[this,if_pos rfl];exact h6
   rw[if_neg hic] at hh;obtain⟨o,ho',hg,hp⟩:=hh;rw[ho'];simp only[hwt _ hg,if_true];exact .inl (yao hR (by rw[hp0];exact hdst ho') hp fun a' w' σ' L' h6 h7=>ih _ a' w' σ' w0 A I L' (by rw[ykm1 hic];exact hb) h7 h6)
end
end Go.PV

/-
 A walk over pure values: contracts of a function value that has caught a mark,and of a function that calls it.
 Conditions: none.
-/
set_option linter.all false
namespace Go.PV
variable {P:Program} {N:Nat}
theorem ypp1 {f:FuncId} {fn:Func} {c:Code} {y v:Value} {s s':Bool} {fc gc:List C} (hf:P.funcs[f]?=some fn)
  (h:OkL P fn.ntmps c [(0,.p y),(1,.box [.raw (.bool s)]),(2,.d false [.pt fc]),(3,.d false [.pt gc])] fun e l=>(match e with | .exit _=>False | _=>True)/\(∃ k,retVs P (ofL l) fn.results.toList=some [(.p v,k)])/\ofL l 1=.box [.raw (.bool s')])
  (hb:fn.body=some c:=by rfl) (hc:callable P f=true:=by kernel_rfl) (hN:(decide (4<=fn.ntmps)&&codeB 4 fn.ntmps c)=true:=by kernel_rfl):TakesR P f y s s' fc gc v:=by
 simp only[Bool.and_eq_true,decide_eq_true_eq] at hN
 refine⟨hc,fun w A b1 e1 v2 v3 hA h1 hf2 hf3=>?_⟩
 refine calls_of_wp hf hb ?_
 have hb1:b1<w.heap.size:=(Array.getElem?_eq_some_iff.1 h1).1
 let L0:Lab:=fun b=>if b=b1 then some (1,[]) else none
 have l1:L0 b1=some (1,[]):=by simp[L0]
 have lx:∀ b l,L0 b=some l->b=b1/\l=(1,[]):=fun b l h=>by
  simp only[L0] at h;split at h
  ·rename_i e;exact⟨e,(Option.some.inj h).symm⟩
  cases h
 let I0:Bor:=⟨fun b=>b=b1,[y,ptTo b1,v2,v3]⟩
 let A0:Nat->Prop:=fun b=>A b\/b=b1
 let a0:Act:={ tmps:=#[y,ptTo b1,v2,v3]++Array.replicate (fn.ntmps-(#[y,ptTo b1,v2,v3]:Array Value).size) undef,defers:=[] }
 have t0:a0.tmps.getD 0 undef=y:=by simp[a0,Array.getD_eq_getD_getElem?,Array.getElem?_append]
 have t1:a0.tmps.getD 1 undef=ptTo b1:=by simp[a0,Array.getD_eq_getD_getElem?,Array.getElem?_append]
 have t2:a0.tmps.getD 2 undef=v2:=by simp[a0,Array.getD_eq_getD_getElem?,Array.getElem?_append]
 have t3:a0.tmps.getD 3 undef=v3:=by simp[a0,Array.getD_eq_getD_getElem?,Array.getElem?_append]
 have hz:∀ b,A b->Zof w A0 L0 w b/\w.heap[b]?=w.heap[b]?:=fun b hb=>⟨⟨by simp[L0,(hA.1 b hb).2],(hA.1 b hb).1,.inl (.inl hb)⟩,rfl⟩
 have hR:Rel P fn.ntmps fn.ntmps w A0 I0 (ofL [(0,.p y),(1,.box [.raw (.bool s)]),(2,.d false [.pt fc]),(3,.d false [.pt gc])]) a0 w L0:=by
  refine⟨rfl,by simp[a0];omega,⟨rfl,rfl,rfl,Nat.le_refl _,fun _ _ _=>rfl⟩,fun b b' l h h'=>?_,fun b l hl=>?_,fun t ht=>?_,⟨⟨fun b hb=>?_,hA.2.mono fun b hb=>⟨⟨.inl hb,fun h=>(hA.1 b hb).2 h⟩,rfl⟩⟩,fun b hb=>.inr hb⟩,fun t u hu=>?_,fun t=>?_⟩
  ·rw[(lx b l h).1,(lx b' l h').1]
  ·obtain⟨rfl,rfl⟩:=lx b l hl
   exact⟨hb1,.inr rfl,by show 1<fn.ntmps;omega⟩
  ·have g0:t≠0:=by omega
   have g1:t≠1:=by omega
   have g2:t≠2:=by omega
   have g3:t≠3:=by omega
   simp[ofL,upd,g0,g1,g2,g3]
  ·rcases hb with hb | rfl
   ·exact(hA.1 b hb).1
   exact hb1
  ·match t,hu with
   | 0,hu=>rw[t0];exact Option.some.inj hu
   | 1,hu=>rw[t1];exact Option.some.inj hu
   | 2,hu=>rw[t2];exact Option.some.inj hu
   | 3,hu=>rw[t3];exact Option.some.inj hu
   | t+4,hu=>simp[I0] at hu
  match t with
  | 0=>exact t0
  | 1=>exact⟨b1,t1,ynr1 (xs:=[.bool s]) l1 h1 rfl⟩
  | 2 =>
   show FrzV _ w false (a0.tmps.getD 2 undef) [.pt fc]
   rw[t2];exact⟨⟨ync hf2.oneCell,rfl⟩,fun j c hj=>by
    cases j with
    | zero=>simp at hj;subst hj;rw[ync hf2.oneCell];exact hf2.mono hz
    | succ j=>simp at hj⟩
  | 3 =>
   show FrzV _ w false (a0.tmps.getD 3 undef) [.pt gc]
   rw[t3];exact⟨⟨ync hf3.oneCell,rfl⟩,fun j c hj=>by
    cases j with
    | zero=>simp at hj;subst hj;rw[ync hf3.oneCell];exact hf3.mono hz
    | succ j=>simp at hj⟩
  | t+4=>exact trivial
 refine wp_mono (h 4 hN.2 w A0 I0 a0 w L0 rfl hR) fun e a' w' hl=>?_
 have fin:∀ σ L l',Rel P fn.ntmps fn.ntmps w A0 I0 σ a' w' L->(σ=ofL l'\/agree l' σ)->(∃ k,retVs P (ofL l') fn.results.toList=some [(.p v,k)])->ofL l' 1=.box [.raw (.bool s')]->a'.defers=[]/\∃ u,(results fn a'.tmps).run P w'=.ok u w'/\(Ending.returned u=.returned v/\Ev ⟨fun b=>b=b1,[]⟩ w w' /\
   ∃ e,w'.heap[b1]?=some (.cells #[.bool s'] e (0,0))):=fun σ L l' g1 g2 ⟨k,g3⟩ g4=>by
  have g5:=ycd1 g1 g2;obtain⟨vs,r1,r2,r3⟩:=ytz g5 (L':=L) (s':=0) (fun b h=>h) _ _ 0 g3 fun j r s hj hr=>by
   cases j with
   | zero=>simp at hj;obtain⟨rfl,rfl⟩:=hj;cases hr
   | succ j=>simp at hj
  have hv:vs=[v]:=by
   have:=r3 0 (.p v) k rfl
   match vs,r2,this with
   | [u],_,h=>have h:u=v:=h;rw[h]
  subst hv;refine⟨g5.dfr,v,by have:=yev fn a'.tmps r1;simpa using this,rfl,⟨g5.ev.os,g5.ev.tape,g5.ev.output,g5.ev.size,g5.ev.block⟩,?_⟩
  have s1:=g5.slot 1;rw[g4] at s1;obtain⟨b,s2,s3⟩:=s1;have s4:=g5.pin 1 (ptTo b1) rfl
  rw[s2] at s4;have:b=b1:=by unfold ptTo at s4;simpa using s4
  subst this;exact yor1 (xs:=[.bool s']) s3
 cases e with
 | normal=>obtain⟨σ,L,h5,l',h6,_,h7,h8⟩:=hl;exact fin σ L l' h5 h6 h7 h8
 | ret=>obtain⟨σ,L,h5,l',h6,_,h7,h8⟩:=hl;exact fin σ L l' h5 h6 h7 h8
 | exit id=>obtain⟨σ,L,h5,l',h6,h7,_⟩:=hl;exact h7.elim
 | _=>exact hl.elim
structure PostD (P:Program) (A:Nat->Prop) (w:World) (L0:Lab) (b1:Nat) (s':Bool) (w':World) (L:Lab) (v:Value) (vals:List RV):Prop where
 ev:Ev ⟨fun b=>L0 b≠none\/b=b1,[]⟩ w w'
 inj:∀ b b' l,L b=some l->L b'=some l->b=b'
 lab:∀ b l,L b=some l->b<w'.heap.size/\(w.heap.size<=b\/L0 b≠none)/\l.1=0
 val:ResAt P (fun b=>L b=none/\b<w'.heap.size/\((A b\/L0 b≠none)\/w.heap.size<=b)) L w' 0 v vals
 cell:∃ e,w'.heap[b1]?=some (.cells #[.bool s'] e (0,0))
def MeetsD (P:Program) (f:FuncId) (x:SV) (g:FuncId) (fc gc:List C) (s s':Bool) (vals:List RV):Prop :=
 callable P f=true/\∀ (w:World) (A:Nat->Prop) (L0:Lab) (v0:Value) (b1:Nat) (e1:TypeId) (v2 v3:Value),
  ((∀ b,A b->b<w.heap.size/\L0 b=none/\b≠b1)/\Tabs P A w)->(∀ b l,L0 b=some l->b<w.heap.size/\l.1=0/\b≠b1)->(∀ b b' l,L0 b=some l->L0 b'=some l->b=b') ->
  LentAt P A L0 w 0 v0 x->w.heap[b1]?=some (.cells #[.bool s] e1 (0,0))->Frz A w v2 (.pt fc)->Frz A w v3 (.pt gc) ->
  Calls P f #[v0,clR g b1 v2 v3] w (fun e w'=>∃ v L,e=.returned v/\PostD P A w L0 b1 s' w' L v vals)
def endD (P:Program) (fn:Func) (vals:List RV) (s':Bool):Ex->LS->Bool->Prop:=fun e l s=>match e with
 | .exit _=>False
 | _=>s=s'/\∃ ls,retVs P (ofL l) fn.results.toList=some ls/\ovOk ls=true/\ls.map (·.1)=vals
theorem yqp1 {f g:FuncId} {fn:Func} {c:Code} {x:SV} {fc gc:List C} {s s':Bool} {vals:List RV} (hf:P.funcs[f]?=some fn)
  (h:∀ b1 v2 v3 w00 A00 I00,OkD P fn.ntmps b1 v2 v3 fc gc w00 A00 I00 c [(0,x),(1,.p (clR g b1 v2 v3))] s (endD P fn vals s'))
  (hb:fn.body=some c:=by rfl) (hc:callable P f=true:=by kernel_rfl) (hN:(decide (2<=fn.ntmps)&&codeB 0 fn.ntmps c)=true:=by kernel_rfl):MeetsD P f x g fc gc s s' vals:=by
 simp only[Bool.and_eq_true,decide_eq_true_eq] at hN
 refine⟨hc,fun w A L0 v0 b1 e1 v2 v3 hA hL hi hx h1 hf2 hf3=>?_⟩
 refine calls_of_wp hf hb ?_
 have hb1:b1<w.heap.size:=(Array.getElem?_eq_some_iff.1 h1).1
 have hR:=yaf1 (P:=P) (N:=fn.ntmps) (args:=[.v (clR g b1 v2 v3)]) (vs:=[clR g b1 v2 v3]) ⟨fun b hb=>⟨(hA.1 b hb).1,(hA.1 b hb).2.1⟩,hA.2⟩ (fun b l hl=>⟨(hL b l hl).1,(hL b l hl).2.1⟩) hi (by simp;omega) hx ⟨rfl,trivial⟩
 have hR:=ywt1 (I':=⟨fun b=>L0 b≠none,[]⟩) hR rfl fun t u hu=>by simp at hu
 have hLb1:L0 b1=none:=by
  cases hl:L0 b1 with
  | none=>rfl
  | some l=>exact absurd rfl (hL b1 l hl).2.2
 have hz:∀ b,A b->((A b\/L0 b≠none)/\¬ (L0 b≠none))/\w.heap[b]?=w.heap[b]?:=fun b hb=>⟨⟨.inl hb,fun hh=>hh (hA.1 b hb).2.1⟩,rfl⟩
 have hB:Bs b1 v2 v3 fc gc w (fun b=>A b\/L0 b≠none) (fun b=>L0 b≠none) s w (fun b=>A b\/L0 b≠none) ⟨fun b=>L0 b≠none,[]⟩ :=
  ⟨rfl,Nat.le_refl _,rfl,rfl,rfl,fun _ _ _ _=>rfl,fun b hb=>.inl hb,fun b hb=>.inl hb,hb1,fun hh=>hh.elim (fun hh=>(hA.1 b1 hh).2.2 rfl) fun hh=>hh hLb1,fun hh=>hh hLb1,⟨e1,h1⟩,hf2.mono hz,hf3.mono hz⟩
 refine wp_mono (h b1 v2 v3 w _ _ hN.2 w _ _ _ w L0 hB hR) fun e a' w' hl=>?_
 have fin:∀ s2 w0 A' I' L l,Bs b1 v2 v3 fc gc w (fun b=>A b\/L0 b≠none) (fun b=>L0 b≠none) s2 w0 A' I'->Rel P fn.ntmps fn.ntmps w0 A' I' (ofL l) a' w' L->s2=s'->(∃ ls,retVs P (ofL l) fn.results.toList=some ls/\ovOk ls=true/\ls.map (·.1)=vals) ->
   a'.defers=[]/\∃ v,(results fn a'.tmps).run P w'=.ok v w'/\∃ v' L,Ending.returned v=.returned v'/\PostD P A w L0 b1 s' w' L v' vals:=by
  intro s2 w0 A' I' L l hb hR' hs ⟨ls,h5,h6,h7⟩
  subst hs;obtain⟨vs,h9,h10,h11⟩:=ytz hR' (L':=retLab false ls L) (s':=0) (fun b hb=>yht hb) fn.results.toList ls 0 h5 fun j r s hj hr=>ynz1 (by
   have:=yfz ls 0 j r s h6 hj hr
   exact this) (by simp)
  have old:∀ b l,L b=some l->w.heap.size<=b\/L0 b≠none:=fun b l hl=>by
   rcases(hR'.lab b l hl).2.1 with h | h
   ·exact .inl (Nat.le_trans hb.size h)
   exact(hb.hI b h).symm
  have hZ:∀ b,(retLab false ls L b=none/\b<w'.heap.size/\(A' b\/w0.heap.size<=b))->(retLab false ls L b=none/\b<w'.heap.size/\((A b\/L0 b≠none)\/w.heap.size<=b)):=fun b ⟨g1,g2,g3⟩=>⟨g1,g2,by
   rcases g3 with g3 | g3
   ·exact hb.hA b g3
   exact .inr (Nat.le_trans hb.size g3)⟩
  refine⟨hR'.dfr,_,yev fn a'.tmps h9,_,retLab false ls L,rfl,⟨hR'.ev.os.trans hb.os,hR'.ev.tape.trans hb.tape,hR'.ev.output.trans hb.output,Nat.le_trans hb.size hR'.ev.size,fun b g1 g2=>?_⟩,ysz hR'.inj,fun b x hx=>?_,?_,?_⟩
  ·have g2:¬ (L0 b≠none\/b=b1):=g2
   have hlt0:b<w0.heap.size:=Nat.lt_of_lt_of_le g1 hb.size
   have hnI:b∉I':=fun h=>by
    rcases hb.hI b h with h | h
    ·exact g2 (.inl h)
    omega
   exact(hR'.ev.block b hlt0 hnI).trans (hb.block b g1 (fun h=>g2 (.inl h)) fun h=>g2 (.inr h))
  ·rcases ykq hx with⟨p,e1,_⟩ | ⟨s,o,q,i,_,e1,e2,rfl⟩
   ·cases e1
   exact⟨(hR'.lab b _ e1).1,old b _ e1,rfl⟩
  ·refine ywg1 (by rw[← h7,h10];simp) fun j r hj=>?_
   rw[← h7,List.getElem?_map] at hj;cases hx:ls[j]? with
   | none=>rw[hx] at hj;cases hj
   | some x =>
    rw[hx] at hj;simp at hj
    subst hj;have:=h11 j x.1 x.2 hx
    rw[Nat.zero_add] at this;have this:RVat P _ _ w' 0 j _ x.1:=this
    cases hr:x.1 with
    | p u=>rw[hr] at this;exact this
    | d g cs=>rw[hr] at this;exact FrzV.mono this fun b hb=>⟨hZ b hb,rfl⟩
    | ov g cs=>rw[hr] at this;exact RepV.keep this (fun b hb=>⟨hZ b hb,rfl⟩) fun b j q hb=>⟨hb,rfl⟩
  obtain⟨e,hc⟩:=hb.cell;exact⟨e,(hR'.ev.block b1 hb.lt hb.nI).trans hc⟩
 cases e with
 | normal=>obtain⟨s2,w0,A',I',L,l,h5,h6,h7,h8⟩:=hl;exact fin s2 w0 A' I' L l h5 h6 h7 h8
 | ret=>obtain⟨s2,w0,A',I',L,l,h5,h6,h7,h8⟩:=hl;exact fin s2 w0 A' I' L l h5 h6 h7 h8
 | exit id=>obtain⟨s2,w0,A',I',L,l,h5,h6,h7⟩:=hl;exact h7.elim
 | _=>exact hl.elim
def xTD (P:Program) (ops:Array Oper) (hs:List (Nat×HH)) (c d:Nat) (fv y v:Value) (fs ar:Nat) (l1:LS):Nat->Array Bool->St->Option (List LS×List Prop)
 | 0,listed,σ=>(match Region.ready .any ops listed with
  | []=>if listed.getD c false=true then some ([readL σ l1],[]) else none
  | _=>none)
 | f+1,listed,σ =>
  let go:=fun k=>match ops[k]? with
   | some o=>if o.guard.isNone=true then(match xOpF P o σ (hintAt hs k) with
    | some (σ1,o2)=>(match xTD P ops hs c d fv y v fs ar l1 f (listed.setIfInBounds k true) (xFix σ1 (hintAt hs k)).1 with
     | some (ls,o3)=>some (ls,o2++((xFix σ1 (hintAt hs k)).2++o3))
     | none=>none)
    | none=>none) else none
   | none=>none
  let cl:=if(listed.getD c false=false/\c<listed.size) then(match xTD P ops hs c d fv y v fs ar l1 f (listed.setIfInBounds c true) (put σ d (.p v)) with
   | some (ls,o3)=>some (ls,(σ fs=.p fv)::(σ ar=.p y)::o3)
   | none=>none) else none
  match freeAt ops listed with
  | some k=>if k=c then none else go k
  | none=>(match Region.ready .any ops listed with
   | []=>if listed.getD c false=true then some ([readL σ l1],[]) else none
   | i::l=>xTl (fun k=>if k=c then cl else go k) (i::l))
theorem yea2 {ops:Array Oper} {hs:List (Nat×HH)} {l1:LS} {K:St->Prop} {c d fs ar:Nat} {fv y v:Value} (hK:∀ σ,readL σ l1=l1->K σ):∀ (f:Nat) (listed:Array Bool) (σ:St) (ls:List LS) (obs:List Prop),xTD P ops hs c d fv y v fs ar l1 f listed σ=some (ls,obs)->(∀ x∈ls,x=l1)->allP obs->pvTD P ops c d fv y v fs ar K f listed σ:=by
 intro f
 induction f with
 | zero =>
  intro listed σ ls obs e hl ho;simp only[xTD] at e;split at e
  ·rename_i h0
   split at e
   ·rename_i h1
    simp only[Option.some.injEq,Prod.mk.injEq] at e;obtain⟨rfl,rfl⟩:=e;exact⟨h0,h1,hK σ (hl _ (by simp))⟩
   cases e
  cases e
 | succ f ih =>
  intro listed σ ls obs e hl ho;have go:∀ {k:Nat} {a:List LS} {b:List Prop},(match ops[k]? with
   | some o=>if o.guard.isNone=true then(match xOpF P o σ (hintAt hs k) with
    | some (σ1,o2)=>(match xTD P ops hs c d fv y v fs ar l1 f (listed.setIfInBounds k true) (xFix σ1 (hintAt hs k)).1 with
     | some (ls,o3)=>some (ls,o2++((xFix σ1 (hintAt hs k)).2++o3))
     | none=>none)
    | none=>none) else none
   | none=>none)=some (a,b)->allP b->(∀ x∈a,x=l1)->∃ o,ops[k]?=some o/\o.guard=none/\pvOpF P o σ fun σ'=>pvTD P ops c d fv y v fs ar K f (listed.setIfInBounds k true) σ':=by
   intro k a b e hb ha;split at e
   ·rename_i o hok
    split at e
    ·rename_i hg
     split at e
     ·rename_i σ1 o2 h1
      split at e
      ·rename_i ls' o3 h2
       simp only[Option.some.injEq,Prod.mk.injEq] at e;obtain⟨rfl,rfl⟩:=e;rw[allP_append,allP_append] at hb;refine⟨o,hok,by simpa using hg,ycr1 h1 hb.1 ?_⟩
       rw[yul1 hb.2.1] at h2;exact ih _ _ _ _ h2 ha hb.2.2
      cases e
     cases e
    cases e
   cases e
  simp only[xTD] at e;simp only[pvTD];cases hf:freeAt ops listed with
  | some k =>
   rw[hf] at e;simp only at e
   split at e
   ·cases e
   rename_i hkc;exact⟨hkc,go e ho hl⟩
  | none =>
   rw[hf] at e;simp only at e
   cases hr:Region.ready .any ops listed with
   | nil =>
    rw[hr] at e;simp only at e
    split at e
    ·rename_i h1
     simp only[Option.some.injEq,Prod.mk.injEq] at e;obtain⟨rfl,rfl⟩:=e;exact⟨fun _=>⟨h1,hK σ (hl _ (by simp))⟩,fun i hi=>by simp at hi⟩
    cases e
   | cons i l =>
    rw[hr] at e;refine⟨fun h0=>absurd h0 (by simp),fun j hj=>?_⟩
    obtain⟨a,b,h1,h2,h3⟩:=ybx1 e ho j hj;by_cases hjc:j=c
    ·rw[if_pos hjc] at h1 ⊢
     split at h1
     ·rename_i hc
      split at h1
      ·rename_i ls' o3 h4
       simp only[Option.some.injEq,Prod.mk.injEq] at h1;obtain⟨rfl,rfl⟩:=h1;exact⟨h2.1,h2.2.1,hc.1,hc.2,ih _ _ _ _ h4 (fun x hx=>hl x (h3 x hx)) h2.2.2⟩
      cases h1
     cases h1
    rw[if_neg hjc] at h1 ⊢
    exact go h1 h2 fun x hx=>hl x (h3 x hx)
theorem yib2 {b1:Nat} {v2 v3:Value} {fc gc:List C} {w00:World} {A00 I00:Nat->Prop} {id c d fs ar:Nat} {f:FuncId} {ops:List Oper} {oc:Oper} {ts:Array TypeId} {l0:LS} {s s':Bool} {y v:Value} {S:Prop} {Q:Ex->LS->Bool->Prop} (hm:P.follows .mixedOrders=true) (l1:LS) (m:Nat) (hs:List (Nat×HH)) (ho:S) (hT:TakesR P f y s s' fc gc v) (hq:Q .normal l1 s')
  (hoc:ops[c]?=some oc) (hop:oc.op=.call { callee:=.value (.tmp fs),args:=#[.tmp ar],argTypes:=ts }/\oc.dst=some d/\oc.guard=none) (hr:refsOk l1=true:=by kernel_rfl)
  (e:(xTD P ops.toArray hs c d (clR f b1 v2 v3) y v fs ar l1 ops.length (Array.replicate ops.length false) (ofL l0)).map (fun p=>(p.1,allP p.2))=some (List.replicate m l1,S):=by kernel_rfl) (hc0:(Array.replicate ops.length false).getD c false=false:=by kernel_rfl):OkD P N b1 v2 v3 fc gc w00 A00 I00 (.region id ops.toArray true) l0 s Q:=by
 intro hB w0 A I a w L hb hR
 refine wp_region_any hm ?_
 cases hx:xTD P ops.toArray hs c d (clR f b1 v2 v3) y v fs ar l1 ops.length (Array.replicate ops.length false) (ofL l0) with
 | none=>rw[hx] at e;cases e
 | some p =>
  rw[hx] at e;simp only[Option.map_some,Option.some.injEq,Prod.mk.injEq] at e;obtain⟨e1,e2⟩:=e;have h:=yea2 (K:=fun σ=>agree l1 σ) (fun σ h=>yaj hr h) _ _ _ _ _ hx (fun x hx=>by rw[e1] at hx;exact List.eq_of_mem_replicate hx) (by rw[e2];exact ho)
  have:=ylm1 (Q:=liftD P N b1 v2 v3 fc gc w00 A00 I00 Q) (by rw[List.toList_toArray];simpa [codeB] using hB) (fun _ _ _ h=>h) hT (by simpa using hoc) ⟨hop.1,hop.2.1,hop.2.2⟩ (fun w0 A I a w σ L h1 h2 h3=>⟨s',w0,A,I,L,l1,h2,yrf h3 h1,hq⟩) ops.length _ a { w with drawn:=w.drawn+1 } _ w0 A I L (by rw[hc0];exact hb) (hR.world rfl rfl rfl rfl) h
  simpa using this
end Go.PV

/-
 A walk over pure values: a function value that catches a mark is made and handed on.
 Conditions: none.
-/
set_option linter.all false
namespace Go.PV
variable {P:Program} {N:Nat}
def Mid2 (P:Program) (N:Nat) (o1 o2:Oper) (l1 l2:LS):Prop:=∀ (w0:World) (A:Nat->Prop) (I:Bor) (a:Act) (w:World) (L:Lab) (next next1:Act->World->Prop) (Q:Exit->Act->World->Prop),Rel P N N w0 A I (ofL l1) a w L ->
 (∀ d,o1.dst=some d->I.pins.length<=d/\d<N)->(∀ d,o2.dst=some d->I.pins.length<=d/\d<N)->(∀ a' w' L',Rel P N N w0 A I (ofL l2) a' w' L'->next a' w')->(∀ a w,o2.wp P a w next Q->next1 a w)->o1.wp P a w next1 Q
def xPost2 (P:Program) (n:Nat) (ops:List Oper) (hs:List (Nat×HH)) (l2 l3:LS):Option (LS×List Prop):=match xL P ops.toArray hs (n+2) (ops.drop (n+2)) (ofL l2) with
 | some (σ',obs)=>if refsOk l3=true then some (readL σ' l3,obs) else none
 | none=>none
theorem yfa2 {id n:Nat} {ops:List Oper} {o1 o2:Oper} {l0 l3:LS} {S1 S2:Prop} (l1 l2:LS) (h1 h2:List (Nat×HH)) (s1:S1) (s2:S2) (hM:Mid2 P N o1 o2 l1 l2) (h0:ops[n]?=some o1) (h0':ops[n+1]?=some o2) (hg:o1.guard=none/\o2.guard=none)
  (e1:(xPre P n ops h1 l0 l1).map (fun p=>(p.1,allP p.2))=some (l1,S1):=by kernel_rfl) (e2:(xPost2 P n ops h2 l2 l3).map (fun p=>(p.1,allP p.2))=some (l3,S2):=by kernel_rfl):RegOk P N (.region id ops.toArray false) l0 l3:=by
 intro Q hq k hB w0 A I a w L hI hR
 subst hI
 have hB':opsB I.pins.length N ops.toArray.toList=true:=hB
 have hn:n+1<ops.length:=(List.getElem?_eq_some_iff.1 h0').1
 refine wp_region ?_
 have hr:List.range ops.toArray.size=List.range' 0 (ops.take n).length++(n::(n+1)::List.range' (n+2) (ops.drop (n+2)).length):=by
  have e:ops.toArray.size=n+(2+(ops.length-n-2)):=by simp;omega
  have hl:(ops.take n).length=n:=by rw[List.length_take];omega
  have hd:(ops.drop (n+2)).length=ops.length-n-2:=by rw[List.length_drop];omega
  rw[e,List.range_eq_range',hl,hd,← List.range'_append_1,Nat.add_comm 2,List.range'_succ,List.range'_succ];simp
 rw[hr]
 unfold xPre at e1
 split at e1
 ·rename_i σ1 p1 g1
  split at e1
  ·rename_i r1
   simp only[Option.map_some,Option.some.injEq,Prod.mk.injEq] at e1;obtain⟨g2,rfl⟩:=e1;unfold xPost2 at e2;split at e2
   ·rename_i σ3 p3 g3
    split at e2
    ·rename_i r3
     simp only[Option.map_some,Option.some.injEq,Prod.mk.injEq] at e2;obtain⟨g4,rfl⟩:=e2;refine yjm1 (K:=fun σ=>σ=σ1) hB' (fun a w σ L hK hR=>?_) (ops.take n) 0 _ a w L (fun j hj=>?_) hR (ywu1 _ _ _ _ _ g1 s1 rfl)
     ·subst hK
      have hR1:=yrf hR (yaj r1 g2)
      have ho1:ops.toArray[n]?=some o1:=by simpa using h0
      have ho2:ops.toArray[n+1]?=some o2:=by simpa using h0'
      have hd:∀ {i:Nat} {o:Oper},ops.toArray[i]?=some o->∀ d,o.dst=some d->I.pins.length<=d/\d<N:=fun {i o} ho d hd=>by
       have:=List.all_eq_true.1 hB' o (by have:=Array.mem_of_getElem? ho;simpa using this)
       rw[hd] at this;simpa using this
      have hw:∀ {o:Oper} (tm:Array Value),o.guard=none->Region.wanted o (yielded ops.toArray tm)=true:=fun {o} tm hg=>by unfold Region.wanted;rw[hg]
      rw[wpOps_cons];unfold wpOp;rw[ho1];simp only[hw _ hg.1,if_true];refine .inl (hM w0 A I a w L (wpOps P ops.toArray (lift P N w0 A I fun e σ=>∃ l',(σ=ofL l'\/agree l' σ)/\Q e l') (List.range' (n+2) (ops.drop (n+2)).length)) _ _ hR1 (hd ho1) (hd ho2) (fun a' w' L' hR2=>?_) fun a w h=>?_)
      ·refine yez (K:=fun σ=>σ=σ3) hB' (fun a w σ L hK hR=>⟨σ,L,hR,l3,.inr (by rw[hK];exact yaj r3 g4),hq⟩) (ops.drop (n+2)) (n+2) _ a' w' L' (fun j=>?_) hR2 (ywu1 _ _ _ _ _ g3 s2 rfl)
       rw[List.getElem?_drop];simp
      rw[wpOps_cons];unfold wpOp;rw[ho2];simp only[hw _ hg.2,if_true];exact .inl h
     rw[List.length_take] at hj;rw[List.getElem?_take,if_pos (by omega),Nat.zero_add];simp
    cases e2
   cases e2
  cases e1
 cases e1
theorem ymm1 {Z:Nat->Prop} {L:Lab} {w:World} {s:Nat} {p:Path} {v:Value} {rows:List (List C)} (h:Rep P Z L w s p v (.sl none rows)):Frz Z w v (.sl none rows):=by
 cases h with
 | frz h=>exact h
theorem yqr1 {Z A':Nat->Prop} {L:Lab} {w:World} {s b:Nat} {rows:List (List C)} (h:BoxAt P Z L w s b [.sl none rows]) (hz:∀ b,Z b->A' b) (hb:A' b):Frz A' w (.pointer (some ⟨b,0,none⟩)) (.pt [.sl none rows]):=by
 obtain⟨h1,arr,e,h2,h3,h4⟩:=h
 refine .pt (fun j=>arr.getD j undef) hb (fun j c hj=>?_) fun j c hj=>?_
 ·cases j with
  | zero =>
   have hlt:0<arr.size:=by rw[h3];simp
   simp[World.cell?,h2,hlt]
  | succ j=>simp at hj
 cases j with
 | zero =>
  simp at hj
  subst hj;exact(ymm1 (h4 0 _ rfl).1).mono fun b hb=>⟨hz b hb,rfl⟩
 | succ j=>simp at hj
theorem ykx1 {f g:FuncId} {o1 o2:Oper} {rc rf rg rx ta d1 d2:Nat} {ts:Array TypeId} {fr gr:List (List C)} {s s':Bool} {X R:List C} {l1 l2:LS} (hM:MeetsD P f (.ov false X) g [.sl none fr] [.sl none gr] s s' [.ov false R])
  (h1:o1.op=.makeFunc (.func g) #[] #[.tmp rc,.tmp rf,.tmp rg]/\o1.dst=some d1) (h2:o2.op=.call { callee:=.value (.func f),args:=#[.tmp ta,.tmp d1],argTypes:=ts }/\o2.dst=some d2)
  (hl2:l2=[(rc,.box [.raw (.bool s')]),(d2,.ov false R)])
  (e1:ofL l1 rc=.box [.raw (.bool s)]:=by kernel_rfl) (e2:ofL l1 rf=.box [.sl none fr]:=by kernel_rfl) (e3:ofL l1 rg=.box [.sl none gr]:=by kernel_rfl) (e4:ofL l1 rx=.ov false X:=by kernel_rfl) (e5:ofL l1 ta=.ref rx [(0,0)] none:=by kernel_rfl)
  (hne:(rc != rf&&rc != rg&&rc != rx&&rf != rx&&rg != rx&&d1 != ta&&d1 != rc&&d1 != rf&&d1 != rg&&d2 != rc)=true:=by kernel_rfl):Mid2 P N o1 o2 l1 l2:=by
 subst hl2
 simp only[Bool.and_eq_true,bne_iff_ne] at hne
 obtain⟨⟨⟨⟨⟨⟨⟨⟨⟨n1,n2⟩,n3⟩,n4⟩,n5⟩,n6⟩,n7⟩,n8⟩,n9⟩,n10⟩:=hne
 intro w0 A I a w L next next1 Q hR hd1 hd2 hnx hn1
 have k1:=hd1 d1 h1.2
 have k2:=hd2 d2 h2.2
 have S1:=hR.slot rc
 have S2:=hR.slot rf
 have S3:=hR.slot rg
 have S4:=hR.slot rx
 have S5:=hR.slot ta
 rw[e1] at S1
 rw[e2] at S2
 rw[e3] at S3
 rw[e4] at S4
 rw[e5] at S5
 obtain⟨b1,t1,B1⟩:=S1
 obtain⟨b2,t2,B2⟩:=S2
 obtain⟨b3,t3,B3⟩:=S3
 have t5:=yfp hR S5 (.inl e4) rfl
 have L1:=B1.1
 have L2:=B2.1
 have L3:=B3.1
 obtain⟨ec,hc1⟩:=yor1 (xs:=[.bool s]) B1
 have v1:a.eval (.tmp rc)=ptTo b1:=t1
 have v2:a.eval (.tmp rf)=.pointer (some ⟨b2,0,none⟩):=t2
 have v3:a.eval (.tmp rg)=.pointer (some ⟨b3,0,none⟩):=t3
 -- the function value is made
 have m1:(execOp a.eval o1).run P w=.ok (.value (clR g b1 (.pointer (some ⟨b2,0,none⟩)) (.pointer (some ⟨b3,0,none⟩)))) w:=by
  simp only[execOp,h1.1,List.map_toArray,List.map_cons,List.map_nil,v1,v2,v3];rfl
 refine yot m1 (hn1 _ _ ?_)
 rw[h1.2]
 -- the call
 have hsz:d1<a.tmps.size:=by rw[hR.siz];exact k1.2
 refine yoz (vs:=#[]) h2.1 rfl hM.1 ?_
 have ea:(#[Operand.tmp ta,Operand.tmp d1].map (a.put (some d1) (clR g b1 (.pointer (some ⟨b2,0,none⟩)) (.pointer (some ⟨b3,0,none⟩)))).eval++#[])=#[tmOf a rx,clR g b1 (.pointer (some ⟨b2,0,none⟩)) (.pointer (some ⟨b3,0,none⟩))]:=by
  have x1:(a.put (some d1) (clR g b1 (.pointer (some ⟨b2,0,none⟩)) (.pointer (some ⟨b3,0,none⟩)))).eval (.tmp ta)=tmOf a rx:=by
   rw[ywi hsz,if_neg (Ne.symm n6)];exact t5
  have x2:(a.put (some d1) (clR g b1 (.pointer (some ⟨b2,0,none⟩)) (.pointer (some ⟨b3,0,none⟩)))).eval (.tmp d1)=clR g b1 (.pointer (some ⟨b2,0,none⟩)) (.pointer (some ⟨b3,0,none⟩)):=by
   rw[ywi hsz,if_pos rfl]
  simp[x1,x2]
 rw[ea]
 let L0:Lab:=fun b=>match L b with
  | some (t,q)=>if t=rx then some (0,q) else none
  | none=>none
 let A':Nat->Prop:=fun b=>Zof w0 A L w b\/(∃ q,L b=some (rf,q))\/∃ q,L b=some (rg,q)
 have l0:∀ b l,L0 b=some l->∃ q,L b=some (rx,q)/\l=(0,q):=fun b l h=>by
  simp only[L0] at h;split at h
  ·rename_i t q hb
   split at h
   ·rename_i ht
    subst ht;exact⟨q,hb,(Option.some.inj h).symm⟩
   cases h
  cases h
 have hb1:∀ {b t q},L b=some (t,q)->t≠rc->b≠b1:=fun {b t q} h ht e=>by
  subst e;rw[L1] at h;simp at h
  exact ht h.1.symm
 have hA':∀ b,A' b->b<w.heap.size/\L0 b=none/\b≠b1:=fun b h=>by
  rcases h with h | ⟨q,h⟩ | ⟨q,h⟩
  ·exact⟨h.2.1,by simp[L0,h.1],fun e=>by subst e;have h':=h.1;rw[L1] at h';cases h'⟩
  ·exact⟨(hR.lab b _ h).1,by simp[L0,h,n4],hb1 h (Ne.symm n1)⟩
  exact⟨(hR.lab b _ h).1,by simp[L0,h,n5],hb1 h (Ne.symm n2)⟩
 have hL0:∀ b,L0 b≠none->w0.heap.size<=b\/b∈I:=fun b h=>by
  obtain⟨x,hx⟩:=Option.ne_none_iff_exists'.1 h
  obtain⟨q,hq,_⟩:=l0 b x hx;exact(hR.lab b _ hq).2.1
 refine(hM.2 w A' L0 (tmOf a rx) b1 ec _ _ ⟨hA',(ytw hR).mono fun b hb=>⟨.inl hb,rfl⟩⟩ (fun b l h=>?_) (fun b b' l h h'=>?_) ?_ hc1 (yqr1 B2 (fun b hb=>.inl hb) (.inr (.inl ⟨_,L2⟩))) (yqr1 B3 (fun b hb=>.inl hb) (.inr (.inr ⟨_,L3⟩)))).mono ?_
 ·obtain⟨q,hq,rfl⟩:=l0 b l h
  exact⟨(hR.lab b _ hq).1,rfl,hb1 hq (Ne.symm n3)⟩
 ·obtain⟨q,hq,rfl⟩:=l0 b l h
  obtain⟨q',hq',e⟩:=l0 b' _ h'
  simp at e
  subst e;exact hR.inj _ _ _ hq hq'
 ·exact RepV.keep S4 (fun b hb=>⟨.inl hb,rfl⟩) fun b j q hb=>⟨by simp[L0,hb],rfl⟩
 rintro e w' ⟨v,Lr,rfl,hp⟩
 refine⟨v,rfl,?_⟩
 rw[h2.2]
 have lb1:Lr b1=none:=by
  cases hl:Lr b1 with
  | none=>rfl
  | some x =>
   rcases(hp.lab b1 x hl).2.1 with h | h
   ·have:=(hR.lab b1 _ L1).1;omega
   obtain⟨y,hy⟩:=Option.ne_none_iff_exists'.1 h
   obtain⟨q,hq,_⟩:=l0 b1 y hy;rw[L1] at hq;simp at hq
   exact absurd hq.1 n3
 let L2':Lab:=fun b=>if b=b1 then some (rc,[]) else match Lr b with
  | some (_,q)=>some (d2,q)
  | none=>none
 have l2:∀ b l,L2' b=some l->(b=b1/\l=(rc,[]))\/(b≠b1/\∃ q,Lr b=some (0,q)/\l=(d2,q)):=fun b l h=>by
  simp only[L2'] at h;split at h
  ·rename_i e;exact .inl ⟨e,(Option.some.inj h).symm⟩
  rename_i e;split at h
  ·rename_i t q hb
   have:=(hp.lab b _ hb).2.2
   have h0:t=0:=this
   subst h0;exact .inr ⟨e,q,hb,(Option.some.inj h).symm⟩
  cases h
 have hgrow:=hp.ev.size
 have hcN:rc<N:=by
  rcases Nat.lt_or_ge rc N with h | h
  ·exact h
  have:=hR.out rc h;rw[e1] at this;cases this
 have tmv:∀ t,((a.put (some d1) (clR g b1 (.pointer (some ⟨b2,0,none⟩)) (.pointer (some ⟨b3,0,none⟩)))).put (some d2) v).tmps.getD t undef=if t=d2 then v else if t=d1 then clR g b1 (.pointer (some ⟨b2,0,none⟩)) (.pointer (some ⟨b3,0,none⟩)) else a.tmps.getD t undef:=fun t=>by
  rw[yje1 _ v (by rw[ygd,hR.siz];exact k2.2) t]
  split
  ·rfl
  exact yje1 a _ hsz t
 have hZ:∀ b,(Lr b=none/\b<w'.heap.size/\((A' b\/L0 b≠none)\/w.heap.size<=b))->Zof w0 A L2' w' b:=fun b ⟨g1,g2,g3⟩=>by
  have hbb:b≠b1:=fun e=>by
   subst e;rcases g3 with(g3 | g3) | g3
   ·exact(hA' _ g3).2.2 rfl
   ·obtain⟨y,hy⟩:=Option.ne_none_iff_exists'.1 g3
    obtain⟨q,hq,_⟩:=l0 _ y hy;exact hb1 hq (Ne.symm n3) rfl
   have:=(hR.lab _ _ L1).1;omega
  refine⟨by simp[L2',hbb,g1],g2,?_⟩
  rcases g3 with(g3 | g3) | g3
  ·rcases g3 with g3 | ⟨q,g3⟩ | ⟨q,g3⟩
   ·exact g3.2.2
   ·exact(hR.lab b _ g3).2.1.symm.imp (hR.hA.2 b) id
   exact(hR.lab b _ g3).2.1.symm.imp (hR.hA.2 b) id
  ·exact(hL0 b g3).symm.imp (hR.hA.2 b) id
  exact .inr (Nat.le_trans hR.ev.size g3)
 refine hnx _ _ L2' ⟨hR.dfr,by rw[ygd,ygd];exact hR.siz,⟨hp.ev.os.trans hR.ev.os,hp.ev.tape.trans hR.ev.tape,hp.ev.output.trans hR.ev.output,Nat.le_trans hR.ev.size hgrow,fun b g1 g2=>?_⟩,fun b b' l g1 g2=>?_,fun b l h=>?_,fun t ht=>?_,hR.hA,fun t u hu=>?_,fun t=>?_⟩
 ·refine(hp.ev.block b (Nat.lt_of_lt_of_le g1 hR.ev.size) fun h=>?_).trans (hR.ev.block b g1 g2)
  rcases h with h | h
  ·rcases hL0 b h with h | h
   ·omega
   exact g2 h
  subst h;rcases(hR.lab _ _ L1).2.1 with h | h
  ·omega
  exact g2 h
 ·rcases l2 b l g1 with⟨x1,x2⟩ | ⟨x1,q,x2,x3⟩ <;> rcases l2 b' l g2 with⟨y1,y2⟩ | ⟨y1,q',y2,y3⟩
  ·rw[x1,y1]
  ·rw[x2] at y3;simp at y3;exact absurd y3.1.symm n10
  ·rw[x3] at y2;simp at y2;exact absurd y2.1 n10
  rw[x3] at y3;simp at y3
  subst y3;exact hp.inj _ _ _ x2 y2
 ·rcases l2 b l h with⟨rfl,rfl⟩ | ⟨x1,q,x2,rfl⟩
  ·exact⟨Nat.lt_of_lt_of_le (hR.lab _ _ L1).1 hgrow,(hR.lab _ _ L1).2.1,hcN⟩
  have:=hp.lab b _ x2
  refine⟨this.1,?_,k2.2⟩
  rcases this.2.1 with h | h
  ·exact .inl (Nat.le_trans hR.ev.size h)
  exact hL0 b h
 ·have h2:d2<N:=k2.2
  have g1:t≠rc:=by omega
  have g2:t≠d2:=by omega
  simp[ofL,upd,g1,g2]
 ·have ht:t<I.pins.length:=(List.getElem?_eq_some_iff.1 hu).1
  rw[tmv,if_neg (by omega),if_neg (by omega)];exact hR.pin t u hu
 by_cases g1:t=rc
 ·subst g1
  have:ofL [(t,.box [.raw (.bool s')]),(d2,.ov false R)] t=.box [.raw (.bool s')]:=by simp[ofL,upd]
  rw[this];obtain⟨e',hc'⟩:=hp.cell;exact⟨b1,by rw[tmv,if_neg (Ne.symm n10),if_neg (Ne.symm n7)];exact t1,ynr1 (xs:=[.bool s']) (by simp[L2']) hc' rfl⟩
 by_cases g2:t=d2
 ·subst g2
  have:ofL [(rc,.box [.raw (.bool s')]),(t,.ov false R)] t=.ov false R:=by simp[ofL,upd,g1]
  rw[this,tmv,if_pos rfl];have hv:RepV P _ Lr w' 0 0 false v R:=hp.val
  refine RepV.keep hv (fun b hb=>⟨hZ b hb,rfl⟩) fun b j q hb=>⟨?_,rfl⟩
  have hbb:b≠b1:=fun e=>by subst e;rw[lb1] at hb;cases hb
  simp[L2',hbb,hb]
 have:ofL [(rc,.box [.raw (.bool s')]),(d2,.ov false R)] t=.u:=by simp[ofL,upd,g1,g2]
 rw[this]
 trivial
end Go.PV

/-
 A walk over pure values: short forms for a function that calls what has caught a mark.
 Conditions: none.
-/
set_option linter.all false
namespace Go.PV
variable {P:Program} {N:Nat} {b1:Nat} {v2 v3:Value} {fc gc:List C} {w00:World} {A00 I00:Nat->Prop}
theorem dq_n {K:LS->Bool->Prop} {Q:Ex->LS->Bool->Prop} {l:LS} {s:Bool} (h:K l s):seqD K Q .normal l s:=h
theorem dq_x {K:LS->Bool->Prop} {Q:Ex->LS->Bool->Prop} {id:Nat} {l:LS} {s:Bool} (h:Q (.exit id) l s):seqD K Q (.exit id) l s:=h
theorem db_n {Q:Ex->LS->Bool->Prop} {id:Nat} {l:LS} {s:Bool} (h:Q .normal l s):blockD id Q .normal l s:=h
theorem db_x {Q:Ex->LS->Bool->Prop} {id:Nat} {l:LS} {s:Bool} (h:Q .normal l s):blockD id Q (.exit id) l s:=by
 show(if id=id then Q .normal l s else Q (.exit id) l s)
 rw[if_pos rfl]
 exact h
theorem yjb2 {c:Code} {l l1:LS} {s:Bool} {Q:Ex->LS->Bool->Prop} (h:RegOk P N c l l1) (hq:Q .normal l1 s):OkD P N b1 v2 v3 fc gc w00 A00 I00 c l s Q:=d_ok (h _ hq)
theorem yga2 {l:LS} {s:Bool} {Q:Ex->LS->Bool->Prop} (h:Q .normal l s):OkD P N b1 v2 v3 fc gc w00 A00 I00 .skip l s Q:=d_ok (yia h)
theorem yha2 {id:Nat} {l:LS} {s:Bool} {Q:Ex->LS->Bool->Prop} (h:Q (.exit id) l s):OkD P N b1 v2 v3 fc gc w00 A00 I00 (.exit id) l s Q:=d_ok (yzc h)
theorem ykb2 {l:LS} {s:Bool} {Q:Ex->LS->Bool->Prop} (h:Q .ret l s):OkD P N b1 v2 v3 fc gc w00 A00 I00 .ret l s Q:=d_ok (yra h)
end Go.PV

/-
 A walk over pure values: what is owned is frozen between two regions.
 Conditions: none.
-/
set_option linter.all false
namespace Go.PV
variable {P:Program} {N:Nat}
theorem ylb2 {c:Code} {l:LS} {Q:Ex->LS->Prop} (r:Nat) {g:Bool} {cs:List C} (cs':List C) (l':LS) (he:eraR cs=cs') (h:OkL P N c l' Q) (hr:ofL l r=.ov g cs:=by kernel_rfl) (h1:refsOk l'=true:=by kernel_rfl) (h2:readL (fun s=>if s=r then .d g cs' else killD r (ofL l s)) l'=l':=by kernel_rfl):OkL P N c l Q:=fun k hB w0 A I a w L hI hR=>by
 obtain⟨L',h3,_⟩:=hR.frz r
 have e:frz r (ofL l)=fun s=>if s=r then .d g cs' else killD r (ofL l s):=by
  unfold frz;rw[hr];simp only[isTup,Bool.false_eq_true,if_false];funext s
  by_cases h:s=r
  ·subst h
   rw[if_pos rfl,if_pos rfl,hr];show SV.d g (eraR cs)=_
   rw[he]
  rw[if_neg h,if_neg h]
 rw[e] at h3
 exact h k hB w0 A I a w L' hI (yrf h3 (yaj h1 h2))
end Go.PV

/-
 Plain laws of loops,elements and wraps.
 Conditions: none.
-/
namespace Go.PV
theorem yzb {n:Int} (h1 : -9223372036854775808<=n) (h2:n<=9223372036854775807):w64 n=n:=IntWalk.i64_in n ⟨h1,h2⟩
theorem yva {n:Nat} (h2:n<9223372036854775807):w64 ((n:Int)+1)=((n+1:Nat):Int):=by
 rw[yzb (by omega) (by omega)];omega
section
variable {α β X Y:Type}
theorem yvk (xs:List α) (i:Nat):idxO xs (i:Int)=xs[i]?:=by simp[idxO]
theorem yno {xs:List α} {i:Nat} (h:i<xs.length):idxO xs (i:Int)=some xs[i]:=by simp[idxO,h]
theorem yea {p:Prop} [Decidable p] {f:Unit->Option α} (h:p):(guardO p).bind f=f ():=by simp[guardO,h]
theorem yuc {body:X->Option (X ⊕ Y)} (n:Nat) (S:Nat->X) (y:Y) (h1:∀ i,i<n->body (S i)=some (.inl (S (i+1)))) (h2:body (S n)=some (.inr y)):loopO body (S 0)=some y:=by
 have:∀ k,k<=n->loopO body (S (n-k))=some y:=by
  intro k;induction k with
  | zero=>intro _;rw[yuj,Nat.sub_zero,h2]
  | succ k ih =>
   intro hk;rw[yuj,h1 _ (by omega)];have:=ih (by omega)
   rwa [show n-(k+1)+1=n-k by omega]
 simpa using this n (Nat.le_refl n)
theorem yqn {body:X->Option (X ⊕ Y)} (Inv:X->Prop) (μ:X->Nat) (R:Y->Prop) (h:∀ x,Inv x->(∃ x',body x=some (.inl x')/\Inv x'/\μ x'<μ x)\/(∃ y,body x=some (.inr y)/\R y)) (x0:X) (h0:Inv x0):∃ y,loopO body x0=some y/\R y:=by
 have:∀ n x,μ x=n->Inv x->∃ y,loopO body x=some y/\R y:=by
  intro n;induction n using Nat.strongRecOn with
  | ind n ih =>
   intro x hx hi;rcases h x hi with⟨x',h1,h2,h3⟩ | ⟨y,h1,h2⟩
   ·obtain⟨y,h4,h5⟩:=ih _ (by omega) x' rfl h2
    exact⟨y,by rw[yuj,h1];exact h4,h5⟩
   exact⟨y,by rw[yuj,h1],h2⟩
 exact this _ x0 rfl h0
theorem ytv {xs:List α} {body:X->Option (X ⊕ Y)} (p:α->Bool) (S:Nat->X) (yes:Nat->Y) (no:Y) (h1:∀ i x,xs[i]?=some x->body (S i)=some (if p x then .inr (yes i) else .inl (S (i+1)))) (h2:body (S xs.length)=some (.inr no)) :
  loopO body (S 0)=some (match xs.findIdx? p with | some i=>yes i | none=>no):=by
 cases h:xs.findIdx? p with
 | none =>
  have hn:=List.findIdx?_eq_none_iff.1 h
  refine yuc xs.length S no (fun i hi=>?_) h2
  rw[h1 i xs[i] (List.getElem?_eq_getElem hi),hn _ (List.getElem_mem hi)];rfl
 | some m =>
  obtain⟨hm,hp,hlt⟩:=List.findIdx?_eq_some_iff_getElem.1 h
  refine yuc m S (yes m) (fun i hi=>?_) ?_
  ·rw[h1 i xs[i] (List.getElem?_eq_getElem (by omega))]
   have:=hlt i hi
   simp[this]
  rw[h1 m xs[m] (List.getElem?_eq_getElem hm),hp];rfl
theorem ynm1 {xs:List α} {body:X->Option (X ⊕ Y)} (p:α->Bool) (S:Nat->X) (yes no:Y) (h1:∀ i x,xs[i]?=some x->body (S i)=some (if p x then .inr yes else .inl (S (i+1)))) (h2:body (S xs.length)=some (.inr no)) :
  loopO body (S 0)=some (if xs.any p then yes else no):=by
 rw[ytv p S (fun _=>yes) no h1 h2]
 cases h:xs.findIdx? p with
 | none =>
  have hn:=List.findIdx?_eq_none_iff.1 h
  have:xs.any p=false:=by simpa using hn
  simp[this]
 | some m =>
  obtain⟨hm,hp,_⟩:=List.findIdx?_eq_some_iff_getElem.1 h
  have:xs.any p=true:=by simp;exact⟨xs[m],List.getElem_mem hm,hp⟩
  simp[this]
theorem getElem?_lt {xs:List α} {i:Nat} {x:α} (h:xs[i]?=some x):i<xs.length:=(List.getElem?_eq_some_iff.1 h).1
end
end Go.PV

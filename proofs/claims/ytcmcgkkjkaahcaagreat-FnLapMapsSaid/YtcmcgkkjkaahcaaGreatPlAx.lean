/-
  Plain laws of what the functions answer.
  Conditions: none.
-/
import Derived.KernelRfl
import Derived.Test.YtcmcgkkjkaahcaaGreatPvCx
import Derived.Test.YtcmcgkkjkaahcaaGreatDf
set_option linter.all false
/-
 Plain laws: bounds,lists of numbers,vectors.
 Conditions: none.
-/
namespace Go.PV
def inB (a b n:Int):Bool:=decide (a<=n)&&decide (n<=b)
theorem inB_iff {a b n:Int}:inB a b n=true↔a<=n/\n<=b:=by simp[inB]
theorem ydm (v a b:Int):yrm v a b=some (inB a b v):=rfl
theorem ywk (v a b:Int):yli v a b=some (inB a b v):=rfl
def isVec (xs:List Int):Bool:=inB 1 8 xs.length&&xs.all (inB 1 1000000)
end Go.PV

/-
 Plain laws: greatest divisors,fractions,floors,fractions reduced.
 Conditions: none.
-/
namespace Go.PV
theorem yuv (a b:Nat) (hb:b≠0):Nat.gcd b (a % b)=Nat.gcd a b:=by
 rw[Nat.gcd_comm a b,Nat.gcd_rec b a,Nat.gcd_comm]
theorem ymf1 (b:Nat):∀ a:Nat,loopO ydd ((a:Int),(b:Int))=some ((Nat.gcd a b:Nat):Int):=by
 induction b using Nat.strongRecOn with
 | ind b ih =>
  intro a;rw[yuj];by_cases hb:b=0
  ·subst hb;simp[ydd]
  have hb':((b:Int) != 0)=true:=by simp;omega
  simp only[ydd,hb',if_true,yea (show(b:Int)≠0 by omega)];have:Int.tmod (a:Int) (b:Int)=((a % b:Nat):Int):=rfl
  rw[this,ih (a % b) (Nat.mod_lt _ (by omega)) b,yuv a b hb]
theorem ynf1 (b:Nat):∀ a:Nat,loopO yyh ((a:Int),(b:Int))=some ((Nat.gcd a b:Nat):Int):=by
 induction b using Nat.strongRecOn with
 | ind b ih =>
  intro a;rw[yuj];by_cases hb:b=0
  ·subst hb;simp[yyh]
  have hb':decide ((b:Int)>0)=true:=by simp;omega
  simp only[yyh,hb',if_true,yea (show(b:Int)≠0 by omega)];have:Int.tmod (a:Int) (b:Int)=((a % b:Nat):Int):=rfl
  rw[this,ih (a % b) (Nat.mod_lt _ (by omega)) b,yuv a b hb]
theorem yqc1 (a:Int) (h : -9223372036854775808<a) (h2:a<=9223372036854775807):yqx a=some (a.natAbs:Int):=by
 unfold yqx
 by_cases ha:a<0
 ·simp only[ha,decide_true,if_true];rw[yzb (by omega) (by omega)];congr 1;omega
 simp only[ha,decide_false,Bool.false_eq_true,if_false];congr 1;omega
theorem ykp (a:Int) (h : -9223372036854775808<a) (h2:a<=9223372036854775807):ycn a=some (a.natAbs:Int):=by
 unfold ycn ykt
 rw[yzb (by omega) (by omega)]
 by_cases ha:a>0-a
 ·simp only[ha,decide_true,if_true,Option.bind_some];congr 1;omega
 simp only[ha,decide_false,Bool.false_eq_true,if_false,Option.bind_some];congr 1;omega
theorem yzl (a b:Int) (h : -9223372036854775808<a) (h2:a<=9223372036854775807) (h3 : -9223372036854775808<b) (h4:b<=9223372036854775807) :
  yhd a b=some ((Int.gcd a b:Nat):Int):=by
 simp only[yhd,yqc1 a h h2,yqc1 b h3 h4,Option.bind_some,ymf1,yje]
 rfl
theorem yps (a b:Int) (h:0<=a) (h2:0<=b):yik a b=some ((Int.gcd a b:Nat):Int):=by
 obtain⟨m,rfl⟩:=Int.eq_ofNat_of_zero_le h
 obtain⟨n,rfl⟩:=Int.eq_ofNat_of_zero_le h2
 simp only[yik]
 rw[ynf1]
 rfl
def isRat (r:Int×Int):Bool:=inB 1 1000000000 r.2&&(inB (-1000000000) 1000000000 r.1&&(Int.gcd r.1 r.2:Int)==1)
theorem isRat_iff {r:Int×Int}:isRat r=true↔1<=r.2/\r.2<=1000000000 /\ -1000000000<=r.1/\r.1<=1000000000/\Int.gcd r.1 r.2=1:=by
 simp only[isRat,Bool.and_eq_true,inB_iff,beq_iff_eq]
 constructor
 ·rintro⟨⟨h1,h2⟩,⟨h3,h4⟩,h5⟩;exact⟨h1,h2,h3,h4,by omega⟩
 rintro⟨h1,h2,h3,h4,h5⟩;exact⟨⟨h1,h2⟩,⟨h3,h4⟩,by omega⟩
theorem yqs (r:Int×Int):yqo r=some (isRat r):=by
 unfold yqo isRat
 simp only[ywk,Option.bind_some]
 cases h1:inB 1 1000000000 r.2
 ·rfl
 cases h2:inB (-1000000000) 1000000000 r.1
 ·rfl
 have h1':=inB_iff.1 h1
 have h2':=inB_iff.1 h2
 simp only[if_true,yzl r.1 r.2 (by omega) (by omega) (by omega) (by omega),Option.bind_some,Bool.true_and]
theorem yvv (r:Int×Int):yco r=some (isRat r):=by
 unfold yco isRat
 simp only[ydm,Option.bind_some]
 cases h1:inB 1 1000000000 r.2
 ·rfl
 cases h2:inB (-1000000000) 1000000000 r.1
 ·rfl
 have h1':=inB_iff.1 h1
 have h2':=inB_iff.1 h2
 simp only[if_true,ykp r.1 (by omega) (by omega),yps _ r.2 (Int.natCast_nonneg _) (by omega),Option.bind_some,Bool.true_and]
 rfl
theorem yyp (l:List (Int×Int)) (hl:l.length<=4611686018427387904):yyj l=some (l.all isRat):=by
 have h:=ynm1 (xs:=l) (body:=yfj l) (fun x=> !isRat x) (fun i=>(i:Int)) (.inl false) (.inr ()) (fun i x hx=>by
  have hi:=getElem?_lt hx
  simp only[yfj,yvk,hx,yqs,Option.bind_some,yva (show i<9223372036854775807 by omega),show((i:Int)<(l.length:Int)) from by omega,decide_true,if_true];cases isRat x <;> rfl) (by simp[yfj])
 unfold yyj
 rw[show(0:Int)=((0:Nat):Int) from rfl,h,List.any_eq_not_all_not]
 simp only[Bool.not_not]
 cases l.all isRat <;> rfl
def lowest (n d:Int):(Int×Int)×Bool :=
 let g:=if d<0 then -(Int.gcd n d:Int) else Int.gcd n d
 if isRat (Int.tdiv n g,Int.tdiv d g) then((Int.tdiv n g,Int.tdiv d g),true) else((0,0),false)
theorem ykd1 (n g:Int) (h : -9223372036854775808<n) (h2:n<=9223372036854775807) (hg:g≠0):w64 (Int.tdiv n g)=Int.tdiv n g:=by
 have h1:(Int.tdiv n g).natAbs<=n.natAbs:=by rw[Int.natAbs_tdiv];exact Nat.div_le_self _ _
 exact yzb (by omega) (by omega)
theorem ygr (n d:Int) (hd:d≠0) (h : -9223372036854775808<n) (h2:n<=9223372036854775807) (h3 : -9223372036854775808<d) (h4:d<=9223372036854775807):yfm n d=some (lowest n d):=by
 have hg0:Int.gcd n d≠0:=by rw[Ne,Int.gcd_eq_zero_iff];omega
 have hgl:(Int.gcd n d:Int)<=9223372036854775807:=by
  have:Int.gcd n d<=d.natAbs:=Nat.gcd_le_right _ (by omega)
  omega
 have key:∀ g:Int,g≠0->ymi n d g=some (if isRat (Int.tdiv n g,Int.tdiv d g) then((Int.tdiv n g,Int.tdiv d g),true) else((0,0),false)):=fun g hg=>by
  simp only[ymi,yea hg,ykd1 n g h h2 hg,ykd1 d g h3 h4 hg,yqs,Option.bind_some];cases isRat (Int.tdiv n g,Int.tdiv d g) <;> rfl
 unfold yfm lowest
 simp only[yzl n d h h2 h3 h4,Option.bind_some]
 by_cases hneg:d<0
 ·simp only[hneg,decide_true,if_true]
  rw[show(0:Int)-(Int.gcd n d:Int) = -(Int.gcd n d:Int) by omega,yzb (by omega) (by omega),key _ (by omega)]
 simp only[hneg,decide_false,Bool.false_eq_true,if_false]
 rw[key _ (by omega)]
theorem yxk {a b:Int} (ha : -1000000000<=a) (ha2:a<=1000000000) (hb : -1000000000<=b) (hb2:b<=1000000000) : -1000000000000000000<=a*b/\a*b<=1000000000000000000:=by
 have h1:(a*b).natAbs<=1000000000*1000000000:=by
  rw[Int.natAbs_mul];exact Nat.mul_le_mul (by omega) (by omega)
 omega
theorem ywb1 (a b:Int×Int):yzj a b=some (if isRat a&&isRat b then lowest (a.1*b.2+b.1*a.2) (a.2*b.2) else((0,0),false)):=by
 unfold yzj
 rw[yyp _ (by simp)]
 simp only[Option.bind_some,List.all_cons,List.all_nil,Bool.and_true]
 cases ha:isRat a
 ·rfl
 cases hb:isRat b
 ·rfl
 obtain⟨a1,a2,a3,a4,_⟩:=isRat_iff.1 ha
 obtain⟨b1,b2,b3,b4,_⟩:=isRat_iff.1 hb
 have m1:=yxk a3 a4 (show -1000000000<=b.2 by omega) b2
 have m2:=yxk b3 b4 (show -1000000000<=a.2 by omega) a2
 have m3:=yxk (show -1000000000<=a.2 by omega) a2 (show -1000000000<=b.2 by omega) b2
 have hne:a.2*b.2≠0:=Int.mul_ne_zero (by omega) (by omega)
 simp only[Bool.and_self,Bool.not_true,Bool.false_eq_true,if_false,if_true]
 rw[yzb (n:=a.1*b.2) (by omega) (by omega),yzb (n:=b.1*a.2) (by omega) (by omega),yzb (n:=a.1*b.2+b.1*a.2) (by omega) (by omega),yzb (n:=a.2*b.2) (by omega) (by omega),ygr _ _ hne (by omega) (by omega) (by omega) (by omega)]
 rfl
def near (r:Int×Int):Bool:=isRat r&&inB (-1000*r.2) (1000*r.2) r.1
def cmp (a b:Int×Int):Int:=if a.1*b.2<b.1*a.2 then -1 else if a.1*b.2>b.1*a.2 then 1 else 0
def tame (r:Int×Int):Prop := -1000000000<=r.1/\r.1<=1000000000 /\ -1000000000<=r.2/\r.2<=1000000000
theorem ycc {r:Int×Int} (h:isRat r=true):tame r:=by
 obtain⟨h1,h2,h3,h4,_⟩:=isRat_iff.1 h
 exact⟨h3,h4,by omega,h2⟩
theorem yeh (a b:Int×Int) (ha:tame a) (hb:tame b):yac a b=some (cmp a b):=by
 obtain⟨a1,a2,a3,a4⟩:=ha
 obtain⟨b1,b2,b3,b4⟩:=hb
 have m1:=yxk a1 a2 b3 b4
 have m2:=yxk b1 b2 a3 a4
 unfold yac cmp
 rw[yzb (n:=a.1*b.2) (by omega) (by omega),yzb (n:=b.1*a.2) (by omega) (by omega)]
 by_cases h1:a.1*b.2<b.1*a.2
 ·simp[h1]
 by_cases h2:a.1*b.2>b.1*a.2
 ·simp[h1,h2]
 simp[h1,h2]
def less (a b:Int×Int):Bool:=decide (a.1*b.2<b.1*a.2)
theorem ygf (a b:Int×Int) (ha:tame a) (hb:tame b):yvd a b=some (less a b):=by
 unfold yvd less
 rw[yeh a b ha hb]
 unfold cmp
 by_cases h1:a.1*b.2<b.1*a.2
 ·simp[h1]
 by_cases h2:a.1*b.2>b.1*a.2
 ·simp[h1,h2]
 simp[h1,h2]
def floorDiv (n d:Int):Int:=if Int.tmod n d<0 then Int.tdiv n d-1 else Int.tdiv n d
theorem yof1 (n d:Int):(Int.tdiv n d).natAbs<=n.natAbs:=by rw[Int.natAbs_tdiv];exact Nat.div_le_self _ _
def reduceRat (r:Int×Int):(Int×Int)×Bool:=if near r then((r.1-floorDiv r.1 r.2*r.2,r.2),true) else((0,0),false)
end Go.PV

set_option linter.all false
namespace Go.PV
abbrev Pt:=(Int×Int)×(Int×Int)
def zP:Pt:=((0,0),(0,0))
theorem ylh (xs:List Pt) (f:Pt->Option Bool) (p:Pt->Bool) (hf:∀ x,f x=some (p x)) (hl:xs.length<=4611686018427387904) :
  yga xs f=some (match xs.findIdx? p with | some i=>(i:Int) | none => -1):=by
 have h:=ytv (xs:=xs) (body:=yca xs f) p (fun i=>(i:Int)) (fun i=>.inl (i:Int)) (.inr ()) (fun i x hx=>by
  have hi:=getElem?_lt hx
  simp only[yca,yvk,hx,hf,Option.bind_some,yva (show i<9223372036854775807 by omega),show((i:Int)<(xs.length:Int)) from by omega,decide_true,if_true]
  cases p x <;> rfl) (by simp[yca])
 unfold yga
 rw[show(0:Int)=((0:Nat):Int) from rfl,h]
 cases xs.findIdx? p <;> rfl
theorem yjg (xs:List Pt) (f:Pt->Option Bool) (p:Pt->Bool) (hf:∀ x,f x=some (p x)) (hl:xs.length<=4611686018427387904):yha xs f=some (xs.any p):=by
 simp only[yha,ylh xs f p hf hl,Option.bind_some]
 cases h:xs.findIdx? p with
 | none =>
  have hn:=List.findIdx?_eq_none_iff.1 h
  have:xs.any p=false:=by simpa using hn
  simp[this]
 | some m =>
  obtain⟨hm,hp,_⟩:=List.findIdx?_eq_some_iff_getElem.1 h
  have:xs.any p=true:=List.any_eq_true.2 ⟨xs[m],List.getElem_mem hm,hp⟩
  simp[this]
theorem ydc (a b:Int×Int) (ha:tame a) (hb:tame b):yhb a b=some (cmp a b):=by
 obtain⟨a1,a2,a3,a4⟩:=ha
 obtain⟨b1,b2,b3,b4⟩:=hb
 have m1:=yxk a1 a2 b3 b4
 have m2:=yxk b1 b2 a3 a4
 unfold yhb yjk cmp
 rw[yzb (n:=a.1*b.2) (by omega) (by omega),yzb (n:=b.1*a.2) (by omega) (by omega),yzb (n:=a.1*b.2-b.1*a.2) (by omega) (by omega)]
 by_cases h1:a.1*b.2<b.1*a.2
 ·have:¬ (a.1*b.2-b.1*a.2>0):=by omega
  have h3:a.1*b.2-b.1*a.2<0:=by omega
  simp[h1,h3];omega
 by_cases h2:a.1*b.2>b.1*a.2
 ·have:a.1*b.2-b.1*a.2>0:=by omega
  simp[h1,h2,this]
 have h3:¬ (a.1*b.2-b.1*a.2>0):=by omega
 have h4:¬ (a.1*b.2-b.1*a.2<0):=by omega
 simp[h1,h2,h3,h4]
theorem yia2 (a b:Int×Int):decide (cmp a b>=0) = !less a b:=by
 unfold cmp less
 by_cases h1:a.1*b.2<b.1*a.2
 ·simp[h1]
 by_cases h2:a.1*b.2>b.1*a.2 <;> simp[h1,h2]
theorem yja2 (a b:Int×Int):decide (cmp a b>0)=less b a:=by
 unfold cmp less
 by_cases h1:a.1*b.2<b.1*a.2
 ·have:¬ b.1*a.2<a.1*b.2:=by omega
  simp[h1,this]
 by_cases h2:a.1*b.2>b.1*a.2
 ·simp[h1,h2]
 have:¬ b.1*a.2<a.1*b.2:=by omega
 simp[h1,h2]
theorem yom1 (a b:Int×Int):(cmp a b==0)=(a.1*b.2==b.1*a.2):=by
 unfold cmp
 by_cases h1:a.1*b.2<b.1*a.2
 ·have:¬ a.1*b.2=b.1*a.2:=by omega
  simp[h1,this]
 by_cases h2:a.1*b.2>b.1*a.2
 ·have:¬ a.1*b.2=b.1*a.2:=by omega
  simp[h1,h2,this]
 have:a.1*b.2=b.1*a.2:=by omega
 simp[this]
def isUnit (r:Int×Int):Bool:=isRat r&&inB 0 r.2 r.1
def coord (r:Int×Int):Bool:=isUnit r&&decide (r.2<=100)
theorem yld1 (r:Int×Int):ygm r=some (isUnit r):=by
 unfold ygm isUnit
 simp only[yvv,Option.bind_some,ydm]
 cases isRat r <;> simp
theorem ymd1 (r:Int×Int):ydo r=some (isUnit r):=by
 simp[ydo,yqs,isUnit,inB]
theorem yzp (r:Int×Int):yif r=some (coord r):=by simp[yif,yld1,coord]
theorem yxb1 (r:Int×Int):yhm r=some (coord r):=by simp[yhm,ymd1,coord]
theorem yhc {r:Int×Int} (h:coord r=true):isRat r=true:=by
 simp only[coord,isUnit,Bool.and_eq_true] at h
 exact h.1.1
def goodPt (p:Pt):Bool:=coord p.1&&(isRat p.2&&(decide (p.2.2<=100)&&inB (-5*p.2.2) (5*p.2.2) p.2.1))
def stepPt (a b:Pt):Bool:=less a.1 b.1 && !less b.2 a.2
def steps (xs:List Pt) (n:Nat):Prop:=∀ i a b,0<i->i<n->xs[i-1]?=some a->xs[i]?=some b->stepPt a b=true
def ends (xs:List Pt):Bool:=match xs[0]?,xs[xs.length-1]? with
 | some a,some b=>(a.1==(0,1))&&((b.1==(1,1))&&(b.2==(a.2.1+a.2.2,a.2.2)))
 | _,_=>false
open Classical in
noncomputable def isLift (xs:List Pt):Bool:=inB 2 12 xs.length&&(decide (xs.all goodPt=true/\steps xs xs.length)&&ends xs)
end Go.PV

/-
 Plain laws: lists and tables by their places.
 Conditions: none.
-/
namespace Go.PV
section
variable {α β:Type}
def tab (n:Nat) (f:Nat->α):List α:=(List.range n).map f
theorem yqa (n:Nat) (f:Nat->α):(tab n f).length=n:=by simp[tab]
theorem yma1 {n i:Nat} {f:Nat->α} (h:i<n):(tab n f)[i]?=some (f i):=by simp[tab,h]
theorem yku {n i:Nat} {f:Nat->α} (h:n<=i):(tab n f)[i]?=none:=by simp[tab,h]
theorem yna {n i:Nat} {f:Nat->α} (h:i<n):idxO (tab n f) (i:Int)=some (f i):=by rw[yvk,yma1 h]
theorem ylx1 {n:Nat} {f g:Nat->α} (h:∀ i,i<n->f i=g i):tab n f=tab n g:=List.map_congr_left fun i hi=>h i (List.mem_range.1 hi)
theorem yrr1 {n i:Nat} {f:Nat->α} {v:α} (h:i<n):(tab n f).set i v=tab n (fun k=>if k=i then v else f k):=by
 apply List.ext_getElem?
 intro j
 rw[List.getElem?_set]
 by_cases hij:i=j
 ·subst hij
  rw[if_pos rfl,if_pos (by rw[yqa];exact h),yma1 h,if_pos rfl]
 rw[if_neg hij]
 by_cases hj:j<n
 ·rw[yma1 hj,yma1 hj,if_neg (Ne.symm hij)]
 rw[yku (by omega),yku (by omega)]
theorem yna1 (n:Nat) (f:Nat->α):tab n f++[f n]=tab (n+1) f:=by simp[tab,List.range_succ]
theorem yxt1 (f:Nat->α):tab 0 f=[]:=rfl
theorem ysr1 [Inhabited α] (xs:List α):xs=tab xs.length (fun i=>xs.getD i default):=by
 apply List.ext_getElem?
 intro j
 by_cases hj:j<xs.length
 ·rw[yma1 hj];simp[hj]
 rw[yku (by omega)];simp;omega
theorem tab_mem {n:Nat} {f:Nat->α} {x:α}:x∈tab n f↔∃ i,i<n/\f i=x:=by simp[tab]
def mat (n m:Nat) (f:Nat->Nat->α):List (List α):=tab n fun i=>tab m (f i)
def foldN (n:Nat) (g:β->Nat->β) (s:β):β:=(List.range n).foldl g s
theorem ypf1 (n:Nat) (g:β->Nat->β) (s:β):foldN (n+1) g s=g (foldN n g s) n:=by simp[foldN,List.range_succ]
theorem ypm1 (g:β->Nat->β) (s:β):foldN 0 g s=s:=rfl
end
end Go.PV

/-
 Plain laws: graphs,numbers of walks.
 Conditions: none.
-/
namespace Go.PV
def sized (g:List (List Int)):Prop:=g.length<=1048576/\∀ row∈g,row.length<=1048576
def isGraph (g:List (List Int)):Bool:=inB 1 8 g.length&&g.all fun row=>(row.length:Int)==g.length&&row.all (inB 0 9)
end Go.PV

/-
 Plain laws: powers of graphs' tables,numbers of all walks.
 Conditions: none.
-/
namespace Go.PV
def capMul (most acc w a:Int):Int:=if most<w64 (acc+w64 (w*a)) then most else w64 (acc+w64 (w*a))
def powStep (n:Nat) (G:Nat->Nat->Int) (most:Int) (F:Nat->Nat->Int):Nat->Nat->Int:=fun i j=>foldN n (fun acc k=>capMul most acc (F i k) (G k j)) 0
def idM:Nat->Nat->Int:=fun i j=>if i=j then 1 else 0
def powN (n:Nat) (G:Nat->Nat->Int) (most:Int):Nat->Nat->Nat->Int
 | 0=>idM
 | m+1=>powStep n G most (powN n G most m)
section impl
variable {n:Nat} {G:Nat->Nat->Int} {most:Int}
end impl
section spec
variable {n:Nat} {G:Nat->Nat->Int}
end spec
def capAt (x:Int):Int:=if 1000000001<x then 1000000001 else x
def total (g:List (List Int)):Int:=(g.map List.sum).sum
def totalWalks (g:List (List Int)) (m:Int):Int×Bool :=
 if isGraph g&&inB 0 12 m then
  let t:=total (mat g.length g.length (powN g.length (fun i j=>(g.getD i []).getD j 0) 1000000001 m.toNat))
  if t>1000000000 then(0,false) else(t,true)
 else(0,false)
end Go.PV

set_option linter.all false
namespace Go.PV
theorem ych1 {n d:Int} (h1:0<=n) (h2:n<=1000000000) (h3:1<=d) (h4:d<=1000000000):isRat (lowest n d).1=true:=by
 have hg:0<Int.gcd n d:=Int.gcd_pos_of_ne_zero_right _ (by omega)
 have key:isRat (Int.tdiv n (Int.gcd n d:Int),Int.tdiv d (Int.gcd n d:Int))=true:=by
  obtain⟨a,rfl⟩:=Int.eq_ofNat_of_zero_le h1;obtain⟨b,rfl⟩:=Int.eq_ofNat_of_zero_le (show 0<=d by omega)
  have e:Int.gcd (a:Int) (b:Int)=Nat.gcd a b:=rfl
  rw[e] at hg ⊢
  have e1:Int.tdiv (a:Int) ((Nat.gcd a b:Nat):Int)=((a / Nat.gcd a b:Nat):Int):=by rw[Int.tdiv_eq_ediv_of_nonneg (by omega)];rfl
  have e2:Int.tdiv (b:Int) ((Nat.gcd a b:Nat):Int)=((b / Nat.gcd a b:Nat):Int):=by rw[Int.tdiv_eq_ediv_of_nonneg (by omega)];rfl
  rw[e1,e2,isRat_iff];have l1:a / Nat.gcd a b<=a:=Nat.div_le_self _ _
  have l2:b / Nat.gcd a b<=b:=Nat.div_le_self _ _
  have l3:0<b / Nat.gcd a b:=Nat.div_pos (Nat.le_of_dvd (by omega) (Nat.gcd_dvd_right a b)) hg
  have l4:((a / Nat.gcd a b:Nat):Int)<=1000000000:=by omega
  have l5:((b / Nat.gcd a b:Nat):Int)<=1000000000:=by omega
  have l6:1<=((b / Nat.gcd a b:Nat):Int):=by omega
  have l7:0<=((a / Nat.gcd a b:Nat):Int):=Int.natCast_nonneg _
  generalize hA:((a / Nat.gcd a b:Nat):Int)=A at l4 l7 ⊢
  generalize hB:((b / Nat.gcd a b:Nat):Int)=B at l5 l6 ⊢
  refine⟨l6,l5,by show -1000000000<=A;omega,l4,?_⟩
  rw[← hA,← hB];exact Nat.coprime_div_gcd_div_gcd hg
 have hdn:¬ d<0:=by omega
 unfold lowest
 simp only[if_neg hdn]
 rw[if_pos key]
 exact key
theorem ynd1 {a b:Int×Int} (ha:isRat a=true) (hb:isRat b=true) (h:a.1*b.2=b.1*a.2):a=b:=by
 obtain⟨a1,a2,a3,a4,a5⟩:=isRat_iff.1 ha
 obtain⟨b1,b2,b3,b4,b5⟩:=isRat_iff.1 hb
 obtain⟨p,q⟩:=a
 obtain⟨r,s⟩:=b
 simp only at *
 have hn:p.natAbs*s.natAbs=r.natAbs*q.natAbs:=by rw[← Int.natAbs_mul,← Int.natAbs_mul,h]
 have c1:Nat.Coprime p.natAbs q.natAbs:=a5
 have c2:Nat.Coprime r.natAbs s.natAbs:=b5
 have d1:s.natAbs∣q.natAbs:=by
  have:s.natAbs∣r.natAbs*q.natAbs:=⟨p.natAbs,by rw[← hn];exact Nat.mul_comm _ _⟩
  exact c2.symm.dvd_of_dvd_mul_left this
 have d2:q.natAbs∣s.natAbs:=by
  have:q.natAbs∣p.natAbs*s.natAbs:=⟨r.natAbs,by rw[hn];exact Nat.mul_comm _ _⟩
  exact c1.symm.dvd_of_dvd_mul_left this
 have hqs:q.natAbs=s.natAbs:=Nat.dvd_antisymm d2 d1
 have hq:q=s:=by omega
 subst hq
 have:p=r:=Int.eq_of_mul_eq_mul_right (by omega) h
 rw[this]
def dotN (G:Nat->Int) (v:Nat->Int) (n:Nat):Int:=foldN n (fun s j=>s+G j*v j) 0
end Go.PV

/-
 Plain laws: sums,products and quotients of fractions,with what is too large told.
 Conditions: none.
-/
set_option linter.all false
namespace Go.PV
abbrev Rt:=Int×Int
def unO:Option Rt->Rt×Bool
 | some r=>(r,true)
 | none=>((0,0),false)
def lowQ (n d:Int):Option Rt:=if(lowest n d).2=true then some (lowest n d).1 else none
theorem yrc1 (n d:Int):∃ x:Rt,lowest n d=if isRat x=true then(x,true) else((0,0),false):=⟨_,rfl⟩
theorem ysp1 {n d:Int} (h:(lowest n d).2=false):lowest n d=((0,0),false):=by
 obtain⟨x,e⟩:=yrc1 n d
 rw[e] at h ⊢
 by_cases h2:isRat x=true
 ·rw[if_pos h2] at h;cases h
 rw[if_neg h2]
theorem ywv (n d:Int):lowest n d=unO (lowQ n d):=by
 unfold lowQ
 cases h:(lowest n d).2
 ·rw[ysp1 h];rfl
 have:lowest n d=((lowest n d).1,(lowest n d).2):=rfl
 rw[this,h];rfl
theorem yqm1 {n d:Int} (h:(lowest n d).2=true):isRat (lowest n d).1=true:=by
 obtain⟨x,e⟩:=yrc1 n d
 rw[e] at h ⊢
 by_cases h2:isRat x=true
 ·rw[if_pos h2];exact h2
 rw[if_neg h2] at h;cases h
theorem yix {n d:Int} {r:Rt} (h:lowQ n d=some r):isRat r=true:=by
 unfold lowQ at h
 split at h
 ·rename_i h2;obtain rfl:=Option.some.inj h;exact yqm1 h2
 cases h
theorem yhf (n d:Int) (hd:d≠0) (h1 : -4000000000000000000<=n) (h2:n<=4000000000000000000) (h3 : -4000000000000000000<=d) (h4:d<=4000000000000000000):yub n d=some (unO (lowQ n d)):=by
 have hg:0<Int.gcd n d:=Int.gcd_pos_of_ne_zero_right _ hd
 have hd0:(d==0)=false:=by simpa using hd
 have hgl:(Int.gcd n d:Int)<=4000000000000000000:=by
  have:Int.gcd n d<=d.natAbs:=Nat.gcd_le_right _ (by omega)
  omega
 have e:Int.gcd (n.natAbs:Int) (d.natAbs:Int)=Int.gcd n d:=rfl
 have key:∀ g:Int,g≠0->yni n d g=some (if isRat (Int.tdiv n g,Int.tdiv d g) then((Int.tdiv n g,Int.tdiv d g),true) else((0,0),false)):=fun g hg=>by
  simp only[yni,yea hg,ykd1 n g (by omega) (by omega) hg,ykd1 d g (by omega) (by omega) hg,yvv,Option.bind_some];cases isRat (Int.tdiv n g,Int.tdiv d g) <;> rfl
 rw[← ywv]
 unfold yub lowest
 simp only[hd0,Bool.false_eq_true,if_false,ykp n (by omega) (by omega),ykp d (by omega) (by omega),Option.bind_some,yps (n.natAbs:Int) (d.natAbs:Int) (by omega) (by omega),e]
 by_cases hneg:d<0
 ·simp only[hneg,decide_true,if_true]
  rw[show(0:Int)-(Int.gcd n d:Int) = -(Int.gcd n d:Int) by omega,yzb (by omega) (by omega),key _ (by omega)]
 simp only[hneg,decide_false,Bool.false_eq_true,if_false]
 rw[key _ (by omega)]
def addQ (a b:Rt):Option Rt:=lowQ (a.1*b.2+b.1*a.2) (a.2*b.2)
def subQ (a b:Rt):Option Rt:=lowQ (a.1*b.2-b.1*a.2) (a.2*b.2)
def mulQ (a b:Rt):Option Rt:=lowQ (a.1*b.1) (a.2*b.2)
def divQ (a b:Rt):Option Rt:=if b.1=0 then none else lowQ (a.1*b.2) (a.2*b.1)
theorem ylu {a b r:Rt} (h:addQ a b=some r):isRat r=true:=yix h
theorem yem {a b r:Rt} (h:subQ a b=some r):isRat r=true:=yix h
theorem yod1 {a b r:Rt} (h:mulQ a b=some r):isRat r=true:=yix h
theorem yoa1 {a b r:Rt} (h:divQ a b=some r):isRat r=true:=by
 unfold divQ at h
 split at h
 ·cases h
 exact yix h
structure RB (a b:Rt):Prop where
 m1 : -1000000000000000000<=a.1*b.2/\a.1*b.2<=1000000000000000000
 m2 : -1000000000000000000<=b.1*a.2/\b.1*a.2<=1000000000000000000
 m3 : -1000000000000000000<=a.2*b.2/\a.2*b.2<=1000000000000000000
 m4 : -1000000000000000000<=a.1*b.1/\a.1*b.1<=1000000000000000000
 ne:a.2*b.2≠0
 m5 : -1000000000000000000<=a.2*b.1/\a.2*b.1<=1000000000000000000
theorem rb {a b:Rt} (ha:isRat a=true) (hb:isRat b=true):RB a b:=by
 obtain⟨a1,a2,a3,a4,_⟩:=isRat_iff.1 ha
 obtain⟨b1,b2,b3,b4,_⟩:=isRat_iff.1 hb
 exact⟨yxk a3 a4 (by omega) b2,yxk b3 b4 (by omega) a2,yxk (by omega) a2 (by omega) b2,yxk a3 a4 b3 b4,Int.mul_ne_zero (by omega) (by omega),yxk (by omega) a2 b3 b4⟩
section spec
variable {a b:Rt} (ha:isRat a=true) (hb:isRat b=true)
include ha hb
theorem yrs:yto a b=some (unO (addQ a b)):=by
 obtain⟨m1,m2,m3,m4,ne,m5⟩:=rb ha hb
 unfold yto addQ
 rw[yzb (n:=a.1*b.2) (by omega) (by omega),yzb (n:=b.1*a.2) (by omega) (by omega),yzb (n:=a.2*b.2) (by omega) (by omega),yzb (by omega) (by omega),yhf _ _ ne (by omega) (by omega) (by omega) (by omega)]
 rfl
theorem yzm:yyk a b=some (unO (subQ a b)):=by
 obtain⟨m1,m2,m3,m4,ne,m5⟩:=rb ha hb
 unfold yyk subQ
 rw[yzb (n:=a.1*b.2) (by omega) (by omega),yzb (n:=b.1*a.2) (by omega) (by omega),yzb (n:=a.2*b.2) (by omega) (by omega),yzb (by omega) (by omega),yhf _ _ ne (by omega) (by omega) (by omega) (by omega)]
 rfl
theorem yqf1:yso a b=some (unO (mulQ a b)):=by
 obtain⟨m1,m2,m3,m4,ne,m5⟩:=rb ha hb
 unfold yso mulQ
 rw[yzb (n:=a.1*b.1) (by omega) (by omega),yzb (n:=a.2*b.2) (by omega) (by omega),yhf _ _ ne (by omega) (by omega) (by omega) (by omega)]
 rfl
theorem yby:yrq a b=some (unO (divQ a b)):=by
 obtain⟨m1,m2,m3,m4,ne,m5⟩:=rb ha hb
 obtain⟨a1,_⟩:=isRat_iff.1 ha
 unfold yrq divQ
 by_cases h:b.1=0
 ·simp[h,unO]
 have h':(b.1==0)=false:=by simpa using h
 simp only[h',Bool.false_eq_true,if_false,h]
 rw[yzb (n:=a.1*b.2) (by omega) (by omega),yzb (n:=a.2*b.1) (by omega) (by omega),yhf _ _ (Int.mul_ne_zero (by omega) h) (by omega) (by omega) (by omega) (by omega)]
 rfl
end spec
def cK (bad:Bool):Option Rt->Rt×Bool
 | some r=>(r,bad)
 | none=>((0,1),true)
theorem yhr (bad:Bool) (o:Option Rt):ywe bad (unO o).1 (unO o).2=some (cK bad o):=by
 cases o <;> simp[ywe,unO,cK,yke]
theorem yyt1 {bad:Bool} {o:Option Rt} (h:∀ r,o=some r->isRat r=true):isRat (cK bad o).1=true:=by
 cases o with
 | some r=>exact h r rfl
 | none=>exact(by decide:isRat (0,1)=true)
theorem yrf1:isRat (0,1)=true:=by decide
theorem ytp1:isRat (1,1)=true:=by decide
theorem yhz {a:Rt} (h:isRat a=true):isRat (0-a.1,a.2)=true:=by
 obtain⟨h1,h2,h3,h4,h5⟩:=isRat_iff.1 h
 refine isRat_iff.2 ⟨h1,h2,by show -1000000000<=0-a.1;omega,by show 0-a.1<=_;omega,?_⟩
 show Int.gcd (0-a.1) a.2=1
 rw[Int.zero_sub,Int.neg_gcd];exact h5
section impl
variable {a b:Rt} (bad:Bool) (ha:isRat a=true) (hb:isRat b=true)
include ha hb
theorem yxv:yzj a b=some (unO (addQ a b)):=by
 rw[ywb1,ha,hb]
 simp only[Bool.and_self,if_true]
 rw[ywv];rfl
theorem yyv:yzg a b=some (unO (subQ a b)):=by
 obtain⟨b1,b2,b3,b4,_⟩:=isRat_iff.1 hb
 unfold yzg ylr
 rw[yzb (by omega) (by omega),Option.bind_some,yxv ha (yhz hb),Option.bind_some]
 congr 2
 unfold addQ subQ
 simp only
 congr 1
 rw[Int.sub_mul];omega
theorem yzv:yah a b=some (unO (mulQ a b)):=by
 obtain⟨m1,m2,m3,m4,ne,m5⟩:=rb ha hb
 unfold yah mulQ
 rw[yyp _ (by simp)]
 simp only[Option.bind_some,List.all_cons,List.all_nil,Bool.and_true,ha,hb,Bool.and_self,Bool.not_true,Bool.false_eq_true,if_false]
 rw[yzb (n:=a.1*b.1) (by omega) (by omega),yzb (n:=a.2*b.2) (by omega) (by omega),ygr _ _ ne (by omega) (by omega) (by omega) (by omega),ywv]
 rfl
theorem yry:yhj a b=some (unO (divQ a b)):=by
 obtain⟨m1,m2,m3,m4,ne,m5⟩:=rb ha hb
 obtain⟨a1,_⟩:=isRat_iff.1 ha
 unfold yhj divQ
 rw[yyp _ (by simp)]
 simp only[Option.bind_some,List.all_cons,List.all_nil,Bool.and_true,ha,hb,Bool.and_self,Bool.not_true,Bool.false_or]
 by_cases h:b.1=0
 ·simp[h,unO]
 have h':(b.1==0)=false:=by simpa using h
 simp only[h',Bool.false_eq_true,if_false,h]
 rw[yzb (n:=a.1*b.2) (by omega) (by omega),yzb (n:=a.2*b.1) (by omega) (by omega),ygr _ _ (Int.mul_ne_zero (by omega) h) (by omega) (by omega) (by omega) (by omega),ywv]
 rfl
theorem yjx:yzh bad a b=some (cK bad (addQ a b)):=by
 unfold yzh;rw[yxv ha hb,Option.bind_some,yhr];rfl
theorem ybo:yxe bad a b=some (cK bad (subQ a b)):=by
 unfold yxe;rw[yyv ha hb,Option.bind_some,yhr];rfl
theorem ytj1:ydn bad a b=some (cK bad (mulQ a b)):=by
 unfold ydn;rw[yzv ha hb,Option.bind_some,yhr];rfl
theorem ysc1:ykk bad a b=some (cK bad (divQ a b)):=by
 unfold ykk;rw[yry ha hb,Option.bind_some,yhr];rfl
end impl
def absR (r:Rt):Rt:=((r.1.natAbs:Int),r.2)
def distQ (a b:Rt):Option Rt:=if less a b then subQ b a else subQ a b
theorem yup1 {a:Rt} (h:isRat a=true):isRat (absR a)=true:=by
 obtain⟨h1,h2,h3,h4,h5⟩:=isRat_iff.1 h
 exact isRat_iff.2 ⟨h1,h2,by show -1000000000<=(a.1.natAbs:Int);omega,by show(a.1.natAbs:Int)<=_;omega,h5⟩
theorem yrm1 {n d:Int} (hd:0<d):lowQ (-n) d=(lowQ n d).map fun r=>(-r.1,r.2):=by
 have hn:¬ d<0:=by omega
 have e:isRat (Int.tdiv (-n) (Int.gcd n d:Int),Int.tdiv d (Int.gcd n d:Int))=isRat (Int.tdiv n (Int.gcd n d:Int),Int.tdiv d (Int.gcd n d:Int)):=by
  rw[Int.neg_tdiv];cases h:isRat (Int.tdiv n (Int.gcd n d:Int),Int.tdiv d (Int.gcd n d:Int))
  ·cases h2:isRat (-Int.tdiv n (Int.gcd n d:Int),Int.tdiv d (Int.gcd n d:Int))
   ·rfl
   have:=yhz h2
   simp only[Int.zero_sub,Int.neg_neg] at this;rw[h] at this;cases this
  have:=yhz h
  simp only[Int.zero_sub] at this;exact this
 unfold lowQ lowest
 simp only[Int.neg_gcd,if_neg hn,e]
 cases isRat (Int.tdiv n (Int.gcd n d:Int),Int.tdiv d (Int.gcd n d:Int))
 ·rfl
 simp[Int.neg_tdiv]
theorem ytc1 {n d:Int} (hd:0<d) (hn:0<=n) {r:Rt} (h:lowQ n d=some r):0<=r.1:=by
 have hdn:¬ d<0:=by omega
 unfold lowQ lowest at h
 simp only[if_neg hdn] at h
 by_cases h2:isRat (Int.tdiv n (Int.gcd n d:Int),Int.tdiv d (Int.gcd n d:Int))=true
 ·rw[if_pos h2] at h
  simp only[if_true] at h;obtain rfl:=Option.some.inj h
  exact Int.tdiv_nonneg hn (by omega)
 rw[if_neg h2] at h;simp at h
theorem ycy {a b:Rt} (ha:isRat a=true) (hb:isRat b=true):0<a.2*b.2:=Int.mul_pos (by have:=(isRat_iff.1 ha).1;omega) (by have:=(isRat_iff.1 hb).1;omega)
theorem yvp1 {a b:Rt} (ha:isRat a=true) (hb:isRat b=true):distQ a b=(subQ b a).map absR:=by
 have h0:=ycy ha hb
 have h0':=ycy hb ha
 unfold distQ subQ
 cases hl:less a b
 ·simp only[Bool.false_eq_true,if_false]
  have hge:¬ (a.1*b.2<b.1*a.2):=by simpa [less] using hl
  have e:b.1*a.2-a.1*b.2 = -(a.1*b.2-b.1*a.2):=by omega
  rw[e,Int.mul_comm b.2 a.2,yrm1 h0];cases hq:lowQ (a.1*b.2-b.1*a.2) (a.2*b.2) with
  | none=>rfl
  | some r =>
   have:=ytc1 h0 (by omega) hq
   simp only[Option.map_some,absR,Int.natAbs_neg];congr 1
   ext
   ·show r.1=(r.1.natAbs:Int);omega
   rfl
 simp only[if_true]
 have hlt:a.1*b.2<b.1*a.2:=by simpa [less] using hl
 cases hq:lowQ (b.1*a.2-a.1*b.2) (b.2*a.2) with
 | none=>rfl
 | some r =>
  have:=ytc1 h0' (by omega) hq
  simp only[Option.map_some,absR];congr 1
  ext
  ·show r.1=(r.1.natAbs:Int);omega
  rfl
theorem ypi1 {a b r:Rt} (h:distQ a b=some r):isRat r=true:=by
 unfold distQ at h
 split at h <;> exact yem h
theorem ypa1 {a b:Rt} (bad:Bool) (ha:isRat a=true) (hb:isRat b=true):yzf bad a b=some (cK bad (distQ a b)):=by
 unfold yzf ysd distQ
 rw[ygf a b (ycc ha) (ycc hb),Option.bind_some]
 cases less a b
 ·simp only[Bool.false_eq_true,if_false]
  rw[ybo bad ha hb];rfl
 simp only[if_true]
 rw[ybo bad hb ha];rfl
end Go.PV

set_option linter.all false
namespace Go.PV
theorem ymx1 {a b:Int×Int} (hl:less a b=true):less b a=false:=by
 simp only[less,decide_eq_true_eq,decide_eq_false_iff_not] at hl ⊢
 omega
theorem yzt1 {r:Int×Int} (h:isRat r=true):(r.1*1==0*r.2)=(r==(0,1)):=by
 obtain⟨h1,h2,h3,h4,h5⟩:=isRat_iff.1 h
 obtain⟨n,d⟩:=r
 simp only[Int.mul_one,Int.zero_mul]
 by_cases hn:n=0
 ·subst hn
  have h6:d.natAbs=1:=by simpa using h5
  have h7:d=1:=by omega
  subst h7;rfl
 have e1:(n==0)=false:=by simpa using hn
 have e2:((n,d)==((0,1):Int×Int))=false:=by simp[hn]
 rw[e1,e2]
theorem ynx1 {r:Int×Int} (h:isRat r=true):(r.1*1==1*r.2)=(r==(1,1)):=by
 obtain⟨h1,h2,h3,h4,h5⟩:=isRat_iff.1 h
 obtain⟨n,d⟩:=r
 simp only[Int.mul_one,Int.one_mul]
 by_cases hn:n=d
 ·subst hn
  have h6:n.natAbs=1:=by simpa using h5
  have h7:n=1:=by omega
  subst h7;rfl
 by_cases h6:n=1
 ·subst h6;have:¬ d=1:=fun e=>hn e.symm
  have e1:((1:Int)==d)=false:=by simpa using hn
  have e2:(((1:Int),d)==((1,1):Int×Int))=false:=by simp[this]
  rw[e1,e2]
 have e1:(n==d)=false:=by simpa using hn
 have e2:((n,d)==((1,1):Int×Int))=false:=by simp[h6]
 rw[e1,e2]
theorem yaq (a b:Int×Int):((a.1==b.1)&&(a.2==b.2))=(a==b):=by
 obtain⟨a1,a2⟩:=a;obtain⟨b1,b2⟩:=b;rfl
end Go.PV

/-
 Plain laws: maps of the interval.
 Conditions: none.
-/
set_option linter.all false
namespace Go.PV
section
variable {α β:Type}
theorem yqa1 {X Y:Type} {body:X->Option (X ⊕ Y)} (n:Nat) (S:List β->Nat->X) (f:Nat->β) (y:Y) (h1:∀ i,i<n->body (S (tab i f) i)=some (.inl (S (tab i f++[f i]) (i+1)))) (h2:body (S (tab n f) n)=some (.inr y)):loopO body (S [] 0)=some y:=by
 have:=yuc (body:=body) n (fun i=>S (tab i f) i) y (fun i hi=>by rw[h1 i hi,yna1]) h2
 rw[yxt1] at this
 exact this
theorem ypd1 (i:Nat) (f:Nat->β) (x:β) (h:i<=1048576):(tab i f).length+[x].length<=1099511627776:=by rw[yqa];simp;omega
end
def isMapT (n:Nat) (p:Nat->Pt):Prop:=(∀ i,i<n->coord (p i).1=true/\coord (p i).2=true)/\(∀ i,0<i->i<n->less (p (i-1)).1 (p i).1=true)/\(p 0).1=(0,1)/\(p (n-1)).1=(1,1)
theorem yxj {i:Nat} (h:0<i) (h2:i<4611686018427387904):w64 ((i:Int)-1)=((i-1:Nat):Int):=by rw[yzb (by omega) (by omega)];omega
theorem yan {r:Rt} (h:coord r=true):tame r:=ycc (yhc h)
theorem yiz {α:Type} {n:Nat} {p:Nat->α} (h:0<n):idxO (tab n p) 0=some (p 0):=yna (n:=n) (f:=p) (i:=0) h
theorem ydj (n:Nat) (p:Nat->Pt) (h2:2<=n) (hn:n<=12):∃ c,yxc (tab n p)=some c/\(c=true↔isMapT n p):=by
 obtain⟨y,h3,h4⟩:=yqn (body:=ybl (tab n p)) (fun x=>∃ i:Nat,x=(i:Int)/\i<=n/\(∀ j,j<i->coord (p j).1=true/\coord (p j).2=true)/\(∀ j,0<j->j<i->less (p (j-1)).1 (p j).1=true)) (fun x=>n-x.toNat)
  (fun y=>(y=.inl false/\¬ isMapT n p)\/(y=.inr ()/\(∀ j,j<n->coord (p j).1=true/\coord (p j).2=true)/\(∀ j,0<j->j<n->less (p (j-1)).1 (p j).1=true))) (fun x ⟨i,e,hi,hc,hl⟩=>by
   subst e;by_cases hlt:i<n
   ·simp only[ybl,yqa,yna hlt,show((i:Int)<(n:Int)) from by omega,decide_true,if_true,Option.bind_some,yzp]
    cases h5:coord (p i).1
    ·right;exact⟨.inl false,by simp,.inl ⟨rfl,fun h=>by have:=(h.1 i hlt).1;rw[h5] at this;cases this⟩⟩
    cases h6:coord (p i).2
    ·right;exact⟨.inl false,by simp,.inl ⟨rfl,fun h=>by have:=(h.1 i hlt).2;rw[h6] at this;cases this⟩⟩
    have hc':∀ j,j<i+1->coord (p j).1=true/\coord (p j).2=true:=fun j hj=>by
     by_cases hji:j<i
     ·exact hc j hji
     have:j=i:=by omega
     subst this;exact⟨h5,h6⟩
    by_cases hi0:i=0
    ·left
     subst hi0;exact⟨((1:Nat):Int),by simp[yzb],⟨1,rfl,by omega,hc',fun j h1 h2=>by omega⟩,by simp;omega⟩
    have hlt2:i-1<n:=by omega
    have hpos:((i:Int)>0):=by omega
    have ht1:=yan (hc (i-1) (by omega)).1
    simp only[hpos,decide_true,if_true,Bool.not_true,Bool.false_eq_true,if_false,yxj (show 0<i by omega) (by omega),yna hlt2,Option.bind_some,ydc _ _ ht1 (yan h5),yia2]
    cases h7:less (p (i-1)).1 (p i).1
    ·right;exact⟨.inl false,by simp,.inl ⟨rfl,fun h=>by have:=h.2.1 i (by omega) hlt;rw[h7] at this;cases this⟩⟩
    left
    refine⟨((i+1:Nat):Int),by simp[yva (show i<9223372036854775807 by omega)],⟨i+1,rfl,hlt,hc',fun j h1 h2=>?_⟩,by simp;omega⟩
    by_cases hji:j<i
    ·exact hl j h1 hji
    have:j=i:=by omega
    subst this;exact h7
   have:i=n:=by omega
   subst this;right
   exact⟨.inr (),by simp[ybl,yqa],.inr ⟨rfl,hc,hl⟩⟩) 0 ⟨0,rfl,by omega,fun j h=>by omega,fun j _ h=>by omega⟩
 have hin:inB 2 12 ((tab n p).length:Int)=true:=by rw[yqa,inB_iff];omega
 unfold yxc
 rw[ydm,Option.bind_some,hin]
 rw[h3]
 rcases h4 with⟨rfl,h4⟩ | ⟨rfl,h4,h5⟩
 ·exact⟨false,by simp,by simp[h4]⟩
 have hc0:=(h4 0 (by omega)).1
 have hc1:=(h4 (n-1) (by omega)).1
 have hw:w64 ((n:Int)-1)=((n-1:Nat):Int):=yxj (by omega) (by omega)
 have t0:tame (0,1):=⟨by decide,by decide,by decide,by decide⟩
 have t1:tame (1,1):=⟨by decide,by decide,by decide,by decide⟩
 simp only[Bool.not_true,Bool.false_eq_true,if_false,Option.bind_some,Sum.elim_inr,yxn,yiz (show 0<n by omega),yoa,yqa,hw,yna (show n-1<n by omega),ydc _ _ (yan hc0) t0,ydc _ _ (yan hc1) t1,yom1,yzt1 (yhc hc0),ynx1 (yhc hc1)]
 refine⟨((p 0).1==(0,1))&&((p (n-1)).1==(1,1)),?_,?_⟩
 ·cases ((p 0).1==((0,1):Rt)) <;> simp
 simp only[Bool.and_eq_true,beq_iff_eq]
 exact⟨fun h=>⟨h4,h5,h.1,h.2⟩,fun h=>⟨h.2.2.1,h.2.2.2⟩⟩
theorem yyb1 (p:Pt):yim p=some (!(coord p.1&&coord p.2)):=by
 unfold yim
 simp only[yxb1,Option.bind_some]
 cases coord p.1 <;> cases coord p.2 <;> rfl
theorem ysf1 (n:Nat) (p:Nat->Pt) (hn:n<=1048576):ynp (tab n p)=some (tab n fun i=>(p i).1):=by
 have hx:=yqa1 (body:=yrg (tab n p)) n (fun l i=>(l,(i:Int))) (fun i=>(p i).1) (tab n fun i=>(p i).1) (fun i hi=>by
  simp only[yrg,yqa,yna hi,show((i:Int)<(n:Int)) from by omega,decide_true,if_true,Option.bind_some,yea (ypd1 i (fun i=>(p i).1) (p i).1 (by omega)),yva (show i<9223372036854775807 by omega)]
  rw[yea (by simp;omega)]) (by simp[yrg,yqa])
 unfold ynp
 rw[show(0:Int)=((0:Nat):Int) from rfl,hx];rfl
theorem ysy (n:Nat) (r:Nat->Rt) (hn:n<=1048576) (h1:1<=n) (hr:∀ i,i<n->isRat (r i)=true):∃ c,yen (tab n r)=some c/\(c=true↔∀ i,0<i->i<n->less (r (i-1)) (r i)=true):=by
 obtain⟨y,h3,h4⟩:=yqn (body:=yci (tab n r)) (fun x=>∃ i:Nat,x=(i:Int)/\1<=i/\i<=n/\(∀ j,0<j->j<i->less (r (j-1)) (r j)=true)) (fun x=>n-x.toNat)
  (fun y=>(y=.inl false/\¬ ∀ i,0<i->i<n->less (r (i-1)) (r i)=true)\/(y=.inr ()/\∀ i,0<i->i<n->less (r (i-1)) (r i)=true)) (fun x ⟨i,e,hi0,hi,hl⟩=>by
   subst e;by_cases hlt:i<n
   ·simp only[yci,yqa,yna hlt,yxj (show 0<i by omega) (by omega),yna (show i-1<n by omega),show((i:Int)<(n:Int)) from by omega,decide_true,if_true,Option.bind_some,ygf _ _ (ycc (hr (i-1) (by omega))) (ycc (hr i hlt))]
    cases h7:less (r (i-1)) (r i)
    ·right;exact⟨.inl false,by simp,.inl ⟨rfl,fun h=>by have:=h i (by omega) hlt;rw[h7] at this;cases this⟩⟩
    left
    refine⟨((i+1:Nat):Int),by simp[yva (show i<9223372036854775807 by omega)],⟨i+1,rfl,by omega,hlt,fun j h1 h2=>?_⟩,by simp;omega⟩
    by_cases hji:j<i
    ·exact hl j h1 hji
    have:j=i:=by omega
    subst this;exact h7
   have:i=n:=by omega
   subst this;right
   exact⟨.inr (),by simp[yci,yqa],.inr ⟨rfl,hl⟩⟩) 1 ⟨1,rfl,by omega,by omega,fun j _ h=>by omega⟩
 unfold yen
 rw[h3]
 rcases h4 with⟨rfl,h4⟩ | ⟨rfl,h4⟩
 ·exact⟨false,by simp,by simp[h4]⟩
 exact⟨true,by simp[ydl],fun _=>h4,fun _=>rfl⟩
theorem yvn (n:Nat) (p:Nat->Pt) (h2:2<=n) (hn:n<=12):∃ c,yed (tab n p)=some c/\(c=true↔isMapT n p):=by
 have hin:inB 2 12 ((tab n p).length:Int)=true:=by rw[yqa,inB_iff];omega
 unfold yed
 rw[ywk,Option.bind_some,hin,yjg (tab n p) (fun x0=>yim x0) _ yyb1 (by rw[yqa];omega)]
 simp only[Bool.not_true,Bool.false_eq_true,if_false,Option.bind_some]
 by_cases hc:∀ i,i<n->coord (p i).1=true/\coord (p i).2=true
 ·have hany:((tab n p).any fun q=> !(coord q.1&&coord q.2))=false:=by
   rw[List.any_eq_false];intro q hq;obtain⟨i,hi,rfl⟩:=tab_mem.1 hq;simp[(hc i hi).1,(hc i hi).2]
  obtain⟨c,h3,h4⟩:=ysy n (fun i=>(p i).1) (by omega) (by omega) (fun i hi=>yhc (hc i hi).1)
  have hw:w64 ((n:Int)-1)=((n-1:Nat):Int):=yxj (by omega) (by omega)
  simp only[hany,Bool.false_eq_true,if_false,yiz (show 0<n by omega),yke,yoe,Option.bind_some,yqa,hw,yna (show n-1<n by omega),ysf1 n p (by omega),h3,yaq (p 0).1 (0,1),yaq (p (n-1)).1 (1,1)]
  refine⟨((p 0).1==(0,1))&&(((p (n-1)).1==(1,1))&&c),?_,?_⟩
  ·cases ((p 0).1==((0,1):Rt)) <;> cases ((p (n-1)).1==((1,1):Rt)) <;> simp
  simp only[Bool.and_eq_true,beq_iff_eq,h4];exact⟨fun h=>⟨hc,h.2.2,h.1,h.2.1⟩,fun h=>⟨h.2.2.1,h.2.2.2,h.2.1⟩⟩
 have hany:((tab n p).any fun q=> !(coord q.1&&coord q.2))=true:=by
  refine Classical.byContradiction fun hno=>hc fun i hi=>?_
  have:((tab n p).any fun q=> !(coord q.1&&coord q.2))=false:=by simpa using hno
  have:=List.any_eq_false.1 this (p i) (tab_mem.2 ⟨i,hi,rfl⟩)
  simpa using this
 exact⟨false,by rw[hany];rfl,⟨fun h=>(by cases h),fun h=>absurd h.1 hc⟩⟩
theorem ynq (f:List Pt) (hl:f.length<=4611686018427387904):∃ c,yxc f=some c/\yed f=some c/\(c=true->∃ n p,f=tab n p/\2<=n/\n<=12/\isMapT n p):=by
 cases h:inB 2 12 (f.length:Int)
 ·exact⟨false,by simp[yxc,ydm,h],by simp[yed,ywk,h],by simp⟩
 have hb:=inB_iff.1 h
 have e:f=tab f.length (fun i=>f.getD i ((0,0),(0,0))):=ysr1 f
 obtain⟨c,h1,h2⟩:=ydj f.length (fun i=>f.getD i ((0,0),(0,0))) (by omega) (by omega)
 obtain⟨d,h3,h4⟩:=yvn f.length (fun i=>f.getD i ((0,0),(0,0))) (by omega) (by omega)
 rw[← e] at h1 h3
 have hcd:d=c:=by
  have h5:d=true↔c=true:=h4.trans h2.symm
  cases c <;> cases d
  ·rfl
  ·have:=h5.1 rfl;cases this
  ·have:=h5.2 rfl;cases this
  rfl
 subst hcd
 exact⟨d,h1,h3,fun hd=>⟨f.length,_,e,by omega,by omega,h2.1 hd⟩⟩
end Go.PV

/-
 Plain laws: the variation of a map.
 Conditions: none.
-/
set_option linter.all false
namespace Go.PV
def sumD (r:Nat->Rt):Nat->Option Rt
 | 0=>some (0,1)
 | k+1=>(sumD r k).bind fun s=>(distQ (r k) (r (k+1))).bind fun d=>addQ s d
theorem yra1 {r:Nat->Rt}:∀ k s,sumD r k=some s->isRat s=true
 | 0,s,h=>by obtain rfl:=Option.some.inj h;decide
 | k+1,s,h=>by
  simp only[sumD] at h;obtain⟨s',h1,h2⟩:=Option.bind_eq_some_iff.1 h;obtain⟨d,h3,h4⟩:=Option.bind_eq_some_iff.1 h2;exact ylu h4
theorem yqi1 {r:Nat->Rt} {k m:Nat} (h:sumD r k=none) (hm:k<=m):sumD r m=none:=by
  induction m with
  | zero => have : k = 0 := by omega
            subst this;exact h
  | succ m ih =>
    by_cases hk:k=m+1
    · subst hk;exact h
    · simp[sumD,ih (by omega)]
theorem yxr (n:Nat) (r:Nat->Rt) (h1:1<=n) (hn:n<=1048576) (hr:∀ i,i<n->isRat (r i)=true):yri (tab n r)=some (unO (sumD r (n-1))):=by
 obtain⟨y,h3,h4⟩:=yqn (body:=ydh (tab n r)) (fun x=>∃ i:Nat,x.2.2.2=(i:Int)/\1<=i/\i<=n/\isRat (x.2.1,x.2.2.1)=true/\((x.1=false/\sumD r (i-1)=some (x.2.1,x.2.2.1))\/(x.1=true/\sumD r (i-1)=none))) (fun x=>n-x.2.2.2.toNat)
  (fun y=>(y.1=false/\sumD r (n-1)=some y.2)\/(y.1=true/\sumD r (n-1)=none)) (fun ⟨bad,a,b,t⟩ ⟨i,e,hi0,hi,hs,hc⟩=>by
   simp only at e hs hc
   subst e;by_cases hlt:i<n
   ·left
    have hp:=hr (i-1) (by omega)
    have hq:=hr i hlt;have hd:isRat (cK bad (distQ (r (i-1)) (r i))).1=true:=yyt1 fun _=>ypi1
    refine⟨_,by
     simp only[ydh,yqa,yna hlt,yxj (show 0<i by omega) (by omega),yna (show i-1<n by omega),show((i:Int)<(n:Int)) from by omega,decide_true,if_true,Option.bind_some,ypa1 bad hp hq,yjx _ hs hd,yva (show i<9223372036854775807 by omega)]
     rfl,⟨i+1,rfl,by omega,hlt,yyt1 fun _=>ylu,?_⟩,by simp only[Int.toNat_natCast];omega⟩
    have e1:sumD r (i+1-1)=(sumD r (i-1)).bind fun s=>(distQ (r (i-1)) (r i)).bind fun d=>addQ s d:=by
     obtain⟨j,rfl⟩:∃ j,i=j+1:=⟨i-1,by omega⟩
     rfl
    simp only
    rw[e1];rcases hc with⟨rfl,h5⟩ | ⟨rfl,h5⟩
    ·rw[h5]
     simp only[Option.bind_some];cases hdq:distQ (r (i-1)) (r i) with
     | none=>right;simp only[cK,Option.bind_none];exact⟨by cases addQ (a,b) (0,1) <;> rfl,trivial⟩
     | some d =>
      simp only[cK,Option.bind_some];cases haq:addQ (a,b) d with
      | none=>right;exact⟨rfl,rfl⟩
      | some s=>left;exact⟨rfl,rfl⟩
    right
    rw[h5];refine⟨?_,rfl⟩
    cases distQ (r (i-1)) (r i) <;> simp only[cK] <;> (generalize addQ (a,b) _=o;cases o <;> rfl)
   right
   have:i=n:=by omega
   subst this;exact⟨(bad,a,b),by simp[ydh,yqa],hc⟩) (false,0,1,1) ⟨1,rfl,by omega,by omega,by decide,.inl ⟨rfl,rfl⟩⟩
 unfold yri yke
 simp only[Option.bind_some]
 rw[h3,Option.bind_some]
 rcases h4 with⟨h4,h5⟩ | ⟨h4,h5⟩
 ·rw[h5];simp[ych,h4,unO]
 rw[h5];simp[ych,h4,unO]
theorem ylp (n:Nat) (r:Nat->Rt) (h1:1<=n) (hn:n<=1048576) (hr:∀ i,i<n->isRat (r i)=true):yvq (tab n r)=some (unO (sumD r (n-1))):=by
 obtain⟨y,h3,h4⟩:=yqn (body:=yln (tab n r)) (fun x=>∃ i:Nat,x.2.2=(i:Int)/\1<=i/\i<=n/\sumD r (i-1)=some (x.1,x.2.1)) (fun x=>n-x.2.2.toNat)
  (fun y=>(y=.inl ((0,0),false)/\sumD r (n-1)=none)\/∃ s,y=.inr s/\sumD r (n-1)=some s) (fun ⟨a,b,t⟩ ⟨i,e,hi0,hi,hc⟩=>by
   simp only at e hc
   subst e;by_cases hlt:i<n
   ·have hp:=hr (i-1) (by omega)
    have hq:=hr i hlt;have hs:=yra1 _ _ hc;have e1:sumD r i=(subQ (r i) (r (i-1))).bind fun d=>addQ (a,b) (absR d):=by
     obtain⟨j,rfl⟩:∃ j,i=j+1:=⟨i-1,by omega⟩
     simp only[Nat.add_sub_cancel] at hc hp ⊢;simp only[sumD,hc,Option.bind_some,yvp1 hp hq];cases subQ (r (j+1)) (r j) <;> rfl
    simp only[yln,yqa,yna hlt,yxj (show 0<i by omega) (by omega),yna (show i-1<n by omega),show((i:Int)<(n:Int)) from by omega,decide_true,if_true,Option.bind_some,yzm hq hp]
    cases hsq:subQ (r i) (r (i-1)) with
    | none=>right;exact⟨_,by simp[unO],.inl ⟨rfl,yqi1 (by rw[e1,hsq];rfl) (by omega)⟩⟩
    | some d =>
     have hd:=yem hsq;obtain⟨d1,d2,d3,d4,_⟩:=isRat_iff.1 hd;have habs:isRat ((d.1.natAbs:Int),d.2)=true:=yup1 hd
     simp only[unO,Bool.not_true,Bool.false_eq_true,if_false,ykp d.1 (by omega) (by omega),Option.bind_some,yrs hs habs];cases haq:addQ (a,b) ((d.1.natAbs:Int),d.2) with
     | none=>right;exact⟨_,by simp[unO],.inl ⟨rfl,yqi1 (k:=i) (by rw[e1,hsq];exact haq) (by omega)⟩⟩
     | some s=>left;exact⟨(s.1,s.2,((i+1:Nat):Int)),by simp[unO,yva (show i<9223372036854775807 by omega)],⟨i+1,rfl,by omega,hlt,by rw[Nat.add_sub_cancel,e1,hsq];exact haq⟩,by simp only[Int.toNat_natCast];omega⟩
   right
   have:i=n:=by omega
   subst this;exact⟨.inr (a,b),by simp[yln,yqa],.inr ⟨_,rfl,hc⟩⟩) (0,1,1) ⟨1,rfl,by omega,by omega,rfl⟩
 unfold yvq yoa
 simp only[Option.bind_some]
 rw[h3,Option.bind_some]
 rcases h4 with⟨rfl,h5⟩ | ⟨s,rfl,h5⟩
 ·rw[h5];rfl
 rw[h5];rfl
theorem ytr1 (n:Nat) (p:Nat->Pt) (hn:n<=1048576):loopO (ypd (tab n p)) ([],0)=some (tab n fun i=>(p i).2):=by
 have hx:=yqa1 (body:=ypd (tab n p)) n (fun l i=>(l,(i:Int))) (fun i=>(p i).2) (tab n fun i=>(p i).2) (fun i hi=>by
  simp only[ypd,yqa,yna hi,show((i:Int)<(n:Int)) from by omega,decide_true,if_true,Option.bind_some,yva (show i<9223372036854775807 by omega)];rw[yea (by simp;omega)]) (by simp[ypd,yqa])
 rw[show(0:Int)=((0:Nat):Int) from rfl,hx]
theorem yur1 (n:Nat) (p:Nat->Pt) (hn:n<=1048576):loopO (yjl (tab n p)) ([],0)=some (tab n fun i=>(p i).2):=ytr1 n p hn
theorem yss (f:List Pt) (hl:f.length<=4611686018427387904):∃ r,yfc f=some r/\yag f=some r:=by
 obtain⟨c,h1,h2,h3⟩:=ynq f hl
 unfold yfc yag
 rw[h1,h2]
 cases c
 ·exact⟨_,rfl,rfl⟩
 obtain⟨n,p,rfl,h4,h5,hm⟩:=h3 rfl
 have hr:∀ i,i<n->isRat (p i).2=true:=fun i hi=>yhc (hm.1 i hi).2
 simp only[Option.bind_some,Bool.not_true,Bool.false_eq_true,if_false,ytr1 n p (by omega),yur1 n p (by omega),yoh,ycf,yxr n (fun i=>(p i).2) (by omega) (by omega) hr,ylp n (fun i=>(p i).2) (by omega) (by omega) hr]
 exact⟨_,rfl,rfl⟩
end Go.PV

/-
 Plain laws: slopes and laps of a map.
 Conditions: none.
-/
set_option linter.all false
namespace Go.PV
structure LowOk (n d:Int) (r:Rt):Prop where
 eq:lowQ n d=some r
 rat:isRat r=true
 num:r.1.natAbs<=n.natAbs
 den:1<=r.2/\r.2<=d
 pos:0<n->0<r.1
 neg:n<0->r.1<0
 zer:n=0->r.1=0
theorem yoo {n d:Int} (h1:0<=n) (h2:n<=1000000000) (h3:1<=d) (h4:d<=1000000000):∃ r,LowOk n d r:=by
 have hg:0<Int.gcd n d:=Int.gcd_pos_of_ne_zero_right _ (by omega)
 have hdn:¬ d<0:=by omega
 have hr:=ych1 h1 h2 h3 h4
 have e:lowest n d=if isRat (Int.tdiv n (Int.gcd n d:Int),Int.tdiv d (Int.gcd n d:Int))=true then((Int.tdiv n (Int.gcd n d:Int),Int.tdiv d (Int.gcd n d:Int)),true) else((0,0),false):=by
  unfold lowest;simp only[if_neg hdn]
 have hrat:isRat (Int.tdiv n (Int.gcd n d:Int),Int.tdiv d (Int.gcd n d:Int))=true:=by
  refine Classical.byContradiction fun hno=>?_
  rw[e,if_neg hno] at hr;exact absurd hr (by decide)
 rw[if_pos hrat] at e
 have e1:Int.tdiv n (Int.gcd n d:Int)=n / (Int.gcd n d:Int):=Int.tdiv_eq_ediv_of_nonneg h1
 have e2:Int.tdiv d (Int.gcd n d:Int)=d / (Int.gcd n d:Int):=Int.tdiv_eq_ediv_of_nonneg (by omega)
 have hgn:0<n->(Int.gcd n d:Int)<=n:=fun h=>by
  have:=Nat.gcd_le_left d.natAbs (show 0<n.natAbs by omega)
  have e:Int.gcd n d=Nat.gcd n.natAbs d.natAbs:=rfl
  omega
 refine⟨_,⟨by unfold lowQ;rw[e];rfl,hrat,?_,⟨(isRat_iff.1 hrat).1,?_⟩,fun h=>?_,fun h=>by omega,fun h=>by subst h;simp⟩⟩
 ·exact yof1 _ _
 ·show Int.tdiv d _<=d
  have:=yof1 d (Int.gcd n d:Int)
  have h5:=(isRat_iff.1 hrat).1
  simp only at h5
  omega
 show 0<Int.tdiv n _
 rw[e1]
 exact Int.ediv_pos_of_pos_of_dvd h (by omega) (Int.gcd_dvd_left ..)
theorem yri1 {n d:Int} (h1 : -1000000000<=n) (h2:n<=1000000000) (h3:1<=d) (h4:d<=1000000000):∃ r,LowOk n d r:=by
 by_cases hn:0<=n
 ·exact yoo hn h2 h3 h4
 obtain⟨r,h⟩:=yoo (n := -n) (d:=d) (by omega) (by omega) h3 h4
 have e:=yrm1 (n := -n) (d:=d) (by omega)
 rw[Int.neg_neg,h.eq] at e
 have hr:=yhz h.rat
 have:=h.pos (by omega)
 have:=h.num
 exact⟨(-r.1,r.2),⟨e,by rw[Int.zero_sub] at hr;exact hr,by show(-r.1).natAbs<=_;omega,h.den,fun h=>by omega,fun h=>by show -r.1<0;omega,fun h=>by omega⟩⟩
theorem ysa1 {r:Rt} (h:coord r=true):0<=r.1/\r.1<=r.2/\1<=r.2/\r.2<=100:=by
 simp only[coord,isUnit,Bool.and_eq_true,inB_iff,decide_eq_true_eq] at h
 have:=isRat_iff.1 h.1.1
 omega
theorem ydh1 {a b A B:Int} (h1 : -A<=a) (h2:a<=A) (h3 : -B<=b) (h4:b<=B) (hA:0<=A) (hB:0<=B) : -(A*B)<=a*b/\a*b<=A*B:=by
 have h5:(a*b).natAbs<=A.natAbs*B.natAbs:=by rw[Int.natAbs_mul];exact Nat.mul_le_mul (by omega) (by omega)
 have h6:((A.natAbs*B.natAbs:Nat):Int)=A*B:=by rw[Int.natCast_mul];rw[Int.natAbs_of_nonneg hA,Int.natAbs_of_nonneg hB]
 omega
def small (r:Rt):Prop:=isRat r=true /\ -500<=r.1/\r.1<=500/\1<=r.2/\r.2<=100
theorem ypc {r:Rt} (h:coord r=true):small r:=by
 have:=ysa1 h
 exact⟨yhc h,by omega,by omega,by omega,by omega⟩
theorem ysi1 {a b:Rt} (ha:small a) (hb:small b):∃ r,LowOk (a.1*b.2-b.1*a.2) (a.2*b.2) r/\subQ a b=some r/\r.1.natAbs<=100000/\r.2<=10000:=by
 obtain⟨_,a1,a2,a3,a4⟩:=ha
 obtain⟨_,b1,b2,b3,b4⟩:=hb
 have m1:=ydh1 (a:=a.1) (b:=b.2) (A:=500) (B:=100) (by omega) (by omega) (by omega) (by omega) (by omega) (by omega)
 have m2:=ydh1 (a:=b.1) (b:=a.2) (A:=500) (B:=100) (by omega) (by omega) (by omega) (by omega) (by omega) (by omega)
 have m3:=ydh1 (a:=a.2) (b:=b.2) (A:=100) (B:=100) (by omega) (by omega) (by omega) (by omega) (by omega) (by omega)
 have p3:0<a.2*b.2:=Int.mul_pos (by omega) (by omega)
 obtain⟨r,hr⟩:=yri1 (n:=a.1*b.2-b.1*a.2) (d:=a.2*b.2) (by omega) (by omega) (by omega) (by omega)
 have h5:=hr.num
 have h6:=hr.den
 exact⟨r,hr,hr.eq,by omega,by omega⟩
def slopeQ (p q:Pt):Rt:=(((subQ q.2 p.2).bind fun u=>(subQ q.1 p.1).bind fun v=>divQ u v)).getD (0,0)
structure SlopeOk (p q:Pt) (u v:Rt):Prop where
 up:subQ q.2 p.2=some u
 far:subQ q.1 p.1=some v
 ru:isRat u=true
 rv:isRat v=true
 div:divQ u v=some (slopeQ p q)
 rs:isRat (slopeQ p q)=true
 ub:u.1.natAbs<=100000/\u.2<=10000
 vb:v.1.natAbs<=10000/\v.2<=10000
 vp:0<v.1
 sg:(0<(slopeQ p q).1↔0<u.1)/\((slopeQ p q).1<0↔u.1<0)
theorem yeh1 {p q:Pt} (hp1:coord p.1=true) (hp2:small p.2) (hq1:coord q.1=true) (hq2:small q.2) (hl:less p.1 q.1=true):∃ u v,SlopeOk p q u v:=by
 obtain⟨u,hu,e1,u1,u2⟩:=ysi1 hq2 hp2
 obtain⟨v,hv,e2,v1',v2⟩:=ysi1 (ypc hq1) (ypc hp1)
 have v1:v.1.natAbs<=10000:=by
  have h1:=hv.num;obtain⟨a1,a2,a3,a4⟩:=ysa1 hq1;obtain⟨b1,b2,b3,b4⟩:=ysa1 hp1;have m1:=ydh1 (a:=q.1.1) (b:=p.1.2) (A:=100) (B:=100) (by omega) (by omega) (by omega) (by omega) (by omega) (by omega)
  have m2:=ydh1 (a:=p.1.1) (b:=q.1.2) (A:=100) (B:=100) (by omega) (by omega) (by omega) (by omega) (by omega) (by omega)
  have p1:0<=q.1.1*p.1.2:=Int.mul_nonneg a1 (by omega)
  have p2:0<=p.1.1*q.1.2:=Int.mul_nonneg b1 (by omega)
  omega
 have hlt:p.1.1*q.1.2<q.1.1*p.1.2:=by simpa [less] using hl
 have hvp:=hv.pos (by omega)
 have hud:=hu.den
 have hvd:=hv.den
 have m1:=ydh1 (a:=u.1) (b:=v.2) (A:=100000) (B:=10000) (by omega) (by omega) (by omega) (by omega) (by omega) (by omega)
 have m2:=ydh1 (a:=u.2) (b:=v.1) (A:=10000) (B:=10000) (by omega) (by omega) (by omega) (by omega) (by omega) (by omega)
 have m3:0<u.2*v.1:=Int.mul_pos (by omega) hvp
 obtain⟨s,hs⟩:=yri1 (n:=u.1*v.2) (d:=u.2*v.1) (by omega) (by omega) (by omega) (by omega)
 have e3:divQ u v=some s:=by unfold divQ;rw[if_neg (by omega)];exact hs.eq
 have e4:slopeQ p q=s:=by unfold slopeQ;rw[e1,e2];simp[e3]
 refine⟨u,v,⟨e1,e2,hu.rat,hv.rat,by rw[e4];exact e3,by rw[e4];exact hs.rat,⟨u1,u2⟩,⟨v1,v2⟩,hvp,?_⟩⟩
 rw[e4]
 have hv2:0<v.2:=by omega
 rcases Int.lt_trichotomy u.1 0 with h | h | h
 ·have h1:u.1*v.2<0:=Int.mul_neg_of_neg_of_pos h hv2
  have:=hs.neg h1
  constructor <;> constructor <;> omega
 ·have h1:u.1*v.2=0:=by rw[h,Int.zero_mul]
  have:=hs.zer h1
  constructor <;> constructor <;> omega
 have h1:0<u.1*v.2:=Int.mul_pos h hv2
 have:=hs.pos h1
 constructor <;> constructor <;> omega
theorem ybn {p q:Pt} {u v:Rt} (hp1:coord p.1=true) (hp2:small p.2) (hq1:coord q.1=true) (hq2:small q.2) (h:SlopeOk p q u v) (bad:Bool):yjf bad p q=some (slopeQ p q,bad):=by
 unfold yjf
 rw[ybo bad hq2.1 hp2.1,Option.bind_some,h.up]
 simp only[cK]
 rw[ybo bad (yhc hq1) (yhc hp1),Option.bind_some,h.far]
 simp only[cK]
 rw[ysc1 bad h.ru h.rv,Option.bind_some,h.div]
 rfl
theorem yej {p q:Pt} {u v:Rt} (hp1:coord p.1=true) (hp2:small p.2) (hq1:coord q.1=true) (hq2:small q.2) (h:SlopeOk p q u v):yee p q=some (slopeQ p q):=by
 unfold yee
 rw[yzm hq2.1 hp2.1,Option.bind_some,h.up]
 simp only[unO]
 rw[yzm (yhc hq1) (yhc hp1),Option.bind_some,h.far]
 simp only[unO]
 rw[yby h.ru h.rv,Option.bind_some,h.div]
 rfl
section
variable {n:Nat} {p:Nat->Pt}
theorem yfh1 (h:isMapT n p) {i:Nat} (hi:i+1<n):∃ u v,SlopeOk (p i) (p (i+1)) u v :=
 yeh1 (h.1 i (by omega)).1 (ypc (h.1 i (by omega)).2) (h.1 (i+1) hi).1 (ypc (h.1 (i+1) hi).2) (h.2.1 (i+1) (by omega) hi)
def slopesT (n:Nat) (p:Nat->Pt):List Rt:=tab (n-1) fun i=>slopeQ (p i) (p (i+1))
theorem yyt (h:isMapT n p) (h2:2<=n) (hn:n<=12):yqi (tab n p)=some (slopesT n p):=by
 have hx:=yqa1 (body:=yze (tab n p)) (n-1) (fun l i=>(false,l,((i+1:Nat):Int))) (fun i=>slopeQ (p i) (p (i+1))) (slopesT n p) (fun i hi=>by
  obtain⟨u,v,hs⟩:=yfh1 h (i:=i) (by omega)
  have a:=h.1 i (by omega)
  have b:=h.1 (i+1) (by omega)
  simp only[yze,yqa,yxj (show 0<i+1 by omega) (by omega),Nat.add_sub_cancel,yna (show i<n by omega),yna (show i+1<n by omega),show(((i+1:Nat):Int)<(n:Int)) from by omega,decide_true,if_true,Option.bind_some,ybn a.1 (ypc a.2) b.1 (ypc b.2) hs false,yva (show i+1<9223372036854775807 by omega)]
  rw[yea (by simp;omega)]) (by
  simp only[yze,yqa,show ¬ (((n-1+1:Nat):Int)<(n:Int)) from by omega,decide_false,Bool.false_eq_true,if_false];rfl)
 unfold yqi
 rw[show(1:Int)=((0+1:Nat):Int) from rfl,hx];rfl
theorem yyr (h:isMapT n p) (h2:2<=n) (hn:n<=12):ylk (tab n p)=some (slopesT n p):=by
 have hx:=yqa1 (body:=yai (tab n p)) (n-1) (fun l i=>(l,((i+1:Nat):Int))) (fun i=>slopeQ (p i) (p (i+1))) (slopesT n p) (fun i hi=>by
  obtain⟨u,v,hs⟩:=yfh1 h (i:=i) (by omega)
  have a:=h.1 i (by omega)
  have b:=h.1 (i+1) (by omega)
  simp only[yai,yqa,yxj (show 0<i+1 by omega) (by omega),Nat.add_sub_cancel,yna (show i<n by omega),yna (show i+1<n by omega),show(((i+1:Nat):Int)<(n:Int)) from by omega,decide_true,if_true,Option.bind_some,yej a.1 (ypc a.2) b.1 (ypc b.2) hs,yva (show i+1<9223372036854775807 by omega)]
  rw[yea (by simp;omega)]) (by
  simp only[yai,yqa,show ¬ (((n-1+1:Nat):Int)<(n:Int)) from by omega,decide_false,Bool.false_eq_true,if_false];rfl)
 unfold ylk
 rw[show(1:Int)=((0+1:Nat):Int) from rfl,hx];rfl
def strictB (n:Nat) (p:Nat->Pt):Bool:=(slopesT n p).all fun s=> !(s.1==0)
theorem yzr (h:isMapT n p) (h2:2<=n) (hn:n<=12):yye (tab n p)=some (strictB n p):=by
 have hl:(slopesT n p).length=n-1:=yqa _ _
 have hx:=ynm1 (xs:=slopesT n p) (body:=ybi (slopesT n p)) (fun s=>s.1==0) (fun i=>(i:Int)) (.inl false) (.inr ()) (fun i x hx=>by
  have hi:=getElem?_lt hx
  simp only[ybi,yvk,hx,Option.bind_some,show((i:Int)<((slopesT n p).length:Int)) from by omega,decide_true,if_true,yva (show i<9223372036854775807 by omega)];cases x.1==0 <;> rfl) (by simp[ybi])
 unfold yye strictB
 rw[yyr h h2 hn,Option.bind_some,show(0:Int)=((0:Nat):Int) from rfl,hx,List.any_eq_not_all_not]
 simp only[Int.natCast_zero]
 cases (slopesT n p).all fun s=> !(s.1==0) <;> simp[ycl]
theorem ygh1 (xs:List Rt) (f:Rt->Option Bool) (q:Rt->Bool) (hf:∀ x,f x=some (q x)) (hl:xs.length<=4611686018427387904):yta xs f=some (xs.any q):=by
 have h:=ytv (xs:=xs) (body:=yka xs f) q (fun i=>(i:Int)) (fun i=>.inl (i:Int)) (.inr ()) (fun i x hx=>by
  have hi:=getElem?_lt hx
  simp only[yka,yvk,hx,hf x,Option.bind_some,yva (show i<9223372036854775807 by omega),show((i:Int)<(xs.length:Int)) from by omega,decide_true,if_true]
  cases q x <;> rfl) (by simp[yka])
 unfold yta yma
 rw[show(0:Int)=((0:Nat):Int) from rfl,h]
 cases hx:xs.findIdx? q with
 | none =>
  have hn:=List.findIdx?_eq_none_iff.1 hx
  have:xs.any q=false:=by simpa using hn
  simp[this,ysa]
 | some m =>
  obtain⟨hm,hp,_⟩:=List.findIdx?_eq_some_iff_getElem.1 hx
  have:xs.any q=true:=by simp;exact⟨xs[m].1,xs[m].2,List.getElem_mem hm,hp⟩
  simp[this]
end
theorem yit (f:List Pt) (hl:f.length<=4611686018427387904):∃ c b,yxc f=some c/\yed f=some c/\yaf f=some (c&&b) /\
  (c=true->yye f=some b/\∃ n p,f=tab n p/\2<=n/\n<=12/\isMapT n p/\b=strictB n p):=by
 obtain⟨c,h1,h2,h3⟩:=ynq f hl
 cases c
 ·exact⟨false,false,h1,h2,by simp[yaf,yfn,h2],by simp⟩
 obtain⟨n,p,rfl,h4,h5,hm⟩:=h3 rfl
 refine⟨true,strictB n p,h1,h2,?_,fun _=>⟨yzr hm h4 h5,n,p,rfl,h4,h5,hm,rfl⟩⟩
 unfold yaf yfn
 rw[h2]
 simp only[Option.bind_some,if_true,yyt hm h4 h5,ygh1 (slopesT n p) (fun x0=>ysm x0) (fun s=>s.1==0) (fun x=>rfl) (by unfold slopesT;rw[yqa];omega),strictB,Bool.true_and,List.any_eq_not_all_not,Bool.not_not]
theorem ydy (f:List Pt) (hl:f.length<=4611686018427387904):∃ r,yok f=some r/\ymg f=some r:=by
 obtain⟨c,b,h1,h2,h3,h4⟩:=yit f hl
 unfold yok ymg
 rw[h1,h2]
 cases c
 ·exact⟨_,rfl,rfl⟩
 simp only[Option.bind_some,Bool.not_true,Bool.false_eq_true,if_false,(h4 rfl).1,h3]
 exact⟨_,rfl,rfl⟩
end Go.PV

/-
 Plain laws: values of maps and lifts.
 Conditions: none.
-/
set_option linter.all false
namespace Go.PV
structure Curve (n:Nat) (p:Nat->Pt):Prop where
 lo:2<=n
 hi:n<=12
 x:∀ i,i<n->coord (p i).1=true
 y:∀ i,i<n->small (p i).2
 up:∀ i,0<i->i<n->less (p (i-1)).1 (p i).1=true
 fst:(p 0).1=(0,1)
 lst:(p (n-1)).1=(1,1)
theorem Curve.of_map {n:Nat} {p:Nat->Pt} (h:isMapT n p) (h2:2<=n) (hn:n<=12):Curve n p :=
 ⟨h2,hn,fun i hi=>(h.1 i hi).1,fun i hi=>ypc (h.1 i hi).2,h.2.1,h.2.2.1,h.2.2.2⟩
def CR (bad:Bool) (o:Option Rt) (v:Rt×Bool):Prop:=isRat v.1=true/\match o with
 | some r=>v=(r,bad)
 | none=>v.2=true
theorem yxu1 {bad:Bool} {o:Option Rt} (h:∀ r,o=some r->isRat r=true):CR bad o (cK bad o):=by
 refine⟨yyt1 h,?_⟩
 cases o <;> rfl
theorem yuj1 {o:Option Rt} {v:Rt×Bool} (h:CR true o v):v.2=true:=by
 obtain⟨_,h⟩:=h
 cases o with
 | some r=>rw[h]
 | none=>exact h
theorem yti1 {bad:Bool} {o:Option Rt} {v v':Rt×Bool} {g:Rt->Option Rt} (h:CR bad o v) (h':CR v.2 (g v.1) v'):CR bad (o.bind g) v':=by
 obtain⟨h1,h2⟩:=h
 refine⟨h'.1,?_⟩
 cases o with
 | some r =>
  simp only at h2
  subst h2;exact h'.2
 | none =>
  simp only at h2
  simp only[Option.bind_none];have:=h'
  rw[h2] at this;exact yuj1 this
section
variable {n:Nat} {p:Nat->Pt}
theorem Curve.piece (h:Curve n p) {i:Nat} (hi:i+1<n):∃ u v,SlopeOk (p i) (p (i+1)) u v :=
 yeh1 (h.x i (by omega)) (h.y i (by omega)) (h.x (i+1) hi) (h.y (i+1) hi) (h.up (i+1) (by omega) hi)
structure AtJ (n:Nat) (p:Nat->Pt) (x:Rt) (j:Nat):Prop where
 lt:j<n
 bef:∀ k,k<j->less (p k).1 x=true
 at':less (p j).1 x=false
theorem yao1 (h:Curve n p) {x:Rt} (hx:isUnit x=true):∃ j,AtJ n p x j:=by
 have hr:isRat x=true:=by simp only[isUnit,Bool.and_eq_true] at hx;exact hx.1
 have hle:less (p (n-1)).1 x=false:=by
  rw[h.lst];simp only[isUnit,Bool.and_eq_true,inB_iff] at hx;have:=isRat_iff.1 hr
  simp only[less,decide_eq_false_iff_not];omega
 have:∀ k,k<n->(∃ j,AtJ n p x j)\/∀ i,i<=k->less (p i).1 x=true:=by
  intro k;induction k with
  | zero =>
   intro hk;cases h0:less (p 0).1 x
   ·exact .inl ⟨0,hk,fun k hk=>by omega,h0⟩
   exact .inr fun i hi=>by have:i=0:=(by omega);subst this;exact h0
  | succ k ih =>
   intro hk;rcases ih (by omega) with h1 | h1
   ·exact .inl h1
   cases h0:less (p (k+1)).1 x
   ·exact .inl ⟨k+1,hk,fun i hi=>h1 i (by omega),h0⟩
   refine .inr fun i hi=>?_
   by_cases hik:i<=k
   ·exact h1 i hik
   have:i=k+1:=by omega
   subst this;exact h0
 have h2:=h.lo
 rcases this (n-1) (by omega) with h1 | h1
 ·exact h1
 have:=h1 (n-1) (Nat.le_refl _)
 rw[hle] at this;cases this
theorem AtJ.uniq {x:Rt} {j k:Nat} (h:AtJ n p x j) (h':AtJ n p x k):j=k:=by
 rcases Nat.lt_trichotomy j k with h1 | h1 | h1
 ·have:=h'.bef j h1;rw[h.at'] at this;cases this
 ·exact h1
 have:=h.bef k h1;rw[h'.at'] at this;cases this
theorem ysm1 (f:Pt->Option Bool) (q:Nat->Bool) (hf:∀ i,i<n->f (p i)=some (q i)) (j:Nat) (hj:j<n) (hn:n<=1048576) (h1:∀ k,k<j->q k=false) (h2:q j=true):yga (tab n p) f=some (j:Int):=by
 have hx:=yuc (body:=yca (tab n p) f) j (fun i=>(i:Int)) (.inl (j:Int)) (fun i hi=>by
  simp only[yca,yqa,yna (show i<n by omega),hf i (by omega),h1 i hi,Option.bind_some,show((i:Int)<(n:Int)) from by omega,decide_true,if_true,yva (show i<9223372036854775807 by omega)]
  simp) (by
  simp only[yca,yqa,yna hj,hf j hj,h2,Option.bind_some,show((j:Int)<(n:Int)) from by omega,decide_true,if_true])
 unfold yga
 rw[show(0:Int)=((0:Nat):Int) from rfl,hx]
 rfl
theorem yzt (h:Curve n p) {x:Rt} (hx:isRat x=true) {j:Nat} (hj:AtJ n p x j):yck (tab n p) x=some ((j-1:Nat):Int):=by
 have h1:=h.hi
 have hlt:=hj.lt
 unfold yck
 rw[ysm1 (fun x0=>ywd x0 x) (fun i=> !less (p i).1 x) (fun i hi=>by simp[ywd,ygf _ _ (yan (h.x i hi)) (ycc hx)]) j hlt (by omega) (fun k hk=>by simp[hj.bef k hk]) (by simp[hj.at'])]
 rw[Option.bind_some,yzb (by omega) (by omega)]
 congr 1
 split <;> omega
theorem yzb1 (h:Curve n p) {x:Rt} (hx:isRat x=true) {j:Nat} (hj:AtJ n p x j):yro (tab n p) x=some ((j-1:Nat):Int):=by
 have h1:=h.hi
 have h2:=h.lo
 have hlt:=hj.lt
 have hx:=yuc (body:=ygj (tab n p) x) (j-1) (fun i=>(i:Int)) ((j-1:Nat):Int) (fun i hi=>by
  have e2:w64 ((i:Int)+2)=((i+2:Nat):Int):=by rw[yzb (by omega) (by omega)];omega
  simp only[ygj,yqa,e2,yva (show i<9223372036854775807 by omega),yna (show i+1<n by omega),Option.bind_some,ydc _ _ (yan (h.x (i+1) (by omega))) (ycc hx),show(((i+2:Nat):Int)<(n:Int)) from by omega,decide_true,if_true]
  have:decide (cmp (p (i+1)).1 x<0)=true:=by
   have:=hj.bef (i+1) (by omega)
   simp only[less,decide_eq_true_eq] at this;simp[cmp,this]
  rw[this];rfl) (by
  have e2:w64 (((j-1:Nat):Int)+2)=((j-1+2:Nat):Int):=by rw[yzb (by omega) (by omega)];omega
  simp only[ygj,yqa,e2];by_cases hc:j-1+2<n
  ·simp only[show(((j-1+2:Nat):Int)<(n:Int)) from by omega,decide_true,if_true,yva (show j-1<9223372036854775807 by omega),yna (show j-1+1<n by omega),Option.bind_some,ydc _ _ (yan (h.x (j-1+1) (by omega))) (ycc hx)]
   have hno:less (p (j-1+1)).1 x=false:=by
    by_cases hj0:j=0
    ·subst hj0
     -- x is not behind the first point,so not behind the second
     have h3:=hj.at'
     have h4:=h.up 1 (by omega) (by omega)
     rw[h.fst] at h3 h4
     obtain⟨x1,x2,x3,x4,_⟩:=isRat_iff.1 hx;have c:=ysa1 (h.x 1 (by omega))
     simp only[less,decide_eq_false_iff_not,decide_eq_true_eq] at h3 h4 ⊢;simp only[Nat.zero_sub,Nat.zero_add,Nat.sub_self] at h4 ⊢;have p1:0<=(p 1).1.1*x.2:=Int.mul_nonneg c.1 (by omega)
     have p2:x.1*(p 1).1.2<=0:=Int.mul_nonpos_of_nonpos_of_nonneg (by omega) (by omega)
     omega
    rw[show j-1+1=j by omega];exact hj.at'
   have:decide (cmp (p (j-1+1)).1 x<0)=false:=by
    simp only[less,decide_eq_false_iff_not] at hno;simp only[cmp,hno,if_false];split <;> rfl
   rw[this];rfl
  simp only[show ¬ (((j-1+2:Nat):Int)<(n:Int)) from by omega,decide_false,Bool.false_eq_true,if_false,Option.bind_some])
 unfold yro
 rw[show(0:Int)=((0:Nat):Int) from rfl,hx]
 rfl
def onQ (p q:Pt) (x:Rt):Option Rt:=(subQ x p.1).bind fun far=>(mulQ (slopeQ p q) far).bind fun up=>addQ p.2 up
theorem ywp1 (a b:Rt):mulQ a b=mulQ b a:=by unfold mulQ;rw[Int.mul_comm,Int.mul_comm a.2]
theorem yta1 {q:Pt} {s x:Rt} (hq1:isRat q.1=true) (hq2:isRat q.2=true) (hs:isRat s=true) (hx:isRat x=true) (bad:Bool):∃ v,yzk bad q s x=some v/\CR bad ((subQ x q.1).bind fun far=>(mulQ s far).bind fun up=>addQ q.2 up) v:=by
 have c1:CR bad (subQ x q.1) (cK bad (subQ x q.1)):=yxu1 fun _=>yem
 have c2:=yxu1 (bad:=(cK bad (subQ x q.1)).2) (o:=mulQ s (cK bad (subQ x q.1)).1) fun _=>yod1
 have c3:=yxu1 (bad:=(cK (cK bad (subQ x q.1)).2 (mulQ s (cK bad (subQ x q.1)).1)).2) (o:=addQ q.2 (cK (cK bad (subQ x q.1)).2 (mulQ s (cK bad (subQ x q.1)).1)).1) fun _=>ylu
 refine⟨_,?_,yti1 c1 (yti1 (g:=fun up=>addQ q.2 up) c2 c3)⟩
 unfold yzk
 rw[ybo bad hx hq1,Option.bind_some,ytj1 _ hs c1.1,Option.bind_some,yjx _ hq2 c2.1]
 rfl
theorem ytf1 (h:Curve n p) {x:Rt} (hx:isRat x=true) {j:Nat} (hj:AtJ n p x j) (bad:Bool):∃ v,yya bad (tab n p) x=some v/\CR bad (onQ (p (j-1)) (p (j-1+1)) x) v:=by
 have h1:=h.hi
 have h2:=h.lo
 have hlt:=hj.lt
 have hj1:j-1+1<n:=by omega
 obtain⟨u,v,hs⟩:=h.piece hj1
 obtain⟨w,e1,e2⟩:=yta1 (q:=p (j-1)) (s:=slopeQ (p (j-1)) (p (j-1+1))) (x:=x) (yhc (h.x (j-1) (by omega))) (h.y (j-1) (by omega)).1 hs.rs hx bad
 refine⟨w,?_,e2⟩
 unfold yya
 rw[yzt h hx hj]
 simp only[Option.bind_some,yva (show j-1<9223372036854775807 by omega),yna (show j-1<n by omega),yna hj1,ybn (h.x (j-1) (by omega)) (h.y (j-1) (by omega)) (h.x (j-1+1) hj1) (h.y (j-1+1) hj1) hs bad,e1]
theorem yac1 (s:Rt):yso (0,0) s=some ((0,0),false):=by
 unfold yso yub
 have:w64 (0*s.2)=0:=by rw[Int.zero_mul];rfl
 simp only[this]
 rfl
theorem yhh1 (h:Curve n p) {x:Rt} (hx:isRat x=true) {j:Nat} (hj:AtJ n p x j):yoi (tab n p) x=some (unO (onQ (p (j-1)) (p (j-1+1)) x)):=by
 have h1:=h.hi
 have h2:=h.lo
 have hlt:=hj.lt
 have hj1:j-1+1<n:=by omega
 obtain⟨u,v,hs⟩:=h.piece hj1
 have rx:=yhc (h.x (j-1) (by omega))
 unfold yoi
 rw[yzb1 h hx hj]
 simp only[Option.bind_some,yva (show j-1<9223372036854775807 by omega),yna (show j-1<n by omega),yna hj1,ylz,yzm hx rx,yej (h.x (j-1) (by omega)) (h.y (j-1) (by omega)) (h.x (j-1+1) hj1) (h.y (j-1+1) hj1) hs,onQ]
 cases hsq:subQ x (p (j-1)).1 with
 | none =>
  simp only[unO,yac1,Option.bind_some,Option.bind_none];rfl
 | some far =>
  have hf:=yem hsq;simp only[unO,yqf1 hf hs.rs,Option.bind_some,ywp1 far];cases hmq:mulQ (slopeQ (p (j-1)) (p (j-1+1))) far with
  | none=>rfl
  | some up =>
   simp only[unO,Option.bind_some,yrs (h.y (j-1) (by omega)).1 (yod1 hmq)];rfl
end
end Go.PV

/-
 Plain laws: values of lifts.
 Conditions: none.
-/
set_option linter.all false
namespace Go.PV
structure LiftT (n:Nat) (p:Nat->Pt):Prop where
 cur:Curve n p
 mono:∀ i,0<i->i<n->less (p i).2 (p (i-1)).2=false
 lstY:(p (n-1)).2=((p 0).2.1+(p 0).2.2,(p 0).2.2)
 by5:∀ i,i<n -> -5*(p i).2.2<=(p i).2.1/\(p i).2.1<=5*(p i).2.2
def flr (x:Rt):Int:=floorDiv x.1 x.2
def part (x:Rt):Rt:=(x.1-flr x*x.2,x.2)
structure PartOk (x:Rt):Prop where
 rat:isRat (part x)=true
 lo:0<=(part x).1
 hi:(part x).1<(part x).2
 spec:yth1 x=some (flr x)
 impl:yzn1 x=some (flr x)
 bd:flr x*x.2<=x.1/\x.1<flr x*x.2+x.2
section
variable {n:Nat} {p:Nat->Pt}
open Classical in
noncomputable def atQ (n:Nat) (p:Nat->Pt) (x:Rt):Option Rt:=if h:∃ j,AtJ n p x j then onQ (p (Classical.choose h-1)) (p (Classical.choose h-1+1)) x else none
theorem yvj1 {x:Rt} {j:Nat} (h:AtJ n p x j):atQ n p x=onQ (p (j-1)) (p (j-1+1)) x:=by
 have hx:∃ j,AtJ n p x j:=⟨j,h⟩
 unfold atQ
 rw[dif_pos hx,AtJ.uniq (Classical.choose_spec hx) h]
theorem yox1 {q r:Pt} {x y:Rt} (h:onQ q r x=some y):isRat y=true:=by
 unfold onQ at h
 obtain⟨a,_,h⟩:=Option.bind_eq_some_iff.1 h
 obtain⟨b,_,h⟩:=Option.bind_eq_some_iff.1 h
 exact ylu h
theorem ypx1 {x y:Rt} (h:atQ n p x=some y):isRat y=true:=by
 unfold atQ at h
 split at h
 ·exact yox1 h
 cases h
theorem ytm1 (h:Curve n p) {x:Rt} (hx:isUnit x=true):yoi (tab n p) x=some (unO (atQ n p x)):=by
 have hr:isRat x=true:=by simp only[isUnit,Bool.and_eq_true] at hx;exact hx.1
 obtain⟨j,hj⟩:=yao1 h hx
 rw[yhh1 h hr hj,yvj1 hj]
theorem yuf1 (h:Curve n p) {x:Rt} (hx:isUnit x=true) (bad:Bool):∃ v,yya bad (tab n p) x=some v/\CR bad (atQ n p x) v:=by
 have hr:isRat x=true:=by simp only[isUnit,Bool.and_eq_true] at hx;exact hx.1
 obtain⟨j,hj⟩:=yao1 h hx
 rw[yvj1 hj]
 exact ytf1 h hr hj bad
noncomputable def liftQ (n:Nat) (p:Nat->Pt) (x:Rt):Option Rt:=(atQ n p (part x)).bind fun y=>addQ y (flr x,1)
end
end Go.PV

set_option linter.all false
namespace Go.PV
theorem yih1 {a b:Int×Int} (hl:less a b=true):less b a=false:=by
 simp only[less,decide_eq_true_eq,decide_eq_false_iff_not] at hl ⊢
 omega
def minStep (a b:Int×Int):Int×Int:=if less b a=true then b else a
def maxStep (a b:Int×Int):Int×Int:=if less a b=true then b else a
def mnN (r:Nat->Int×Int) (i:Nat):Int×Int:=foldN i (fun s j=>minStep s (r j)) (r 0)
def mxN (r:Nat->Int×Int) (i:Nat):Int×Int:=foldN i (fun s j=>maxStep s (r j)) (r 0)
theorem yjh1 (r:Nat->Int×Int) (i:Nat):mnN r (i+1)=minStep (mnN r i) (r i):=by simp[mnN,ypf1]
theorem ykh1 (r:Nat->Int×Int) (i:Nat):mxN r (i+1)=maxStep (mxN r i) (r i):=by simp[mxN,ypf1]
theorem yui1 (a:Int×Int):less a a=false:=by simp[less]
theorem yqx1 (r:Nat->Int×Int):mnN r 1=r 0:=by simp[mnN,foldN,minStep,yui1]
theorem yrx1 (r:Nat->Int×Int):mxN r 1=r 0:=by simp[mxN,foldN,maxStep,yui1]
theorem yxp1 {r:Nat->Int×Int} {n:Nat} (h0:isRat (r 0)=true) (h:∀ i,i<n->isRat (r i)=true):∀ i,i<=n->isRat (mnN r i)=true/\isRat (mxN r i)=true
 | 0,_=>by simpa [mnN,mxN,ypm1] using h0
 | i+1,hi=>by
  have ih:=yxp1 h0 h i (by omega)
  rw[yjh1,ykh1];unfold minStep maxStep
  refine⟨?_,?_⟩
  ·split
   ·exact h i (by omega)
   exact ih.1
  split
  ·exact h i (by omega)
  exact ih.2
theorem ywj1 (a b:Int×Int):decide (cmp a b<0)=less a b:=by
 unfold cmp less
 by_cases h1:a.1*b.2<b.1*a.2
 ·simp[h1]
 by_cases h2:a.1*b.2>b.1*a.2 <;> simp[h1,h2]
def ratN (G:Nat->Nat->Int) (v:Nat->Int) (n i:Nat):Int×Int:=(lowest (dotN (G i) v n) (v i)).1
section
variable {n:Nat} {G:Nat->Nat->Int} {v:Nat->Int}
theorem yvf1 {r:Nat->Int×Int} (h1:1<=n) (hn:n<=1048576) (hr:∀ i,i<n->isRat (r i)=true):ybd (tab n r) (fun x0 x1=>yac x0 x1)=some (mnN r n):=by
 have h:=yuc (body:=yfb (tab n r) (fun x0 x1=>yac x0 x1)) (n-1) (fun i=>((mnN r (i+1)).1,(mnN r (i+1)).2,((i+1:Nat):Int))) (mnN r n) (fun i hi=>by
  have hi':i+1<n:=by omega
  have b:=yxp1 (hr 0 (by omega)) hr (i+1) (by omega)
  simp only[yfb,yqa,yna hi',Option.bind_some,show(((i+1:Nat):Int)<(n:Int)) from by omega,decide_true,if_true,yva (show i+1<9223372036854775807 by omega)]
  rw[show((mnN r (i+1)).1,(mnN r (i+1)).2)=mnN r (i+1) from rfl,yeh _ _ (ycc (hr _ hi')) (ycc b.1),Option.bind_some,ywj1,yjh1 r (i+1)];unfold minStep;cases less (r (i+1)) (mnN r (i+1)) <;> simp) (by
  have e:n-1+1=n:=by omega
  simp[yfb,yqa,e])
 unfold ybd yce
 have hl:¬ (n:Int)<1:=by omega
 simp only[yqa,hl,decide_false,Bool.false_eq_true,if_false]
 rw[show(0:Int)=((0:Nat):Int) from rfl,yna (by omega),Option.bind_some]
 simp only[Nat.zero_add,yqx1] at h
 have h':loopO (yfb (tab n r) (fun x0 x1=>yac x0 x1)) ((r 0).1,(r 0).2,1)=some (mnN r n):=h
 rw[h']
 rfl
theorem ywf1 {r:Nat->Int×Int} (h1:1<=n) (hn:n<=1048576) (hr:∀ i,i<n->isRat (r i)=true):ycd (tab n r) (fun x0 x1=>yac x0 x1)=some (mxN r n):=by
 have h:=yuc (body:=ygb (tab n r) (fun x0 x1=>yac x0 x1)) (n-1) (fun i=>((mxN r (i+1)).1,(mxN r (i+1)).2,((i+1:Nat):Int))) (mxN r n) (fun i hi=>by
  have hi':i+1<n:=by omega
  have b:=yxp1 (hr 0 (by omega)) hr (i+1) (by omega)
  simp only[ygb,yqa,yna hi',Option.bind_some,show(((i+1:Nat):Int)<(n:Int)) from by omega,decide_true,if_true,yva (show i+1<9223372036854775807 by omega)]
  rw[show((mxN r (i+1)).1,(mxN r (i+1)).2)=mxN r (i+1) from rfl,yeh _ _ (ycc (hr _ hi')) (ycc b.2),Option.bind_some,yja2,ykh1 r (i+1)];unfold maxStep;cases less (mxN r (i+1)) (r (i+1)) <;> simp) (by
  have e:n-1+1=n:=by omega
  simp[ygb,yqa,e])
 unfold ycd yde
 have hl:¬ (n:Int)<1:=by omega
 simp only[yqa,hl,decide_false,Bool.false_eq_true,if_false]
 rw[show(0:Int)=((0:Nat):Int) from rfl,yna (by omega),Option.bind_some]
 simp only[Nat.zero_add,yrx1] at h
 have h':loopO (ygb (tab n r) (fun x0 x1=>yac x0 x1)) ((r 0).1,(r 0).2,1)=some (mxN r n):=h
 rw[h']
 rfl
end
def asked (g:List (List Int)) (u:List Int):Bool:=isGraph g&&(isVec u&&((u.length:Int)==(g.length:Int)))
end Go.PV

set_option linter.all false
namespace Go.PV
end Go.PV

/-
 Plain laws: where a lift comes from.
 Conditions: none.
-/
set_option linter.all false
namespace Go.PV
theorem ysx1 {n d:Int} (hd:0<d) {r:Rt} (h:lowQ n d=some r):r.1*d=n*r.2/\1<=r.2:=by
 have hr:=yix h
 have h2:=(isRat_iff.1 hr).1
 have hdn:¬ d<0:=by omega
 unfold lowQ lowest at h
 simp only[if_neg hdn] at h
 by_cases h3:isRat (Int.tdiv n (Int.gcd n d:Int),Int.tdiv d (Int.gcd n d:Int))=true
 ·rw[if_pos h3] at h
  simp only[if_true] at h;obtain rfl:=Option.some.inj h
  have a:(Int.gcd n d:Int)∣n:=Int.gcd_dvd_left ..
  have b:(Int.gcd n d:Int)∣d:=Int.gcd_dvd_right ..
  refine⟨?_,h2⟩
  show Int.tdiv n (Int.gcd n d:Int)*d=n*Int.tdiv d (Int.gcd n d:Int)
  have e1:=Int.tdiv_mul_cancel a;have e2:=Int.tdiv_mul_cancel b;generalize Int.tdiv n (Int.gcd n d:Int)=u at *
  generalize Int.tdiv d (Int.gcd n d:Int)=v at *
  generalize (Int.gcd n d:Int)=g at *
  subst e1;rw[← e2];grind
 rw[if_neg h3] at h;simp at h
theorem ymb2 {a b c:Rt} (ha:isRat a=true) (hb:isRat b=true) (hc:isRat c=true) (h1:less a b=true) (h2:less c b=false):less a c=true:=by
 have a2:=(isRat_iff.1 ha).1
 have b2:=(isRat_iff.1 hb).1
 have c2:=(isRat_iff.1 hc).1
 simp only[less,decide_eq_true_eq,decide_eq_false_iff_not] at *
 have m1:=Int.mul_le_mul_of_nonneg_right (show b.1*c.2<=c.1*b.2 by omega) (show 0<=a.2 by omega)
 have m2:=Int.mul_lt_mul_of_pos_right h1 (show 0<c.2 by omega)
 refine Classical.byContradiction fun h3=>?_
 have m3:=Int.mul_le_mul_of_nonneg_right (show c.1*a.2<=a.1*c.2 by omega) (show 0<=b.2 by omega)
 grind
theorem ynb2 {a b c:Rt} (ha:isRat a=true) (hb:isRat b=true) (hc:isRat c=true) (h1:less b a=false) (h2:less c b=false):less c a=false:=by
 cases h:less c a
 ·rfl
 have:=ymb2 hc ha hb h h1
 rw[h2] at this;cases this
theorem yvr1 {a b:Rt} (ha:isRat a=true) (hb:isRat b=true) (h1:less a b=false) (h2:less b a=false):a=b:=by
 refine ynd1 ha hb ?_
 simp only[less,decide_eq_false_iff_not] at h1 h2
 omega
def turnK (y x:Rt):Int:=if less (part x) (part y)=true then flr x-flr y-1 else flr x-flr y
section
variable {n:Nat} {p:Nat->Pt}
def backQ (q r:Pt) (z:Rt):Option Rt:=(subQ z q.2).bind fun u=>(divQ u (slopeQ q r)).bind fun v=>addQ q.1 v
theorem yqd1 (h:Curve n p) {i:Nat} (hi:i+1<n) {z:Rt} (hz:isRat z=true):ysq (p i) (p (i+1)) z=some (unO (backQ (p i) (p (i+1)) z)):=by
 obtain⟨u,v,hs⟩:=h.piece hi
 unfold ysq backQ
 rw[yzm hz (h.y i (by omega)).1,Option.bind_some]
 cases h1:subQ z (p i).2 with
 | none=>rfl
 | some a =>
  simp only[unO,Bool.not_true,Bool.false_eq_true,if_false,yej (h.x i (by omega)) (h.y i (by omega)) (h.x (i+1) hi) (h.y (i+1) hi) hs,Option.bind_some,yby (yem h1) hs.rs]
  cases h2:divQ a (slopeQ (p i) (p (i+1))) with
  | none=>rfl
  | some b =>
   simp only[unO,Bool.not_true,Bool.false_eq_true,if_false,Option.bind_some,yrs (yhc (h.x i (by omega))) (yoa1 h2)]
theorem ylh1 (h:Curve n p) {i:Nat} (hi:i+1<n) {z:Rt} (hz:isRat z=true) (bad:Bool):∃ v,yal bad (p i) (p (i+1)) z=some v/\CR bad (backQ (p i) (p (i+1)) z) v:=by
 obtain⟨u,v,hs⟩:=h.piece hi
 have c1:CR bad (subQ z (p i).2) (cK bad (subQ z (p i).2)):=yxu1 fun _=>yem
 have c2:=yxu1 (bad:=(cK bad (subQ z (p i).2)).2) (o:=divQ (cK bad (subQ z (p i).2)).1 (slopeQ (p i) (p (i+1)))) fun _=>yoa1
 have c3:=yxu1 (bad:=(cK (cK bad (subQ z (p i).2)).2 (divQ (cK bad (subQ z (p i).2)).1 (slopeQ (p i) (p (i+1))))).2) (o:=addQ (p i).1 (cK (cK bad (subQ z (p i).2)).2 (divQ (cK bad (subQ z (p i).2)).1 (slopeQ (p i) (p (i+1))))).1) fun _=>ylu
 refine⟨_,?_,yti1 c1 (yti1 (g:=fun b=>addQ (p i).1 b) c2 c3)⟩
 unfold yal
 rw[ybo bad hz (h.y i (by omega)).1,Option.bind_some,ybn (h.x i (by omega)) (h.y i (by omega)) (h.x (i+1) hi) (h.y (i+1) hi) hs,Option.bind_some,ysc1 _ c1.1 hs.rs,Option.bind_some,yjx _ (yhc (h.x i (by omega))) c2.1]
 rfl
structure UpJ (n:Nat) (p:Nat->Pt) (z:Rt) (j:Nat):Prop where
 pos:0<j
 lt:j<n
 bef:∀ k,k<j->less (p k).2 z=true
 at':less (p j).2 z=false
structure FlatJ (n:Nat) (p:Nat->Pt) (j:Nat):Prop where
 pos:0<j
 lt:j<n
 same:∀ k,j<k->k<n->(p (k-1)).2=(p k).2
 step:(p (j-1)).2≠(p j).2
section
variable (h:Curve n p) {z:Rt} (hz:isRat z=true)
include h hz
end
end
end Go.PV

/-
 Plain laws: what fractions stand for.
 Conditions: none.
-/
set_option linter.all false
namespace Go.PV
def val (r:Rt):Rat:=(r.1:Rat) / (r.2:Rat)
theorem yir {d:Int} (h:0<d):(0:Rat)<(d:Rat):=by exact_mod_cast h
theorem yuf {r:Rt} (h:0<r.2):val r*(r.2:Rat)=(r.1:Rat):=by
 have:=yir h
 unfold val
 have h2:(r.2:Rat)≠0:=by intro h3;rw[h3] at this;exact absurd this (by decide)
 grind
theorem yau1 {a b c d:Int} (hb:0<b) (hd:0<d) {x y:Rat} (hx:x*(b:Rat)=(a:Rat)) (hy:y*(d:Rat)=(c:Rat)):a*d<c*b↔x<y:=by
 have pb:=yir hb
 have pd:=yir hd
 have e:((a*d:Int):Rat)<((c*b:Int):Rat)↔a*d<c*b:=by exact_mod_cast Iff.rfl
 rw[← e,Rat.intCast_mul,Rat.intCast_mul,← hx,← hy]
 constructor
 ·intro h
  refine Classical.byContradiction fun hno=>?_
  have h1:y<=x:=by grind
  have h2:=Rat.mul_le_mul_of_nonneg_left h1 (Rat.le_of_lt (Rat.mul_pos pb pd))
  grind
 intro h
 have h2:=Rat.mul_lt_mul_of_pos_left h (Rat.mul_pos pb pd)
 grind
theorem ytb {a b:Rt} (ha:0<a.2) (hb:0<b.2):less a b=true↔val a<val b:=by
 rw[← yau1 ha hb (yuf ha) (yuf hb)]
 simp[less]
theorem yvf {a b:Rt} (ha:0<a.2) (hb:0<b.2):less a b=false↔val b<=val a:=by
 have:=ytb ha hb
 cases h:less a b
 ·rw[h] at this
  have:¬ val a<val b:=fun h1=>by have:=this.2 h1;cases this
  exact⟨fun _=>by grind,fun _=>rfl⟩
 rw[h] at this
 have:=this.1 rfl
 exact⟨fun h=>(by cases h),fun h=>(by grind)⟩
theorem yua1 {n d:Int} (hd:0<d) {r:Rt} (h:lowQ n d=some r):val r*(d:Rat)=(n:Rat):=by
 obtain⟨e,hp⟩:=ysx1 hd h
 have h2:=yuf (r:=r) (by omega)
 have p2:=yir (d:=r.2) (by omega)
 have pd:=yir hd
 have e2:(r.1:Rat)*(d:Rat)=(n:Rat)*(r.2:Rat):=by exact_mod_cast e
 have h3:(r.2:Rat)≠0:=by intro h3;rw[h3] at p2;exact absurd p2 (by decide)
 rw[← h2] at e2
 grind
theorem ne0 {d:Int} (h:0<d):(d:Rat)≠0:=by
 have:=yir h
 intro h3;rw[h3] at this;exact absurd this (by decide)
section
variable {a b r:Rt} (ha:isRat a=true) (hb:isRat b=true)
include ha hb
theorem yva1 (h:addQ a b=some r):val r=val a+val b:=by
 have a2:=(isRat_iff.1 ha).1
 have b2:=(isRat_iff.1 hb).1
 have e:=yua1 (ycy ha hb) h
 have e1:=yuf (r:=a) (by omega)
 have e2:=yuf (r:=b) (by omega)
 have n1:=ne0 (d:=a.2) (by omega)
 have n2:=ne0 (d:=b.2) (by omega)
 rw[Rat.intCast_add,Rat.intCast_mul,Rat.intCast_mul,Rat.intCast_mul,← e1,← e2] at e
 grind
theorem yme (h:subQ a b=some r):val r=val a-val b:=by
 have a2:=(isRat_iff.1 ha).1
 have b2:=(isRat_iff.1 hb).1
 have e:=yua1 (ycy ha hb) h
 have e1:=yuf (r:=a) (by omega)
 have e2:=yuf (r:=b) (by omega)
 have n1:=ne0 (d:=a.2) (by omega)
 have n2:=ne0 (d:=b.2) (by omega)
 rw[Rat.intCast_sub,Rat.intCast_mul,Rat.intCast_mul,Rat.intCast_mul,← e1,← e2] at e
 grind
theorem yum1 (h:mulQ a b=some r):val r=val a*val b:=by
 have a2:=(isRat_iff.1 ha).1
 have b2:=(isRat_iff.1 hb).1
 have e:=yua1 (ycy ha hb) h
 have e1:=yuf (r:=a) (by omega)
 have e2:=yuf (r:=b) (by omega)
 have n1:=ne0 (d:=a.2) (by omega)
 have n2:=ne0 (d:=b.2) (by omega)
 rw[Rat.intCast_mul,Rat.intCast_mul,← e1,← e2] at e
 grind
theorem divQ_val (hp:0<b.1) (h:divQ a b=some r):val r*val b=val a:=by
 have a2:=(isRat_iff.1 ha).1
 have b2:=(isRat_iff.1 hb).1
 unfold divQ at h
 rw[if_neg (by omega)] at h
 have e:=yua1 (Int.mul_pos (by omega) hp) h
 have e1:=yuf (r:=a) (by omega)
 have e2:=yuf (r:=b) (by omega)
 have n1:=ne0 (d:=a.2) (by omega)
 have n2:=ne0 (d:=b.2) (by omega)
 rw[Rat.intCast_mul,Rat.intCast_mul,← e1,← e2] at e
 grind
end
theorem yne {r:Rt} (hr:isRat r=true):isUnit r=true↔(0:Rat)<=val r/\val r<=1:=by
 have r2:=(isRat_iff.1 hr).1
 have e:=yuf (r:=r) (by omega)
 have p:=yir (d:=r.2) (by omega)
 simp only[isUnit,Bool.and_eq_true,inB_iff,hr,true_and]
 have h1:=yau1 (a:=r.1) (b:=r.2) (c:=0) (d:=1) (x:=val r) (y:=0) (by omega) (by omega) e (by simp)
 have h2:=yau1 (a:=1) (b:=1) (c:=r.1) (d:=r.2) (x:=1) (y:=val r) (by omega) (by omega) (by simp) e
 constructor
 ·intro ⟨h3,h4⟩
  constructor
  ·refine Classical.byContradiction fun hno=>?_
   have:=h1.2 (by grind)
   omega
  refine Classical.byContradiction fun hno=>?_
  have:=h2.2 (by grind)
  omega
 intro ⟨h3,h4⟩
 constructor
 ·refine Classical.byContradiction fun hno=>?_
  have:=h1.1 (by omega)
  grind
 refine Classical.byContradiction fun hno=>?_
 have:=h2.1 (by omega)
 grind
end Go.PV

/-
 Plain laws: the laps of a map.
 Conditions: none.
-/
set_option linter.all false
namespace Go.PV
abbrev Trip:=Nat×Nat×Int
def encT (t:Trip):List Int:=[(t.1:Int),(t.2.1:Int),t.2.2]
def lapStep (l:List Trip) (i:Nat) (s:Int):List Trip:=match l.getLast? with
 | some t=>if t.2.2=s then l.dropLast++[(t.1,i+1,s)] else l++[(i,i+1,s)]
 | none=>l++[(i,i+1,s)]
def lapsN (σ:Nat->Int):Nat->List Trip
 | 0=>[]
 | i+1=>lapStep (lapsN σ i) i (σ i)
theorem yjt (i:Nat) (s:Int):lapStep [] i s=[(i,i+1,s)]:=rfl
theorem yoq (l:List Trip) (t:Trip) (i:Nat) (s:Int):lapStep (l++[t]) i s=if t.2.2=s then l++[(t.1,i+1,s)] else l++[t]++[(i,i+1,s)]:=by
 unfold lapStep
 simp
theorem yaw {α:Type} (l:List α):l=[]\/∃ l' x,l=l'++[x]:=by
 rcases List.eq_nil_or_concat l with h | ⟨l',x,h⟩
 ·exact .inl h
 exact .inr ⟨l',x,by rw[h,List.concat_eq_append]⟩
structure LapInv (σ:Nat->Int) (i:Nat):Prop where
 len:(lapsN σ i).length<=i
 ne:0<i->lapsN σ i≠[]
 bd:∀ t∈lapsN σ i,t.1<t.2.1/\t.2.1<=i
theorem ywa1 (σ:Nat->Int):∀ i,LapInv σ i
 | 0=>⟨by simp[lapsN],by omega,by simp[lapsN]⟩
 | i+1=>by
  have ih:=ywa1 σ i;have hl:=ih.len;have hb:=ih.bd;rcases yaw (lapsN σ i) with h | ⟨l,t,h⟩
  ·have e:lapsN σ (i+1)=[(i,i+1,σ i)]:=by simp only[lapsN,h,yjt]
   exact⟨by rw[e];simp,fun _=>by rw[e];simp,by rw[e];simp⟩
  rw[h] at hl hb
  have e:lapsN σ (i+1)=if t.2.2=σ i then l++[(t.1,i+1,σ i)] else l++[t]++[(i,i+1,σ i)]:=by simp only[lapsN,h,yoq]
  have ht:=hb t (by simp)
  have hbl:∀ t'∈l,t'.1<t'.2.1/\t'.2.1<=i+1:=fun t' h'=>by have:=hb t' (by simp[h']);omega
  simp at hl
  by_cases hs:t.2.2=σ i
  ·rw[if_pos hs] at e
   refine⟨by rw[e];simp;omega,fun _=>by rw[e];simp,fun t' h'=>?_⟩
   rw[e] at h'
   rcases List.mem_append.1 h' with h' | h'
   ·exact hbl t' h'
   simp at h';subst h';exact⟨by show t.1<i+1;omega,Nat.le_refl _⟩
  rw[if_neg hs] at e;refine⟨by rw[e];simp;omega,fun _=>by rw[e];simp,fun t' h'=>?_⟩
  rw[e] at h'
  rcases List.mem_append.1 h' with h' | h'
  ·rcases List.mem_append.1 h' with h' | h'
   ·exact hbl t' h'
   simp at h';subst h';omega
  simp at h';subst h';exact⟨Nat.lt_succ_self i,Nat.le_refl _⟩
def sg (n:Int):Int:=if 0<n then 1 else if n<0 then -1 else 0
theorem yrd1 (n:Int):yjk n=some (sg n):=by
 unfold yjk sg
 by_cases h:0<n
 ·simp[h]
 by_cases h2:n<0 <;> simp[h,h2]
theorem ymh1 (s:Rt) (h:isRat s=true):ylt s=some (sg s.1):=by
 unfold ylt yke sg
 rw[Option.bind_some,yeh s (0,1) (ycc h) ⟨by decide,by decide,by decide,by decide⟩,Option.bind_some]
 unfold cmp
 simp only[Int.mul_one,Int.zero_mul]
 by_cases h1:s.1<0
 ·have:¬ 0<s.1:=by omega
  simp[h1,this]
 by_cases h2:0<s.1 <;> simp[h1,h2]
section
variable {m:Nat} {r:Nat->Rt}
theorem yvm1 (l:List Trip) (t:Trip):((l++[t]).map encT)[l.length]?=some (encT t):=by simp
theorem ywm1 (l:List Trip) (t:Trip) (x:List Int):((l++[t]).map encT).set l.length x=l.map encT++[x]:=by
 rw[List.map_append,List.set_append]
 simp
theorem ysd1 (hm:m<=1048576) (hr:∀ i,i<m->isRat (r i)=true) {i:Nat} (hi:i<m) :
  yjm (tab m r) ((lapsN (fun k=>sg (r k).1) i).map encT,(i:Int))=some (.inl ((lapsN (fun k=>sg (r k).1) (i+1)).map encT,((i+1:Nat):Int))):=by
 have hinv:=ywa1 (fun k=>sg (r k).1) i
 have hl:=hinv.len
 simp only[yjm,yqa,yna hi,show((i:Int)<(m:Int)) from by omega,decide_true,if_true,Option.bind_some,yva (show i<9223372036854775807 by omega),ymh1 (r i) (hr i hi)]
 rcases yaw (lapsN (fun k=>sg (r k).1) i) with h | ⟨l,t,h⟩
 ·have e:lapsN (fun k=>sg (r k).1) (i+1)=[(i,i+1,sg (r i).1)]:=by simp only[lapsN,h,yjt]
  rw[h,e];have hw:w64 ((0:Int)-1) = -1:=by rw[yzb (by omega) (by omega)];rfl
  simp only[List.map_nil,List.length_nil,Int.natCast_zero,hw,show ¬ ((-1:Int)>=0) by omega,decide_false,Bool.false_eq_true,if_false,Option.bind_some];rw[yea (by simp)];rfl
 have e:lapsN (fun k=>sg (r k).1) (i+1)=if t.2.2=sg (r i).1 then l++[(t.1,i+1,sg (r i).1)] else l++[t]++[(i,i+1,sg (r i).1)]:=by simp only[lapsN,h,yoq]
 rw[h] at hl
 simp at hl
 rw[h]
 have hw:w64 ((((l++[t]).map encT).length:Int)-1)=((l.length:Nat):Int):=by
  rw[List.length_map,List.length_append,List.length_singleton,yzb (by omega) (by omega)];omega
 simp only[hw,show(((l.length:Nat):Int)>=0) by omega,decide_true,if_true,yvk,yvm1,Option.bind_some,Int.toNat_natCast,ywm1]
 have e2:idxO (encT t) 2=some t.2.2:=rfl
 have e1:idxO (encT t) 1=some ((t.2.1:Nat):Int):=rfl
 rw[e2,e1,e]
 simp only[Option.bind_some]
 by_cases hs:t.2.2=sg (r i).1
 ·have hb:(t.2.2==sg (r i).1)=true:=by simpa using hs
  rw[hb,if_pos rfl,if_pos hs];simp only[encT,List.map_append,List.map_cons,List.map_nil,hs];rfl
 have hb:(t.2.2==sg (r i).1)=false:=by simpa using hs
 rw[hb,if_neg hs]
 simp only[Bool.false_eq_true,if_false]
 rw[yea (by simp;omega)]
 simp only[encT,List.map_append,List.map_cons,List.map_nil]
theorem ytd1 (hm:m<=1048576) {i:Nat} (hi:i<m) :
  ypi (tab m r) ((lapsN (fun k=>sg (r k).1) i).map encT,(i:Int))=some (.inl ((lapsN (fun k=>sg (r k).1) (i+1)).map encT,((i+1:Nat):Int))):=by
 have hinv:=ywa1 (fun k=>sg (r k).1) i
 have hl:=hinv.len
 simp only[ypi,yqa,yna hi,show((i:Int)<(m:Int)) from by omega,decide_true,if_true,Option.bind_some,yva (show i<9223372036854775807 by omega),yrd1]
 rcases yaw (lapsN (fun k=>sg (r k).1) i) with h | ⟨l,t,h⟩
 ·have e:lapsN (fun k=>sg (r k).1) (i+1)=[(i,i+1,sg (r i).1)]:=by simp only[lapsN,h,yjt]
  rw[h,e];simp only[List.map_nil,List.length_nil,Int.natCast_zero,show ¬ ((0:Int)>0) by omega,decide_false,Bool.false_eq_true,if_false,Option.bind_some];rw[yea (by simp)];rfl
 have e:lapsN (fun k=>sg (r k).1) (i+1)=if t.2.2=sg (r i).1 then l++[(t.1,i+1,sg (r i).1)] else l++[t]++[(i,i+1,sg (r i).1)]:=by simp only[lapsN,h,yoq]
 rw[h] at hl
 simp at hl
 rw[h]
 have hw:w64 ((((l++[t]).map encT).length:Int)-1)=((l.length:Nat):Int):=by
  rw[List.length_map,List.length_append,List.length_singleton,yzb (by omega) (by omega)];omega
 have hp:((((l++[t]).map encT).length:Int)>0):=by
  rw[List.length_map,List.length_append,List.length_singleton];omega
 simp only[hw,hp,decide_true,if_true,yvk,yvm1,Option.bind_some,Int.toNat_natCast,ywm1]
 have e2:idxO (encT t) 2=some t.2.2:=rfl
 have e1:idxO (encT t) 1=some ((t.2.1:Nat):Int):=rfl
 rw[e2,e1,e]
 simp only[Option.bind_some]
 by_cases hs:t.2.2=sg (r i).1
 ·have hb:(t.2.2==sg (r i).1)=true:=by simpa using hs
  rw[hb,if_pos rfl,if_pos hs];simp only[encT,List.map_append,List.map_cons,List.map_nil,hs];rfl
 have hb:(t.2.2==sg (r i).1)=false:=by simpa using hs
 rw[hb,if_neg hs]
 simp only[Bool.false_eq_true,if_false]
 rw[yea (by simp;omega)]
 simp only[encT,List.map_append,List.map_cons,List.map_nil]
end
section
variable {n:Nat} {p:Nat->Pt}
def wayOf (p:Nat->Pt):Nat->Int:=fun i=>sg (slopeQ (p i) (p (i+1))).1
def lapsT (n:Nat) (p:Nat->Pt):List Trip:=lapsN (wayOf p) (n-1)
theorem ymp (h:isMapT n p) (h2:2<=n) (hn:n<=12):yop (tab n p)=some ((lapsT n p).map encT):=by
 have hx:=yuc (body:=yjm (slopesT n p)) (n-1) (fun i=>((lapsN (wayOf p) i).map encT,(i:Int))) ((lapsT n p).map encT) (fun i hi =>
  ysd1 (m:=n-1) (r:=fun i=>slopeQ (p i) (p (i+1))) (by omega) (fun i hi=>by obtain⟨u,v,hs⟩:=yfh1 h (i:=i) (by omega);exact hs.rs) hi) (by
  simp[yjm,slopesT,yqa,lapsT])
 unfold yop
 rw[yyt h h2 hn,Option.bind_some,show(0:Int)=((0:Nat):Int) from rfl]
 simp only[lapsN,List.map_nil] at hx
 rw[hx];rfl
theorem yfh (h:isMapT n p) (h2:2<=n) (hn:n<=12):ymk (tab n p)=some ((lapsT n p).map encT):=by
 have hx:=yuc (body:=ypi (slopesT n p)) (n-1) (fun i=>((lapsN (wayOf p) i).map encT,(i:Int))) ((lapsT n p).map encT) (fun i hi =>
  ytd1 (m:=n-1) (r:=fun i=>slopeQ (p i) (p (i+1))) (by omega) hi) (by
  simp[ypi,slopesT,yqa,lapsT])
 unfold ymk
 rw[yyr h h2 hn,Option.bind_some,show(0:Int)=((0:Nat):Int) from rfl]
 simp only[lapsN,List.map_nil] at hx
 rw[hx];rfl
theorem ybw (h2:2<=n):1<=(lapsT n p).length/\(lapsT n p).length<=n-1:=by
 have h:=ywa1 (wayOf p) (n-1)
 have h1:=h.len
 have h3:=h.ne (by omega)
 unfold lapsT
 have:=List.length_pos_iff.2 h3
 omega
end
def lbN (c:Int):Nat->Int->Int×Bool
 | 0,o=>(o,true)
 | k+1,o=>if o*c>1000000000 then(0,false) else lbN c k (o*c)
theorem ybc1 (f:List Pt) (hl:f.length<=4611686018427387904):∃ r,yjj f=some r/\yij f=some r:=by
 obtain⟨c,b,h1,h2,h3,h4⟩:=yit f hl
 unfold yjj yij
 rw[h1,h3]
 cases c
 ·exact⟨_,rfl,rfl⟩
 obtain⟨e1,n,p,rfl,h5,h6,hm,rfl⟩:=h4 rfl
 simp only[Option.bind_some,Bool.not_true,Bool.false_eq_true,if_false,e1,Bool.true_and] at h3 ⊢
 cases hb:strictB n p
 ·exact⟨_,rfl,rfl⟩
 rw[hb] at h3
 simp only[Bool.not_true,Bool.false_eq_true,if_false,yfh hm h5 h6,Option.bind_some,ytm,h3,ymp hm h5 h6]
 by_cases hlen:((((lapsT n p).map encT).length:Int)==2)=true
 ·have h7:(lapsT n p).length=2:=by rw[List.length_map] at hlen;simp only[beq_iff_eq] at hlen;omega
  obtain⟨t,ht⟩:∃ t,(lapsT n p)[0]?=some t:=⟨(lapsT n p)[0],List.getElem?_eq_getElem (by omega)⟩
  have e0:idxO ((lapsT n p).map encT) 0=some (encT t):=by
   rw[show(0:Int)=((0:Nat):Int) from rfl,yvk,List.getElem?_map,ht];rfl
  have e2:idxO (encT t) 2=some t.2.2:=rfl
  rw[hlen,e0];simp only[if_true,Option.bind_some,e2];exact⟨_,rfl,rfl⟩
 have hlen':((((lapsT n p).map encT).length:Int)==2)=false:=by simpa using hlen
 rw[hlen']
 exact⟨_,rfl,rfl⟩
def fullB (a b:Rt):Bool:=(a==(0,1)&&b==(1,1))||(a==(1,1)&&b==(0,1))
theorem ynh1 {a b:Rt} (ha:isRat a=true) (hb:isRat b=true) {α:Type} (k:Bool->Option α) :
  ((ypk a b).bind fun v13=>(yke).bind fun v14=>(if((v13.1==v14.1)&&(v13.2==v14.2))=true then
    (ydi a b).bind fun v15=>(yoe).bind fun v16=>some ((v15.1==v16.1)&&(v15.2==v16.2))
   else some false).bind k)=k (fullB a b):=by
 unfold ypk ydi yke yoe fullB
 rw[ygf b a (ycc hb) (ycc ha),ygf a b (ycc ha) (ycc hb)]
 simp only[Option.bind_some]
 have h01:less (0,1) (1,1)=true:=by decide
 have h10:less (1,1) (0,1)=false:=by decide
 have n01:(((0,1):Rt)==((1,1):Rt))=false:=by decide
 cases h1:less b a
 ·simp only[Bool.false_eq_true,if_false,Option.bind_some,yaq a (0,1)]
  by_cases ha0:a=(0,1)
  ·subst ha0
   simp only[beq_self_eq_true,if_true];cases h2:less (0,1) b
   ·have hb1:b≠(1,1):=by rintro rfl;rw[h01] at h2;cases h2
    have e1:(b==((1,1):Rt))=false:=by simpa using hb1
    simp[e1,n01]
   simp only[if_true,Option.bind_some,n01,Bool.false_and,Bool.or_false,Bool.true_and,yaq b (1,1)]
  have e0:(a==((0,1):Rt))=false:=by simpa using ha0
  have e2:(a==((1,1):Rt)&&b==((0,1):Rt))=false:=by
   cases h3:(a==((1,1):Rt)) <;> cases h4:(b==((0,1):Rt)) <;> try rfl
   simp only[beq_iff_eq] at h3 h4;rw[h3,h4,h01] at h1;cases h1
  simp[e0,e2]
 have h2:=ymx1 h1
 simp only[if_true,Option.bind_some,yaq b (0,1),h2,Bool.false_eq_true,if_false,yaq a (1,1)]
 have e2:(a==((0,1):Rt)&&b==((1,1):Rt))=false:=by
  cases h3:(a==((0,1):Rt)) <;> cases h4:(b==((1,1):Rt)) <;> try rfl
  simp only[beq_iff_eq] at h3 h4;rw[h3,h4,h01] at h2;cases h2
 rw[e2]
 cases (b==((0,1):Rt)) <;> simp
theorem yoh1 (a b:Rt) {α:Type} (k:Bool->Option α) :
  ((yoa 0).bind fun v13=>(if((a.1==v13.1)&&(a.2==v13.2))=true then
    (yoa 1).bind fun v14=>if((b.1==v14.1)&&(b.2==v14.2))=true then some true
    else(yoa 1).bind fun v15=>if((a.1==v15.1)&&(a.2==v15.2))=true then(yoa 0).bind fun v16=>some ((b.1==v16.1)&&(b.2==v16.2)) else some false
   else(yoa 1).bind fun v14=>if((a.1==v14.1)&&(a.2==v14.2))=true then(yoa 0).bind fun v15=>some ((b.1==v15.1)&&(b.2==v15.2)) else some false).bind k)=k (fullB a b):=by
 unfold yoa fullB
 simp only[Option.bind_some,yaq a (0,1),yaq b (1,1),yaq a (1,1),yaq b (0,1)]
 cases (a==((0,1):Rt)) <;> cases (b==((1,1):Rt)) <;> cases (a==((1,1):Rt)) <;> simp
section
variable {n:Nat} {p:Nat->Pt}
def fullN (p:Nat->Pt) (l:List Trip):Nat:=(l.filter fun t=>fullB (p t.1).2 (p t.2.1).2).length
theorem yxm1 (l:List Trip) (i:Nat) (t:Trip) (h:l[i]?=some t):fullN p (l.take (i+1))=fullN p (l.take i)+(if fullB (p t.1).2 (p t.2.1).2=true then 1 else 0):=by
 have h1:l.take (i+1)=l.take i++[t]:=by rw[List.take_add_one,h];rfl
 unfold fullN
 rw[h1,List.filter_append,List.length_append]
 congr 1
 by_cases hf:fullB (p t.1).2 (p t.2.1).2=true <;> simp[hf]
theorem yym1 (l:List Trip):fullN p l<=l.length:=List.length_filter_le ..
theorem yud1 (hm:isMapT n p) (hn:n<=12) (h2:2<=n) {i:Nat} (hi:i<(lapsT n p).length) :
  ybg (tab n p) ((lapsT n p).map encT) ((fullN p ((lapsT n p).take i):Int),(i:Int))=some (.inl ((fullN p ((lapsT n p).take (i+1)):Int),((i+1:Nat):Int))) /\
  ynd (tab n p) ((lapsT n p).map encT) ((fullN p ((lapsT n p).take i):Int),(i:Int))=some (.inl ((fullN p ((lapsT n p).take (i+1)):Int),((i+1:Nat):Int))):=by
 obtain⟨t,ht⟩:∃ t,(lapsT n p)[i]?=some t:=⟨_,List.getElem?_eq_getElem hi⟩
 have hb:=(ywa1 (wayOf p) (n-1)).bd t (List.mem_of_getElem? ht)
 have hlen:=ybw (n:=n) (p:=p) h2
 have hle:=yym1 (p:=p) ((lapsT n p).take i)
 rw[List.length_take] at hle
 have e0:idxO ((lapsT n p).map encT) (i:Int)=some (encT t):=by rw[yvk,List.getElem?_map,ht];rfl
 have e1:idxO (encT t) 0=some ((t.1:Nat):Int):=rfl
 have e2:idxO (encT t) 1=some ((t.2.1:Nat):Int):=rfl
 have h3:t.1<n:=by omega
 have h4:t.2.1<n:=by omega
 have ra:=yhc (hm.1 t.1 h3).2
 have rb':=yhc (hm.1 t.2.1 h4).2
 rw[yxm1 _ _ _ ht]
 constructor
 ·simp only[ybg,List.length_map,show((i:Int)<((lapsT n p).length:Int)) from by omega,decide_true,if_true,e0,e1,e2,Option.bind_some,yna h3,yna h4,yva (show i<9223372036854775807 by omega),yva (show fullN p ((lapsT n p).take i)<9223372036854775807 by omega)]
  rw[ynh1 ra rb'];cases fullB (p t.1).2 (p t.2.1).2 <;> simp
 simp only[ynd,List.length_map,show((i:Int)<((lapsT n p).length:Int)) from by omega,decide_true,if_true,e0,e1,e2,Option.bind_some,yna h3,yna h4,yva (show i<9223372036854775807 by omega),yva (show fullN p ((lapsT n p).take i)<9223372036854775807 by omega)]
 rw[yoh1]
 cases fullB (p t.1).2 (p t.2.1).2 <;> simp
end
theorem yey (f:List Pt) (hl:f.length<=4611686018427387904):∃ r,ydf f=some r/\yqk f=some r:=by
 obtain⟨c,h1,h2,h3⟩:=ynq f hl
 unfold ydf yqk
 rw[h1,h2]
 cases c
 ·exact⟨_,rfl,rfl⟩
 obtain⟨n,p,rfl,h4,h5,hm⟩:=h3 rfl
 simp only[Option.bind_some,Bool.not_true,Bool.false_eq_true,if_false,yfh hm h4 h5,ymp hm h4 h5]
 have hx:=yuc (body:=ybg (tab n p) ((lapsT n p).map encT)) (lapsT n p).length (fun i=>((fullN p ((lapsT n p).take i):Int),(i:Int))) (fullN p (lapsT n p):Int) (fun i hi=>(yud1 hm h5 h4 hi).1) (by simp[ybg])
 have hy:=yuc (body:=ynd (tab n p) ((lapsT n p).map encT)) (lapsT n p).length (fun i=>((fullN p ((lapsT n p).take i):Int),(i:Int))) (fullN p (lapsT n p):Int) (fun i hi=>(yud1 hm h5 h4 hi).2) (by simp[ynd])
 have e0:((fullN p ((lapsT n p).take 0):Int),((0:Nat):Int))=(0,0):=by simp[fullN]
 rw[e0] at hx hy
 rw[hx,hy]
 exact⟨_,rfl,rfl⟩
end Go.PV

/-
 Plain laws: marks on lists,and that they are held.
 Conditions: none.
-/
set_option linter.all false
namespace Go.PV
section
variable {α:Type}
def marks (w:Nat) (f:Int->α) (n:Nat) (k:Int):List α:=tab n fun i=>f (k+(w:Int)*i)
end
def markI (n:Nat) (k:Int):List Int:=marks 1 (fun c=>c) n k
def markR (n:Nat) (k:Int):List (Int×Int):=marks 2 (fun c=>(c,c+1)) n k
end Go.PV

/-
 Plain laws: values of the turning point.
 Conditions: none.
-/
set_option linter.all false
namespace Go.PV
section
variable {n:Nat} {p:Nat->Pt}
theorem ypq {r:Rt} (h:coord r=true):(0:Rat)<=val r/\val r<=1:=by
 have hr:=yhc h
 have c:=ysa1 h
 refine(yne hr).1 ?_
 simp only[isUnit,Bool.and_eq_true,inB_iff]
 exact⟨hr,c.1,c.2.1⟩
theorem ykx (h:Curve n p) (hy:∀ i,i<n->coord (p i).2=true) {x y:Rt} (hx:isUnit x=true) (ha:atQ n p x=some y):isUnit y=true:=by
 have hr:isRat x=true:=by simp only[isUnit,Bool.and_eq_true] at hx;exact hx.1
 have hyr:=ypx1 ha
 obtain⟨j,hj⟩:=yao1 h hx
 rw[yvj1 hj] at ha
 have hlt:=hj.lt
 have hn:=h.lo
 have hj1:j-1+1<n:=by omega
 obtain⟨u,v,hs⟩:=h.piece hj1
 unfold onQ at ha
 obtain⟨far,e1,ha⟩:=Option.bind_eq_some_iff.1 ha
 obtain⟨up,e2,ha⟩:=Option.bind_eq_some_iff.1 ha
 have rx0:=yhc (h.x (j-1) (by omega))
 have rx1:=yhc (h.x (j-1+1) hj1)
 have ry0:=(h.y (j-1) (by omega)).1
 have ry1:=(h.y (j-1+1) hj1).1
 have d2:∀ {z:Rt},isRat z=true->0<z.2:=fun hz=>by have:=(isRat_iff.1 hz).1;omega
 have q1:=yme hr rx0 e1
 have q2:=yum1 hs.rs (yem e1) e2
 have q3:=yva1 ry0 (yod1 e2) ha
 have q4:=yme ry1 ry0 hs.up
 have q5:=yme rx1 rx0 hs.far
 have q6:=divQ_val hs.ru hs.rv hs.vp hs.div
 have b0:=ypq (hy (j-1) (by omega))
 have b1:=ypq (hy (j-1+1) hj1)
 have hup:=(ytb (d2 rx0) (d2 rx1)).1 (by have:=h.up (j-1+1) (by omega) hj1;simpa using this)
 have hux:=(yne hr).1 hx
 have hlo:val (p (j-1)).1<=val x:=by
  by_cases h0:j=0
  ·subst h0
   rw[show 0-1=0 from rfl,h.fst];have:val (0,1)=0:=by have:=yuf (r:=((0:Int),(1:Int))) (by decide);simpa using this
   rw[this];exact hux.1
  have:=(ytb (d2 rx0) (d2 hr)).1 (hj.bef (j-1) (by omega))
  exact Rat.le_of_lt this
 have hhi:val x<=val (p (j-1+1)).1:=by
  by_cases h0:j=0
  ·subst h0
   have:=(yvf (d2 rx0) (d2 hr)).1 hj.at'
   rw[show 0-1=0 from rfl] at hup;grind
  rw[show j-1+1=j by omega] at rx1 ⊢
  exact(yvf (d2 rx1) (d2 hr)).1 hj.at'
 refine(yne hyr).2 ?_
 rw[q4,q5] at q6
 rw[q3,q2,q1]
 generalize val (slopeQ (p (j-1)) (p (j-1+1)))=s at *
 generalize val (p (j-1)).1=x0 at *
 generalize val (p (j-1+1)).1=x1 at *
 generalize val (p (j-1)).2=y0 at *
 generalize val (p (j-1+1)).2=y1 at *
 generalize val x=z at *
 rcases Rat.le_total (a:=0) (b:=s) with h1 | h1
 ·have m1:=Rat.mul_le_mul_of_nonneg_left (show z-x0<=x1-x0 by grind) h1
  have m2:=Rat.mul_nonneg h1 (show 0<=z-x0 by grind)
  grind
 have m1:=Rat.mul_le_mul_of_nonneg_left (show z-x0<=x1-x0 by grind) (show 0 <= -s by grind)
 have m2:=Rat.mul_nonneg (show 0 <= -s by grind) (show 0<=z-x0 by grind)
 grind
noncomputable def vQ (n:Nat) (p:Nat->Pt) (c:Rt):Nat->Option Rt
 | 0=>some c
 | k+1=>(vQ n p c k).bind (atQ n p)
noncomputable def vv (n:Nat) (p:Nat->Pt) (c:Rt) (k:Nat):Rt:=(vQ n p c k).getD (0,0)
variable {c:Rt}
structure Stop (n:Nat) (p:Nat->Pt) (c:Rt) (m L:Nat):Prop where
 le:L<=m
 some:vQ n p c L=some (vv n p c L)
 stop:L=m\/vQ n p c (L+1)=none
end
section
variable {n:Nat} {p:Nat->Pt} {t0 t1:Trip}
end
end Go.PV

set_option linter.all false
namespace Go.PV
def flatP (xs:List Pt) (n:Nat):Prop:=∃ i a b,0<i/\i<n/\xs[i-1]?=some a/\xs[i]?=some b/\a.2=b.2
end Go.PV

/-
 Plain laws: plateaus.
 Conditions: none.
-/
set_option linter.all false
namespace Go.PV
def markV (n:Nat) (k:Int):List Pt:=marks 4 (fun c=>((c,c+1),(c+1+1,c+1+1+1))) n k
end Go.PV

/-
 Plain laws: orbits of lifts.
 Conditions: none.
-/
set_option linter.all false
namespace Go.PV
section
variable {n:Nat} {p:Nat->Pt} {x:Rt}
noncomputable def orbQ (n:Nat) (p:Nat->Pt) (x:Rt):Nat->Option Rt
 | 0=>some x
 | k+1=>(orbQ n p x k).bind fun y=>if near y=true then liftQ n p y else none
noncomputable def orb (n:Nat) (p:Nat->Pt) (x:Rt) (k:Nat):Rt:=(orbQ n p x k).getD (0,0)
open Classical in
noncomputable def runR (n:Nat) (p:Nat->Pt) (x:Rt) (m:Nat):List Rt×Bool:=if(orbQ n p x m).isSome=true then(tab (m+1) (orb n p x),true) else([],false)
end
def turnB (r:Rt):Bool:=near r&&decide (r.2<=6)
end Go.PV

/-
 Plain laws: orbits of lifts,handed back.
 Conditions: none.
-/
set_option linter.all false
namespace Go.PV
end Go.PV

/-
 Plain laws: how far a lift's points are moved.
 Conditions: none.
-/
set_option linter.all false
namespace Go.PV
def dispF (p:Nat->Pt) (i:Nat):Rt:=(subQ (p i).2 (p i).1).getD (0,0)
section
variable {n:Nat} {p:Nat->Pt}
end
end Go.PV

/-
 Plain laws: values of lifts keep their order.
 Conditions: none.
-/
set_option linter.all false
namespace Go.PV
theorem yyp1 {a b:Rt} (ga:Int.gcd a.1 a.2=1) (gb:Int.gcd b.1 b.2=1) (pa:0<a.2) (pb:0<b.2) (h:a.1*b.2=b.1*a.2):a=b:=by
 obtain⟨p,q⟩:=a
 obtain⟨r,s⟩:=b
 simp only at *
 have hn:p.natAbs*s.natAbs=r.natAbs*q.natAbs:=by rw[← Int.natAbs_mul,← Int.natAbs_mul,h]
 have c1:Nat.Coprime p.natAbs q.natAbs:=ga
 have c2:Nat.Coprime r.natAbs s.natAbs:=gb
 have d1:s.natAbs∣q.natAbs:=by
  have:s.natAbs∣r.natAbs*q.natAbs:=⟨p.natAbs,by rw[← hn];exact Nat.mul_comm _ _⟩
  exact c2.symm.dvd_of_dvd_mul_left this
 have d2:q.natAbs∣s.natAbs:=by
  have:q.natAbs∣p.natAbs*s.natAbs:=⟨r.natAbs,by rw[hn];exact Nat.mul_comm _ _⟩
  exact c1.symm.dvd_of_dvd_mul_left this
 have hqs:q.natAbs=s.natAbs:=Nat.dvd_antisymm d2 d1
 have hq:q=s:=by omega
 subst hq
 have:p=r:=Int.eq_of_mul_eq_mul_right (by omega) h
 rw[this]
theorem yvi1 {a b:Rt} (ha:isRat a=true) (hb:isRat b=true) (h:val a=val b):a=b:=by
 have a2:=(isRat_iff.1 ha).1
 have b2:=(isRat_iff.1 hb).1
 have e1:=yuf (r:=a) (by omega)
 have e2:=yuf (r:=b) (by omega)
 refine ynd1 ha hb ?_
 have:((a.1*b.2:Int):Rat)=((b.1*a.2:Int):Rat):=by
  rw[Rat.intCast_mul,Rat.intCast_mul,← e1,← e2,h];grind
 exact_mod_cast this
theorem ytx1 {n d:Int} (hd:0<d) {r:Rt} (hr:isRat r=true) (h:n*r.2=r.1*d):lowQ n d=some r:=by
 obtain⟨r1,r2,r3,r4,r5⟩:=isRat_iff.1 hr
 have hdn:¬ d<0:=by omega
 have hg:0<Int.gcd n d:=Int.gcd_pos_of_ne_zero_right _ (by omega)
 have a:(Int.gcd n d:Int)∣n:=Int.gcd_dvd_left ..
 have b:(Int.gcd n d:Int)∣d:=Int.gcd_dvd_right ..
 have e1:=Int.tdiv_mul_cancel a
 have e2:=Int.tdiv_mul_cancel b
 have key:(Int.tdiv n (Int.gcd n d:Int),Int.tdiv d (Int.gcd n d:Int))=r:=by
  refine yyp1 ?_ r5 ?_ (by omega) ?_
  ·show Int.gcd (Int.tdiv n (Int.gcd n d:Int)) (Int.tdiv d (Int.gcd n d:Int))=1
   obtain⟨u,hu⟩:=a;obtain⟨v,hv⟩:=b;have eu:Int.tdiv n (Int.gcd n d:Int)=n / (Int.gcd n d:Int):=Int.tdiv_eq_ediv_of_dvd (Int.gcd_dvd_left ..)
   have ev:Int.tdiv d (Int.gcd n d:Int)=d / (Int.gcd n d:Int):=Int.tdiv_eq_ediv_of_dvd (Int.gcd_dvd_right ..)
   rw[eu,ev];exact Int.gcd_ediv_gcd_ediv_gcd hg
  ·show 0<Int.tdiv d (Int.gcd n d:Int)
   refine Classical.byContradiction fun hno=>?_
   have h1:Int.tdiv d (Int.gcd n d:Int)<=0:=by omega
   have:=Int.mul_le_mul_of_nonneg_right h1 (show(0:Int)<=(Int.gcd n d:Int) by omega)
   omega
  show Int.tdiv n (Int.gcd n d:Int)*r.2=r.1*Int.tdiv d (Int.gcd n d:Int)
  refine Int.eq_of_mul_eq_mul_right (a:=(Int.gcd n d:Int)) (by omega) ?_
  have h3:Int.tdiv n (Int.gcd n d:Int)*r.2*(Int.gcd n d:Int)=(Int.tdiv n (Int.gcd n d:Int)*(Int.gcd n d:Int))*r.2:=by grind
  have h4:r.1*Int.tdiv d (Int.gcd n d:Int)*(Int.gcd n d:Int)=r.1*(Int.tdiv d (Int.gcd n d:Int)*(Int.gcd n d:Int)):=by grind
  rw[h3,h4,e1,e2,h]
 unfold lowQ lowest
 simp only[if_neg hdn]
 rw[key,if_pos hr]
 rfl
theorem ylx {n d:Int} (hd:0<d) {r:Rt} (hr:isRat r=true) (h:val r*(d:Rat)=(n:Rat)):lowQ n d=some r:=by
 refine ytx1 hd hr ?_
 have e:=yuf (r:=r) (by have:=(isRat_iff.1 hr).1;omega)
 have:((n*r.2:Int):Rat)=((r.1*d:Int):Rat):=by
  rw[Rat.intCast_mul,Rat.intCast_mul,← h,← e];grind
 exact_mod_cast this
theorem yux1 {a b r:Rt} (ha:isRat a=true) (hb:isRat b=true) (hr:isRat r=true) (h:val r=val a+val b):addQ a b=some r:=by
 have a2:=(isRat_iff.1 ha).1
 have b2:=(isRat_iff.1 hb).1
 have e1:=yuf (r:=a) (by omega)
 have e2:=yuf (r:=b) (by omega)
 refine ylx (ycy ha hb) hr ?_
 rw[Rat.intCast_add,Rat.intCast_mul,Rat.intCast_mul,Rat.intCast_mul,← e1,← e2,h]
 grind
section
variable {n:Nat} {p:Nat->Pt}
theorem yic {r:Rt} (h:isRat r=true):0<r.2:=by have:=(isRat_iff.1 h).1;omega
theorem Curve.xr (h:Curve n p) {i:Nat} (hi:i<n):isRat (p i).1=true:=yhc (h.x i hi)
theorem Curve.yr (h:Curve n p) {i:Nat} (hi:i<n):isRat (p i).2=true:=(h.y i hi).1
theorem Curve.xlt (h:Curve n p):∀ {i j:Nat},i<j->j<n->val (p i).1<val (p j).1:=by
 intro i j hij hj
 obtain⟨k,rfl⟩:∃ k,j=i+1+k:=⟨j-(i+1),by omega⟩
 induction k with
 | zero =>
  have:=h.up (i+1) (by omega) hj
  rw[show i+1-1=i by omega] at this;exact(ytb (yic (h.xr (by omega))) (yic (h.xr hj))).1 this
 | succ k ih =>
  have h1:=ih (by omega) (by omega)
  have:=h.up (i+1+(k+1)) (by omega) hj
  rw[show i+1+(k+1)-1=i+1+k by omega] at this;have h2:=(ytb (yic (h.xr (by omega))) (yic (h.xr hj))).1 this
  grind
structure OnP (p:Nat->Pt) (m:Nat) (x y:Rt):Prop where
 lo:val (p m).1<=val x
 hi:val x<=val (p (m+1)).1
 eq:(val y-val (p m).2)*(val (p (m+1)).1-val (p m).1)=(val (p (m+1)).2-val (p m).2)*(val x-val (p m).1)
theorem yzm1 (h:Curve n p) {x y:Rt} (hx:isUnit x=true) {j:Nat} (hj:AtJ n p x j) (hy:atQ n p x=some y):j-1+1<n/\OnP p (j-1) x y:=by
 have hr:isRat x=true:=by simp only[isUnit,Bool.and_eq_true] at hx;exact hx.1
 have hlt:=hj.lt
 have hn:=h.lo
 have hj1:j-1+1<n:=by omega
 refine⟨hj1,?_⟩
 have hu:=(yne hr).1 hx
 have f0:val (p 0).1=0:=by rw[h.fst];show((0:Int):Rat) / ((1:Int):Rat)=0;grind
 have lo:val (p (j-1)).1<=val x:=by
  by_cases h0:j=0
  ·subst h0;show val (p 0).1<=val x;rw[f0];exact hu.1
  have:=(ytb (yic (h.xr (show j-1<n by omega))) (yic hr)).1 (hj.bef (j-1) (by omega))
  grind
 have hi:val x<=val (p (j-1+1)).1:=by
  have h1:=(yvf (yic (h.xr hlt)) (yic hr)).1 hj.at'
  by_cases h0:j=0
  ·subst h0
   have:=h.xlt (i:=0) (j:=0-1+1) (by omega) hj1
   grind
  rw[show j-1+1=j by omega];exact h1
 refine⟨lo,hi,?_⟩
 rw[yvj1 hj] at hy
 obtain⟨u,v,hs⟩:=h.piece hj1
 unfold onQ at hy
 obtain⟨far,e1,hy⟩:=Option.bind_eq_some_iff.1 hy
 obtain⟨up,e2,hy⟩:=Option.bind_eq_some_iff.1 hy
 have v1:=yme hr (h.xr (show j-1<n by omega)) e1
 have v2:=yum1 hs.rs (yem e1) e2
 have v3:=yva1 (h.yr (show j-1<n by omega)) (yod1 e2) hy
 have v4:=yme (h.yr hj1) (h.yr (show j-1<n by omega)) hs.up
 have v5:=yme (h.xr hj1) (h.xr (show j-1<n by omega)) hs.far
 have v6:=divQ_val hs.ru hs.rv hs.vp hs.div
 rw[v4,v5] at v6
 rw[v3,v2,v1,← v6]
 grind
theorem ypm (k:Int):val (k,1)=(k:Rat):=by show(k:Rat) / ((1:Int):Rat)=(k:Rat);grind
end
end Go.PV

/-
 Plain laws: characteristic polynomials.
 Conditions: none.
-/
set_option linter.all false
namespace Go.PV
def mulW (n:Nat) (A M:Nat->Nat->Int) (i j:Nat):Int:=foldN n (fun s l=>w64 (s+w64 (A i l*M l j))) 0
def trW (n:Nat) (P:Nat->Nat->Int):Int:=foldN n (fun s i=>w64 (s+P i i)) 0
def addD (M:Nat->Nat->Int) (c:Int) (i j:Nat):Int:=if i=j then w64 (M i j+c) else M i j
section
variable {n:Nat} {A:Nat->Nat->Int}
def chN (n:Nat) (A:Nat->Nat->Int):Nat->(Nat->Int)×(Nat->Nat->Int)
 | 0=>(fun i=>if i=n then 1 else 0,fun _ _=>0)
 | k+1=>(fun i=>if i=n-(k+1) then w64 (Int.tdiv (w64 (0-trW n (mulW n A (addD (chN n A k).2 ((chN n A k).1 (n-k)))))) ((k+1:Nat):Int)) else(chN n A k).1 i,mulW n A (addD (chN n A k).2 ((chN n A k).1 (n-k))))
end
def isPoly (c:List Int):Bool:=decide ((c.length:Int)<=9)&&(c.all (inB (-1000000) 1000000))
end Go.PV

/-
 Plain laws: lists turned round,ones.
 Conditions: none.
-/
set_option linter.all false
namespace Go.PV
section
variable {α:Type} [Inhabited α]
def revSt (xs:List α) (k:Nat):List α:=tab xs.length fun p=>if p<k\/xs.length<=p+k then xs.getD (xs.length-1-p) default else xs.getD p default
theorem yan1 {xs:List α} {i:Nat} (h:i<xs.length):xs[i]?=some (xs.getD i default):=by simp[h]
theorem ybu1 (xs:List α) (hl:xs.length<=4611686018427387904) (body:(List α×Int×Int)->Option ((List α×Int×Int) ⊕ List α))
  (hb:∀ x,body x=if(decide (x.2.1<x.2.2))=true then(idxO x.1 x.2.1).bind fun v4=>(idxO x.1 x.2.2).bind fun v5=>(guardO (x.2.1≠x.2.2)).bind fun u6 =>
   some (.inl (((x.1.set (Int.toNat x.2.1) v5).set (Int.toNat x.2.2) v4),(w64 (x.2.1+1)),(w64 (x.2.2-1)))) else some (.inr x.1)) :
  loopO body (xs,0,w64 ((xs.length:Int)-1))=some xs.reverse:=by
 have hx:=yuc (body:=body) (xs.length / 2) (fun k=>(revSt xs k,(k:Int),((xs.length:Int)-1-k))) xs.reverse (fun k hk=>by
  have h1:k<xs.length:=by omega
  have h2:xs.length-1-k<xs.length:=by omega
  have e1:((xs.length:Int)-1-k)=((xs.length-1-k:Nat):Int):=by omega
  rw[hb];simp only[e1,show((k:Int)<((xs.length-1-k:Nat):Int)) from by omega,decide_true,if_true];rw[revSt,yna h1,yna h2,Option.bind_some,Option.bind_some,yea (by omega)]
  have e3:¬ (k<k\/xs.length<=k+k):=by omega
  have e4:¬ (xs.length-1-k<k\/xs.length<=xs.length-1-k+k):=by omega
  rw[if_neg e3,if_neg e4,yva (show k<9223372036854775807 by omega),yzb (by omega) (by omega),Int.toNat_natCast,Int.toNat_natCast,yrr1 h1,yrr1 h2];congr 2
  refine Prod.ext ?_ (Prod.ext rfl (by show((xs.length-1-k:Nat):Int)-1=(xs.length:Int)-1-((k+1:Nat):Int);omega))
  refine ylx1 fun p hp=>?_
  by_cases c1:p=xs.length-1-k
  ·subst c1
   rw[if_pos rfl,if_pos (by omega),show xs.length-1-(xs.length-1-k)=k from by omega]
  ·rw[if_neg c1]
   by_cases c2:p=k
   ·subst c2;rw[if_pos rfl,if_pos (by omega)]
   rw[if_neg c2];by_cases c3:p<k\/xs.length<=p+k
   ·rw[if_pos c3,if_pos (by omega)]
   rw[if_neg c3,if_neg (by omega)]) (by
  rw[hb];have:¬ (((xs.length / 2:Nat):Int)<((xs.length:Int)-1-(xs.length / 2:Nat))):=by omega
  simp only[this,decide_false,Bool.false_eq_true,if_false];congr 2
  apply List.ext_getElem?
  intro p;by_cases hp:p<xs.length
  ·rw[revSt,yma1 hp,List.getElem?_reverse hp,yan1 (by omega)]
   congr 1
   split
   ·rfl
   congr 1;omega
  rw[List.getElem?_eq_none (by rw[revSt,yqa];omega),List.getElem?_eq_none (by simp;omega)])
 have e0:revSt xs 0=xs:=by
  apply List.ext_getElem?
  intro p;by_cases hp:p<xs.length
  ·rw[revSt,yma1 hp,if_neg (by omega),yan1 hp]
  rw[List.getElem?_eq_none (by rw[revSt,yqa];omega),List.getElem?_eq_none (by omega)]
 simp only[e0] at hx
 rw[yzb (by omega) (by omega)]
 have:((xs.length:Int)-1)=(xs.length:Int)-1-((0:Nat):Int):=by omega
 rw[this]
 exact hx
end
def trimZ (c:List Int):List Int:=(c.reverse.dropWhile (·==0)).reverse
end Go.PV

/-
 Plain laws: the end values of iterates.
 Conditions: none.
-/
set_option linter.all false
namespace Go.PV
theorem yzp1 (xs:List Rt) (f:Rt->Option Bool) (q:Rt->Bool) (hf:∀ x∈xs,f x=some (q x)) (hl:xs.length<=4611686018427387904) :
  yma xs f=some (match xs.findIdx? q with | some i=>(i:Int) | none => -1):=by
 have h:=ytv (xs:=xs) (body:=yka xs f) q (fun i=>(i:Int)) (fun i=>.inl (i:Int)) (.inr ()) (fun i x hx=>by
  have hi:=getElem?_lt hx
  simp only[yka,yvk,hx,hf x (List.mem_of_getElem? hx),Option.bind_some,yva (show i<9223372036854775807 by omega),show((i:Int)<(xs.length:Int)) from by omega,decide_true,if_true]
  cases q x <;> rfl) (by simp[yka])
 unfold yma
 rw[show(0:Int)=((0:Nat):Int) from rfl,h]
 cases xs.findIdx? q <;> rfl
theorem yxf1 (xs:List Rt) (f:Rt->Option Bool) (q:Rt->Bool) (hf:∀ x∈xs,f x=some (q x)) (hl:xs.length<=1048576):yua xs f=some (xs.filter fun x=> !q x):=by
 unfold yua
 rw[yzp1 xs f q hf (by omega),Option.bind_some]
 cases h:xs.findIdx? q with
 | none =>
  have hn:=List.findIdx?_eq_none_iff.1 h
  simp only[show((-1:Int) == -1)=true from rfl,if_true];congr 1
  exact(List.filter_eq_self.2 fun x hx=>by rw[hn x hx];rfl).symm
 | some i0 =>
  obtain⟨hi,hp,hlt⟩:=List.findIdx?_eq_some_iff_getElem.1 h
  have e0:((i0:Int) == -1)=false:=by simp
  simp only[e0,Bool.false_eq_true,if_false];have hpre:∀ j,j<=i0->(xs.take j).filter (fun x=> !q x)=xs.take j:=fun j hj=>List.filter_eq_self.2 fun x hx=>by
   obtain⟨k,hk⟩:=List.mem_iff_getElem?.1 hx
   obtain⟨h1,h2⟩:=yho hk;have hkl:k<xs.length:=(List.getElem?_eq_some_iff.1 h2).1
   have:=hlt k (by omega)
   rw[List.getElem?_eq_getElem hkl] at h2;rw[← Option.some.inj h2];simpa using this
  obtain⟨y,h1,h2⟩:=yqn (body:=yxa f)
   (fun s=>∃ i j:Nat,s.2.1=i/\s.2.2=j/\i<j/\j<=xs.length/\s.1.length=xs.length/\s.1.take i=(xs.take j).filter (fun x=> !q x)/\∀ k,j<=k->s.1[k]?=xs[k]?)
   (fun s=>xs.length-s.2.2.toNat) (fun y=>∃ i:Nat,y.2=i/\i<=xs.length/\y.1.length=xs.length/\y.1.take i=xs.filter (fun x=> !q x))
   (fun ⟨l,i,j⟩ ⟨i',j',ei,ej,hij,hj,hll,ht,hk⟩=>by
    simp only at ei ej hll ht hk
    subst ei ej
    by_cases hlt2:j'<xs.length
    ·have hget:l[j']?=some xs[j']:=by rw[hk j' (Nat.le_refl _)];exact List.getElem?_eq_getElem hlt2
     have hi2:idxO l (i':Int)=some l[i']:=yno (by omega)
     simp only[yxa,hll,show((j':Int)<(xs.length:Int)) from by omega,decide_true,if_true,yvk l j',hget,Option.bind_some,hf _ (List.getElem_mem hlt2),yva (show j'<9223372036854775807 by omega)]
     have htk:xs.take (j'+1)=xs.take j'++[xs[j']]:=by rw[List.take_add_one,List.getElem?_eq_getElem hlt2];rfl
     left
     cases hq:q xs[j'] with
     | true =>
      refine⟨(l,(i':Int),((j'+1:Nat):Int)),by simp,⟨i',j'+1,rfl,rfl,by omega,by omega,hll,?_,fun k hk2=>hk k (by omega)⟩,by simp only[Int.toNat_natCast];omega⟩
      show l.take i'=_
      rw[htk,List.filter_append,ht];simp[hq]
     | false =>
      refine⟨(l.set i' xs[j'],((i'+1:Nat):Int),((j'+1:Nat):Int)),?_,⟨i'+1,j'+1,rfl,rfl,by omega,by omega,by simpa using hll,?_,fun k hk2=>?_⟩,by simp only[Int.toNat_natCast];omega⟩
      ·simp only[Bool.not_false,if_true,hi2,Option.bind_some,Int.toNat_natCast,yva (show i'<9223372036854775807 by omega)]
      ·show(l.set i' xs[j']).take (i'+1)=_
       rw[htk,List.filter_append,← ht,List.take_add_one];have:(l.set i' xs[j'])[i']?=some xs[j']:=by rw[List.getElem?_set];simp;omega
       rw[this];have h9:(l.set i' xs[j']).take i'=l.take i':=by
        apply List.ext_getElem?
        intro k;rw[List.getElem?_take,List.getElem?_take];split
        ·rw[List.getElem?_set,if_neg (by omega)]
        rfl
       rw[h9];simp[hq]
      show(l.set i' xs[j'])[k]?=_
      rw[List.getElem?_set,if_neg (by omega)];exact hk k (by omega)
    right
    have hjj:j'=xs.length:=by omega
    refine⟨(l,(i':Int)),?_,i',rfl,by omega,hll,?_⟩
    ·simp only[yxa,hll,show ¬ ((j':Int)<(xs.length:Int)) from by omega,decide_false,Bool.false_eq_true,if_false]
    show l.take i'=_
    rw[ht,hjj,List.take_length])
   (xs,(i0:Int),w64 ((i0:Int)+1)) ⟨i0,i0+1,rfl,by rw[yva (by omega)],by omega,by omega,rfl,by
    show xs.take i0=_
    rw[List.take_add_one,List.getElem?_eq_getElem hi,List.filter_append,hpre i0 (Nat.le_refl _)];simp[hp],fun _ _=>rfl⟩
  rw[h1,Option.bind_some];obtain⟨i,e1,e2,e3,e4⟩:=h2;unfold yjb;rw[e1,yea (by omega),yea (by simp;omega),Int.toNat_natCast]
  congr 1
  rw[← e4,List.take_append_of_le_length (by simp;omega),List.take_take,Nat.min_self]
theorem ytt (xs:List Rt) (hl:xs.length<=4611686018427387904):ykb xs=some xs.reverse:=by
 unfold ykb
 rw[ybu1 xs hl ymc fun x=>rfl]
 rfl
def btw (cuts:List Rt) (a b:Rt):List Rt:=if less b a=true then(cuts.filter fun x=>less b x&&less x a).reverse else cuts.filter fun x=>less a x&&less x b
theorem ywi1 (cuts:List Rt) (a b:Rt):(btw cuts a b).length<=cuts.length:=by
 unfold btw
 split
 ·rw[List.length_reverse];exact List.length_filter_le ..
 exact List.length_filter_le ..
theorem ywr1 {cuts:List Rt} {a b x:Rt} (h:x∈btw cuts a b):x∈cuts:=by
 unfold btw at h
 split at h
 ·exact(List.mem_filter.1 (List.mem_reverse.1 h)).1
 exact(List.mem_filter.1 h).1
section
variable {cuts:List Rt} {a b:Rt}
theorem ycw (hc:∀ x∈cuts,isRat x=true) (ha:isRat a=true) (hb:isRat b=true) (hl:cuts.length<=1048576):yei cuts a b=some (btw cuts a b):=by
 have clone:yob cuts=some cuts:=by
  unfold yob;rw[yea (by omega)]
 have ta:=ycc ha
 have tb:=ycc hb
 unfold yei ypk ydi
 rw[ygf b a tb ta,ygf a b ta tb]
 simp only[Option.bind_some]
 have del:∀ lo hi:Rt,isRat lo=true->isRat hi=true->yua cuts (fun x0=>ycg x0 lo hi)=some (cuts.filter fun x=>less lo x&&less x hi):=fun lo hi h1 h2=>by
  rw[yxf1 cuts _ (fun x=> !(less lo x&&less x hi)) (fun x hx=>by
   have tx:=ycc (hc x hx)
   unfold ycg;rw[ygf lo x (ycc h1) tx,Option.bind_some];cases less lo x
   ·rfl
   simp only[Bool.not_true,Bool.false_eq_true,if_false,ygf x hi tx (ycc h2),Option.bind_some,Bool.true_and]) hl]
  simp
 unfold btw
 cases h1:less b a
 ·cases h2:less a b
  ·simp only[Bool.false_eq_true,if_false,Option.bind_some,clone,del a a ha ha]
   congr 1
   have e1:∀ x,(less a x&&less x a)=false:=fun x=>by
    cases h3:less a x
    ·rfl
    rw[yih1 h3];rfl
   have e2:∀ x∈cuts,(less a x&&less x b)=false:=fun x hx=>by
    have hab:a=b:=ynd1 ha hb (by simp only[less,decide_eq_false_iff_not] at h1 h2;omega)
    subst hab;exact e1 x
   rw[List.filter_eq_nil_iff.2 (fun x _=>by rw[e1];simp),List.filter_eq_nil_iff.2 (fun x hx=>by rw[e2 x hx];simp)]
  simp only[Bool.false_eq_true,if_false,if_true,Option.bind_some,clone,del a b ha hb]
 have h2:less a b=false:=yih1 h1
 simp only[h2,Bool.false_eq_true,if_false,if_true,Option.bind_some,clone,del b a hb ha]
 rw[ytt _ (by have:=List.length_filter_le (fun x=>less b x&&less x a) cuts;omega)]
 rfl
theorem yty (hc:∀ x∈cuts,isRat x=true) (ha:isRat a=true) (hb:isRat b=true) (hl:cuts.length<=1048576):ykl cuts a b=some (btw cuts a b):=by
 have ta:=ycc ha
 have tb:=ycc hb
 have hx:=yuc (body:=yse cuts a b) cuts.length (fun i=>(btw (cuts.take i) a b,(i:Int))) (btw cuts a b) (fun i hi=>by
  have hm:=List.getElem_mem hi;have tx:=ycc (hc _ hm)
  have hlen:=ywi1 (cuts.take i) a b
  have hlen':(btw (cuts.take i) a b).length<=1048576:=by rw[List.length_take] at hlen;omega
  have htk:cuts.take (i+1)=cuts.take i++[cuts[i]]:=by rw[List.take_add_one,List.getElem?_eq_getElem hi];rfl
  have e1:∀ x y:Rt,isRat x=true->isRat y=true->((yhb x cuts[i]).bind fun v12=>(if(decide (v12<0))=true then(yhb cuts[i] y).bind fun v13=>some (decide (v13<0)) else some false))=some (less x cuts[i]&&less cuts[i] y):=fun x y h1 h2=>by
   rw[ydc x _ (ycc h1) tx,Option.bind_some,ywj1];cases less x cuts[i]
   ·rfl
   simp only[if_true,ydc _ y tx (ycc h2),Option.bind_some,ywj1,Bool.true_and]
  have e2:=e1 a b ha hb;have e3:=e1 b a hb ha;have k2:∀ l:List Rt,l.length<=1048577->yre a b (btw (cuts.take i) a b,(i:Int)) cuts[i] l=some (.inl (if(less b cuts[i]&&less cuts[i] a)=true then[cuts[i]]++l else l,((i+1:Nat):Int))):=fun l hll=>by
   unfold yre;rw[ydc b _ tb tx] at e3 ⊢
   simp only[Option.bind_some] at e3 ⊢;rw[e3,Option.bind_some];cases (less b cuts[i]&&less cuts[i] a)
   ·simp only[Bool.false_eq_true,if_false,yva (show i<9223372036854775807 by omega)]
   simp only[if_true,yva (show i<9223372036854775807 by omega)];rw[yea (by simp;omega)]
  simp only[yse,show((i:Int)<(cuts.length:Int)) from by omega,decide_true,if_true,yno hi,Option.bind_some];rw[ydc a _ ta tx] at e2 ⊢
  simp only[Option.bind_some] at e2 ⊢;rw[e2,Option.bind_some];have step:btw (cuts.take (i+1)) a b=if(less b cuts[i]&&less cuts[i] a)=true then[cuts[i]]++(if(less a cuts[i]&&less cuts[i] b)=true then btw (cuts.take i) a b++[cuts[i]] else btw (cuts.take i) a b) else(if(less a cuts[i]&&less cuts[i] b)=true then btw (cuts.take i) a b++[cuts[i]] else btw (cuts.take i) a b):=by
   have tr:∀ {x y:Rt},isRat x=true->isRat y=true->(less x cuts[i]&&less cuts[i] y)=true->less x y=true:=fun {x y} h1 h2 h3=>by
    rw[Bool.and_eq_true] at h3;have hz:=hc _ hm;generalize cuts[i]=z at h3 hz
    have d1:0<x.2:=by have:=(isRat_iff.1 h1).1;omega
    have d2:0<y.2:=by have:=(isRat_iff.1 h2).1;omega
    have d3:0<z.2:=by have:=(isRat_iff.1 hz).1;omega
    rw[ytb d1 d3,ytb d3 d2] at h3;rw[ytb d1 d2];grind
   unfold btw;rw[htk];simp only[List.filter_append,List.filter_cons,List.filter_nil];cases hba:less b a
   ·have n1:(less b cuts[i]&&less cuts[i] a)=false:=by
     cases h:(less b cuts[i]&&less cuts[i] a) with
     | false=>rfl
     | true=>rw[tr hb ha h] at hba;cases hba
    rw[n1];simp only[Bool.false_eq_true,if_false];cases (less a cuts[i]&&less cuts[i] b) <;> simp
   have n1:(less a cuts[i]&&less cuts[i] b)=false:=by
    cases h:(less a cuts[i]&&less cuts[i] b) with
    | false=>rfl
    | true=>have:=tr ha hb h;rw[yih1 hba] at this;cases this
   rw[n1];simp only[Bool.false_eq_true,if_false,if_true];cases (less b cuts[i]&&less cuts[i] a) <;> simp
  cases hc1:(less a cuts[i]&&less cuts[i] b)
  ·rw[hc1] at step
   simp only[Bool.false_eq_true,if_false] at step ⊢;rw[k2 _ (by omega),step]
  ·rw[hc1] at step
   simp only[if_true] at step ⊢;rw[yea (by simp;omega),k2 _ (by simp;omega),step]) (by
  simp only[yse,Int.lt_irrefl,decide_false,Bool.false_eq_true,if_false,List.take_length])
 unfold ykl
 have e0:btw (cuts.take 0) a b=[]:=by simp[btw]
 rw[e0] at hx
 have hx':loopO (yse cuts a b) ([],0)=some (btw cuts a b):=hx
 rw[hx']
 rfl
end
def wayN (cuts:List Rt) (e:Nat->Rt):Nat->List Rt
 | 0=>[e 0]
 | k+1=>wayN cuts e k++btw cuts (e k) (e (k+1))++[e (k+1)]
theorem ymx {cuts:List Rt} {e:Nat->Rt} (hc:cuts.length<=12):∀ k,k+1<=(wayN cuts e k).length/\(wayN cuts e k).length<=13*k+1
 | 0=>by simp[wayN]
 | k+1=>by
  have ih:=ymx (e:=e) hc k
  have:=ywi1 cuts (e k) (e (k+1))
  simp only[wayN,List.length_append,List.length_singleton];omega
theorem yph1 {cuts:List Rt} {e:Nat->Rt} {P:Rt->Prop} (hc:∀ x∈cuts,P x):∀ k,(∀ i,i<=k->P (e i))->∀ x∈wayN cuts e k,P x
 | 0,he,x,hx=>by simp only[wayN,List.mem_singleton] at hx;subst hx;exact he 0 (Nat.le_refl _)
 | k+1,he,x,hx=>by
  simp only[wayN,List.mem_append,List.mem_singleton] at hx;rcases hx with(hx | hx) | rfl
  ·exact yph1 hc k (fun i hi=>he i (by omega)) x hx
  ·exact hc x (ywr1 hx)
  exact he (k+1) (Nat.le_refl _)
section
variable {n:Nat} {p:Nat->Pt}
noncomputable def valsO (n:Nat) (p:Nat->Pt) (o:Option (List Rt)) (xs:List Rt):Option (List Rt):=xs.foldl (fun o x=>o.bind fun l=>(atQ n p x).map fun y=>l++[y]) o
theorem yqm (o:Option (List Rt)) (xs ys:List Rt):valsO n p o (xs++ys)=valsO n p (valsO n p o xs) ys:=by simp[valsO]
theorem yjr (o:Option (List Rt)) (x:Rt):valsO n p o [x]=o.bind fun l=>(atQ n p x).map fun y=>l++[y]:=rfl
theorem yxa1 (xs:List Rt):valsO n p none xs=none:=by
 induction xs with
 | nil=>rfl
 | cons x xs ih=>exact ih
theorem yvd1:∀ (xs:List Rt) (l l':List Rt),valsO n p (some l) xs=some l'->l'.length=l.length+xs.length
 | [],l,l',h=>by simp[valsO] at h;simp[h]
 | x::xs,l,l',h=>by
  rw[show x::xs=[x]++xs from rfl,yqm,yjr] at h
  cases hx:atQ n p x with
  | none=>rw[hx] at h;simp only[Option.map_none,Option.bind_some] at h;rw[yxa1] at h;cases h
  | some y =>
   rw[hx] at h;simp only[Option.map_some,Option.bind_some] at h;have:=yvd1 xs _ _ h
   rw[this];simp;omega
theorem yyf1 (h:Curve n p) (hy:∀ i,i<n->coord (p i).2=true):∀ (xs:List Rt) (l l':List Rt),(∀ x∈xs,isUnit x=true)->(∀ x∈l,isUnit x=true)->valsO n p (some l) xs=some l'->∀ x∈l',isUnit x=true
 | [],l,l',_,hl,e=>by simp[valsO] at e;subst e;exact hl
 | x::xs,l,l',hx,hl,e=>by
  rw[show x::xs=[x]++xs from rfl,yqm,yjr] at e
  cases ha:atQ n p x with
  | none=>rw[ha] at e;simp only[Option.map_none,Option.bind_some] at e;rw[yxa1] at e;cases e
  | some y =>
   rw[ha] at e;simp only[Option.map_some,Option.bind_some] at e;refine yyf1 h hy xs _ _ (fun z hz=>hx z (by simp[hz])) (fun z hz=>?_) e
   rcases List.mem_append.1 hz with hz | hz
   ·exact hl z hz
   simp at hz;subst hz;exact ykx h hy (hx x (by simp)) ha
def RelA (o:Option (List Rt)) (k:Nat) (s:Bool×List Rt):Prop:=s.2.length=k/\match o with
 | some l=>s=(false,l)
 | none=>s.1=true
theorem ywd1 {o:Option (List Rt)} {k:Nat} {s:Bool×List Rt} {x:Rt} {v:Rt×Bool} (h:RelA o k s) (hv:CR s.1 (atQ n p x) v):RelA (valsO n p o [x]) (k+1) (v.2,s.2++[v.1]):=by
 obtain⟨h1,h2⟩:=h
 refine⟨by simp[h1],?_⟩
 rw[yjr]
 cases o with
 | none =>
  simp only at h2
  simp only[Option.bind_none];rw[h2] at hv;exact yuj1 hv
 | some l =>
  simp only at h2
  subst h2;simp only[Option.bind_some];obtain⟨_,hv⟩:=hv;cases ha:atQ n p x with
  | none=>rw[ha] at hv;simp only[Option.map_none];exact hv
  | some y=>rw[ha] at hv;simp only at hv;subst hv;rfl
theorem ycu1 (h:Curve n p) (xs:List Rt) (hx:∀ x∈xs,isUnit x=true) (hl:xs.length<=1048576) {o:Option (List Rt)} {k:Nat} {s:Bool×List Rt} (hk:k<=1048576) (hs:RelA o k s) :
  ∃ s',loopO (ydg (tab n p) xs) (s.1,s.2,0)=some s'/\RelA (valsO n p o xs) (k+xs.length) s':=by
 obtain⟨y,h1,h2⟩:=yqn (body:=ydg (tab n p) xs) (fun t=>∃ i:Nat,i<=xs.length/\t.2.2=i/\RelA (valsO n p o (xs.take i)) (k+i) (t.1,t.2.1)) (fun t=>xs.length-t.2.2.toNat)
  (fun y=>RelA (valsO n p o xs) (k+xs.length) y) (fun ⟨b,l,j⟩ ⟨i,hi,ej,hr⟩=>by
   simp only at ej
   subst ej;by_cases hlt:i<xs.length
   ·obtain⟨v,e1,e2⟩:=yuf1 h (hx _ (List.getElem_mem hlt)) b
    have hr2:=ywd1 hr e2;left
    have hlen:=hr.1;refine⟨_,by
     simp only[ydg,show((i:Int)<(xs.length:Int)) from by omega,decide_true,if_true,yno hlt,Option.bind_some,e1];rw[yea (by simp only[List.length_singleton];simp only at hlen;omega)],⟨i+1,hlt,by simp only[yva (show i<9223372036854775807 by omega)],?_⟩,by simp only[yva (show i<9223372036854775807 by omega),Int.toNat_natCast];omega⟩
    have htk:xs.take (i+1)=xs.take i++[xs[i]]:=by rw[List.take_add_one,List.getElem?_eq_getElem hlt];rfl
    rw[htk,yqm];exact hr2
   have:i=xs.length:=by omega
   subst this;right
   rw[List.take_length] at hr;exact⟨(b,l),by simp only[ydg,Int.lt_irrefl,decide_false,Bool.false_eq_true,if_false],hr⟩) (s.1,s.2,0) ⟨0,by omega,rfl,by simpa [valsO] using hs⟩
 exact⟨y,h1,h2⟩
noncomputable def nextO (n:Nat) (p:Nat->Pt) (cuts:List Rt) (m:Nat) (e:Nat->Rt):Option (List Rt):=if(wayN cuts e (m-1)).length<=4097 then valsO n p (some []) (wayN cuts e (m-1)) else none
theorem ydu1 (h:Curve n p) {cuts:List Rt} (hcr:∀ x∈cuts,isUnit x=true) (hcl:cuts.length<=12) {m:Nat} {e:Nat->Rt} (hm:1<=m) (hm2:m<=4097) (he:∀ i,i<m->isUnit (e i)=true) :
  ∃ v s',yya false (tab n p) (e 0)=some v/\loopO (yeg (tab n p) cuts (tab m e)) (v.2,[v.1],1)=some s'/\RelA (valsO n p (some []) (wayN cuts e (m-1))) (wayN cuts e (m-1)).length s':=by
 have ur:∀ {x:Rt},isUnit x=true->isRat x=true:=fun hx=>by simp only[isUnit,Bool.and_eq_true] at hx;exact hx.1
 obtain⟨v,e1,e2⟩:=yuf1 h (he 0 (by omega)) false
 have hv:RelA (valsO n p (some []) (wayN cuts e 0)) 1 (v.2,[v.1]):=by
  have:RelA (some []) 0 (false,([]:List Rt)):=⟨rfl,rfl⟩
  exact ywd1 this e2
 refine⟨v,?_⟩
 obtain⟨y,h1,h2⟩:=yqn (body:=yeg (tab n p) cuts (tab m e)) (fun t=>∃ i:Nat,1<=i/\i<=m/\t.2.2=i/\RelA (valsO n p (some []) (wayN cuts e (i-1))) (wayN cuts e (i-1)).length (t.1,t.2.1)) (fun t=>m-t.2.2.toNat)
  (fun y=>RelA (valsO n p (some []) (wayN cuts e (m-1))) (wayN cuts e (m-1)).length y) (fun ⟨b,l,j⟩ ⟨i,hi1,hi,ej,hr⟩=>by
   simp only at ej
   subst ej;by_cases hlt:i<m
   ·have u1:=he (i-1) (by omega)
    have u2:=he i hlt;have hw:=ymx (e:=e) hcl (i-1)
    have hb:=ywi1 cuts (e (i-1)) (e i)
    have ep:w64 ((i:Int)-1)=((i-1:Nat):Int):=yxj (by omega) (by omega)
    have hcb:=ycw (cuts:=cuts) (a:=e (i-1)) (b:=e i) (fun x hx=>ur (hcr x hx)) (ur u1) (ur u2) (by omega)
    obtain⟨s',e3,e4⟩:=ycu1 h (btw cuts (e (i-1)) (e i)) (fun x hx=>hcr x (ywr1 hx)) (by omega) (by omega) hr
    obtain⟨v2,e5,e6⟩:=yuf1 h u2 s'.1
    have hr2:=ywd1 e4 e6;have hlen:=e4.1;left
    refine⟨(v2.2,s'.2++[v2.1],((i+1:Nat):Int)),?_,⟨i+1,by omega,hlt,rfl,?_⟩,by simp only[Int.toNat_natCast];omega⟩
    ·simp only[yeg,yqa,show((i:Int)<(m:Int)) from by omega,decide_true,if_true,ep,yna (show i-1<m by omega),yna hlt,Option.bind_some,hcb]
     rw[e3,Option.bind_some];simp only[ypl,yna hlt,Option.bind_some,e5];rw[yea (by simp only[List.length_singleton];omega)]
     simp only[yol,yva (show i<9223372036854775807 by omega)]
    have ew:wayN cuts e (i+1-1)=wayN cuts e (i-1)++btw cuts (e (i-1)) (e i)++[e i]:=by
     obtain⟨q,rfl⟩:∃ q,i=q+1:=⟨i-1,by omega⟩
     rfl
    rw[ew,yqm,yqm,List.length_append,List.length_append];exact hr2
   have:i=m:=by omega
   subst this;right
   exact⟨(b,l),by simp only[yeg,yqa,Int.lt_irrefl,decide_false,Bool.false_eq_true,if_false],hr⟩) (v.2,[v.1],1) ⟨1,Nat.le_refl _,hm,rfl,hv⟩
 exact⟨y,e1,h1,h2⟩
theorem ydw (h:Curve n p) {cuts:List Rt} (hcr:∀ x∈cuts,isUnit x=true) (hcl:cuts.length<=12) {m:Nat} {e:Nat->Rt} (hm:1<=m) (hm2:m<=4097) (he:∀ i,i<m->isUnit (e i)=true) :
  yeo (tab n p) cuts (tab m e)=some (match nextO n p cuts m e with | some l=>(l,true) | none=>([],false)):=by
 have ur:∀ {x:Rt},isUnit x=true->isRat x=true:=fun hx=>by simp only[isUnit,Bool.and_eq_true] at hx;exact hx.1
 have way:loopO (yug cuts (tab m e)) ([e 0],1)=some (wayN cuts e (m-1)):=by
  have hx:=yuc (body:=yug cuts (tab m e)) (m-1) (fun i=>(wayN cuts e i,((i+1:Nat):Int))) (wayN cuts e (m-1)) (fun i hi=>by
   have hw:=ymx (e:=e) hcl i
   have hb:=ywi1 cuts (e i) (e (i+1))
   have ep:w64 (((i+1:Nat):Int)-1)=(i:Int):=by rw[yzb (by omega) (by omega)];omega
   have hcb:=yty (cuts:=cuts) (a:=e i) (b:=e (i+1)) (fun x hx=>ur (hcr x hx)) (ur (he i (by omega))) (ur (he (i+1) (by omega))) (by omega)
   simp only[yug,yqa,show(((i+1:Nat):Int)<(m:Int)) from by omega,decide_true,if_true,ep,yna (show i<m by omega),yna (show i+1<m by omega),Option.bind_some,hcb]
   rw[yea (by omega),yea (by rw[List.length_append,List.length_singleton];omega)]
   rw[yva (show i+1<9223372036854775807 by omega)];rfl) (by
   simp only[yug,yqa,show ¬ ((((m-1+1:Nat)):Int)<(m:Int)) from by omega,decide_false,Bool.false_eq_true,if_false])
  exact hx
 unfold yeo
 rw[show(0:Int)=((0:Nat):Int) from rfl,yna (by omega),Option.bind_some]
 have way':loopO (yug cuts (tab m e)) ([e 0],1)=some (wayN cuts e (m-1)):=way
 rw[way',Option.bind_some]
 have hu:=yph1 (e:=e) (P:=fun x=>isUnit x=true) hcr (m-1) fun i hi=>he i (by omega)
 have hwl:=ymx (e:=e) hcl (m-1)
 unfold nextO yyn
 generalize wayN cuts e (m-1)=W at hu hwl
 by_cases hlen:W.length<=4097
 ·rw[if_pos hlen]
  have hn:¬ ((W.length:Int)>4097):=by omega
  simp only[hn,decide_false,Bool.false_eq_true,if_false];obtain⟨y,h1,h2⟩:=yqn (body:=ysi (tab n p) W) (fun t=>∃ i:Nat,i<=W.length/\t.2=i/\valsO n p (some []) (W.take i)=some t.1) (fun t=>W.length-t.2.toNat)
   (fun y=>y=(match valsO n p (some []) W with | some l=>.inr l | none=>.inl ([],false))) (fun ⟨l,j⟩ ⟨i,hi,ej,hr⟩=>by
    simp only at ej hr
    subst ej;by_cases hlt:i<W.length
    ·have htk:W.take (i+1)=W.take i++[W[i]]:=by rw[List.take_add_one,List.getElem?_eq_getElem hlt];rfl
     have hlv:=yvd1 _ _ _ hr;have hll:l.length=i:=by rw[hlv,List.length_take];simp;omega
     have hsp:W=W.take i++([W[i]]++W.drop (i+1)):=by
      rw[← List.append_assoc,← htk,List.take_append_drop]
     simp only[ysi,show((i:Int)<(W.length:Int)) from by omega,decide_true,if_true,yno hlt,Option.bind_some,ytm1 h (hu _ (List.getElem_mem hlt))];cases ha:atQ n p W[i] with
     | none =>
      right
      refine⟨_,rfl,?_⟩
      have:valsO n p (some []) W=none:=by
       rw[hsp,yqm,hr,yqm,yjr,ha];exact yxa1 _
      rw[this]
     | some y =>
      left
      refine⟨(l++[y],((i+1:Nat):Int)),?_,⟨i+1,hlt,rfl,?_⟩,by simp only[Int.toNat_natCast];omega⟩
      ·simp only[unO,Bool.not_true,Bool.false_eq_true,if_false]
       rw[yea (by simp only[List.length_singleton];omega),yva (show i<9223372036854775807 by omega)]
      show valsO n p (some []) (W.take (i+1))=some (l++[y])
      rw[htk,yqm,hr,yjr,ha];rfl
    have:i=W.length:=by omega
    subst this;right
    rw[List.take_length] at hr;exact⟨.inr l,by simp only[ysi,Int.lt_irrefl,decide_false,Bool.false_eq_true,if_false],by rw[hr]⟩) ([],0) ⟨0,by omega,rfl,rfl⟩
  have h1':loopO (ysi (tab n p) W) ([],0)=some y:=h1
  rw[h1',h2];cases valsO n p (some []) W <;> rfl
 rw[if_neg hlen]
 have hn:((W.length:Int)>4097):=by omega
 simp only[hn,decide_true,if_true]
end
end Go.PV

/-
 Plain laws: laps,end values and variations of iterates.
 Conditions: none.
-/
set_option linter.all false
namespace Go.PV
section
variable {n:Nat} {p:Nat->Pt}
noncomputable def itO (n:Nat) (p:Nat->Pt) (cuts:List Rt):Nat->Option (List Rt)
 | 0=>some [(0,1),(1,1)]
 | k+1=>(itO n p cuts k).bind fun l=>nextO n p cuts l.length (fun i=>l.getD i default)
noncomputable def itL (n:Nat) (p:Nat->Pt) (cuts:List Rt) (k:Nat):List Rt:=(itO n p cuts k).getD []
theorem yya1 {cuts:List Rt} {k m:Nat} (h:itO n p cuts k=none) (hm:k<=m):itO n p cuts m=none:=by
  induction m with
  | zero => have : k = 0 := by omega
            subst this;exact h
  | succ m ih =>
    by_cases hk:k=m+1
    · subst hk;exact h
    · simp[itO,ih (by omega)]
structure Ends (l:List Rt):Prop where
 lo:2<=l.length
 hi:l.length<=4097
 u:∀ x∈l,isUnit x=true
theorem Ends.at {l:List Rt} (h:Ends l) {i:Nat} (hi:i<l.length):isUnit (l.getD i default)=true:=by
 refine h.u _ ?_
 simp[hi]
theorem yts (h:Curve n p) (hy:∀ i,i<n->coord (p i).2=true) {cuts:List Rt} (hcr:∀ x∈cuts,isUnit x=true) (hcl:cuts.length<=12):∀ {k:Nat} {l:List Rt},itO n p cuts k=some l->Ends l
 | 0,l,e=>by
  obtain rfl:=Option.some.inj e
  exact⟨by simp,by simp,by simp;exact⟨by decide,by decide⟩⟩
 | k+1,l,e=>by
  obtain⟨l0,e1,e2⟩:=Option.bind_eq_some_iff.1 e;have ih:=yts h hy hcr hcl e1;unfold nextO at e2;split at e2
  ·rename_i hlen
   have hl:=yvd1 _ _ _ e2;have hw:=ymx (e:=fun i=>l0.getD i default) hcl (l0.length-1)
   have hu:=yph1 (e:=fun i=>l0.getD i default) (P:=fun x=>isUnit x=true) hcr (l0.length-1) fun i hi=>ih.at (by have:=ih.lo;omega)
   have:=ih.lo
   simp only[List.length_nil,Nat.zero_add] at hl;exact⟨by omega,by omega,yyf1 h hy _ _ _ hu (by simp) e2⟩
  cases e2
theorem ymu (l:List Rt):l=tab l.length (fun i=>l.getD i default):=ysr1 l
theorem ynu {cuts:List Rt} {k:Nat} {l:List Rt} (h:itO n p cuts k=some l):itL n p cuts k=l:=by unfold itL;rw[h];rfl
theorem yza1 (h:Curve n p) (hy:∀ i,i<n->coord (p i).2=true) {cuts:List Rt} (hcr:∀ x∈cuts,isUnit x=true) (hcl:cuts.length<=12) (ht:ytq (tab n p)=some cuts) (N:Nat) (hN:N<=12) :
  ymn (tab n p) (N:Int)=some (match itO n p cuts N with | some _=>(tab (N+1) (itL n p cuts),true) | none=>([],false)):=by
 obtain⟨y,h1,h2⟩:=yqn (body:=yfi (tab n p) (N:Int) cuts) (fun s=>∃ k:Nat,k<=N/\s=(false,tab (k+1) (itL n p cuts),(k:Int))/\itO n p cuts k=some (itL n p cuts k)) (fun s=>N-s.2.2.toNat)
  (fun y=>y=(match itO n p cuts N with | some _=>.inr (tab (N+1) (itL n p cuts)) | none=>.inl ([],false))) (fun s ⟨k,hk,e,hq⟩=>by
   subst e;by_cases hlt:k<N
   ·have E:=yts h hy hcr hcl hq
    have e1:w64 (((k+1:Nat):Int)-1)=(k:Int):=by rw[yzb (by omega) (by omega)];omega
    obtain⟨v,s',a1,a2,a3⟩:=ydu1 h hcr hcl (m:=(itL n p cuts k).length) (e:=fun i=>(itL n p cuts k).getD i default) (by have:=E.lo;omega) E.hi (fun i hi=>E.at hi)
    rw[← ymu] at a2;have i0:idxO (itL n p cuts k) 0=some ((itL n p cuts k).getD 0 default):=by
     have:=yvk (itL n p cuts k) 0
     have hp:=E.lo;rw[show((0:Nat):Int)=0 from rfl] at this;rw[this];exact yan1 (by omega)
    have hnext:itO n p cuts (k+1)=nextO n p cuts (itL n p cuts k).length (fun i=>(itL n p cuts k).getD i default):=by
     show(itO n p cuts k).bind _=_
     rw[hq];rfl
    simp only[yfi,show((k:Int)<(N:Int)) from by omega,decide_true,if_true,yqa,e1,yna (show k<k+1 by omega),Option.bind_some,i0,a1];rw[a2,Option.bind_some]
    unfold ynl;have hlen:=a3.1;have hwl:=ymx (e:=fun i=>(itL n p cuts k).getD i default) hcl ((itL n p cuts k).length-1)
    have hEl:=E.lo;have hEh:=E.hi;unfold nextO at hnext;generalize hW:wayN cuts (fun i=>(itL n p cuts k).getD i default) ((itL n p cuts k).length-1)=W at a3 hnext hlen hwl
    have e3:w64 ((s'.2.length:Int)-1)=(W.length:Int)-1:=by rw[hlen,yzb (by omega) (by omega)]
    rw[e3];by_cases hc:W.length<=4097
    ·rw[if_pos hc] at hnext
     have hn:¬ ((W.length:Int)-1>4096):=by omega
     simp only[hn,decide_false,Bool.or_false];cases hv:valsO n p (some []) W with
     | none =>
      rw[hv] at a3 hnext
      have a4:s'.1=true:=a3.2
      right
      refine⟨.inl ([],false),by simp[a4],?_⟩
      rw[yya1 hnext (show k+1<=N by omega)]
     | some l =>
      rw[hv] at a3 hnext
      have a4:s'=(false,l):=a3.2
      subst a4;left
      refine⟨(false,tab (k+1+1) (itL n p cuts),((k+1:Nat):Int)),?_,⟨k+1,hlt,rfl,by rw[ynu hnext];exact hnext⟩,by simp only[Int.toNat_natCast];omega⟩
      simp only[Bool.false_eq_true,if_false];rw[yea (by rw[yqa];simp;omega)]
      simp only[yml,yva (show k<9223372036854775807 by omega)];have:=yna1 (k+1) (itL n p cuts)
      rw[ynu hnext] at this;rw[this]
    rw[if_neg hc] at hnext;have hn:((W.length:Int)-1>4096):=by omega
    right
    refine⟨.inl ([],false),by simp[hn],?_⟩
    rw[yya1 hnext (show k+1<=N by omega)]
   have:k=N:=by omega
   subst this;right
   exact⟨.inr (tab (k+1) (itL n p cuts)),by simp only[yfi,Int.lt_irrefl,decide_false,Bool.false_eq_true,if_false],by rw[hq]⟩) (false,[[(0,1),(1,1)]],0) ⟨0,by omega,rfl,rfl⟩
 unfold ymn
 rw[ht]
 have z1:yke=some (0,1):=rfl
 have z2:yoe=some (1,1):=rfl
 rw[z1,z2]
 simp only[Option.bind_some]
 rw[h1,h2]
 cases itO n p cuts N <;> rfl
theorem yxd1 (h:Curve n p) (hy:∀ i,i<n->coord (p i).2=true) {cuts:List Rt} (hcr:∀ x∈cuts,isUnit x=true) (hcl:cuts.length<=12) (ht:ylf (tab n p)=some cuts) (N:Nat) (hN:N<=12) :
  yhh (tab n p) (N:Int)=some (match itO n p cuts N with | some l=>(l,true) | none=>([],false)):=by
 obtain⟨y,h1,h2⟩:=yqn (body:=yll (tab n p) cuts) (fun s=>∃ k:Nat,k<=N/\s=((N:Int)-k,itL n p cuts k)/\itO n p cuts k=some (itL n p cuts k)) (fun s=>s.1.toNat)
  (fun y=>y=(match itO n p cuts N with | some l=>.inr l | none=>.inl ([],false))) (fun s ⟨k,hk,e,hq⟩=>by
   subst e;by_cases hlt:k<N
   ·have E:=yts h hy hcr hcl hq
    have a:=ydw h hcr hcl (m:=(itL n p cuts k).length) (e:=fun i=>(itL n p cuts k).getD i default) (by have:=E.lo;omega) E.hi (fun i hi=>E.at hi)
    rw[← ymu] at a;have hnext:itO n p cuts (k+1)=nextO n p cuts (itL n p cuts k).length (fun i=>(itL n p cuts k).getD i default):=by
     show(itO n p cuts k).bind _=_
     rw[hq];rfl
    simp only[yll,show((N:Int)-(k:Int)>0) from by omega,decide_true,if_true,a,Option.bind_some];rw[← hnext];cases hv:itO n p cuts (k+1) with
    | none =>
     right
     exact⟨_,rfl,by rw[yya1 hv (show k+1<=N by omega)]⟩
    | some l =>
     left
     refine⟨((N:Int)-((k+1:Nat):Int),l),?_,⟨k+1,hlt,by rw[ynu hv],by rw[ynu hv];exact hv⟩,by simp only;omega⟩
     simp only[Bool.not_true,Bool.false_eq_true,if_false];rw[yzb (by omega) (by omega)];congr 3
     omega
   have:k=N:=by omega
   subst this;right
   exact⟨.inr (itL n p cuts k),by simp only[yll,show ¬ ((k:Int)-(k:Int)>0) from by omega,decide_false,Bool.false_eq_true,if_false],by rw[hq]⟩) ((N:Int),[(0,1),(1,1)]) ⟨0,by omega,by simp[itL,itO],rfl⟩
 unfold yhh
 rw[ht]
 have z1:yoa 0=some (0,1):=rfl
 have z2:yoa 1=some (1,1):=rfl
 rw[z1,z2]
 simp only[Option.bind_some]
 rw[h1,h2]
 cases itO n p cuts N <;> rfl
theorem ybn1 (hm:isMapT n p) (h2:2<=n) (hn:n<=12):∃ cuts:List Rt,ytq (tab n p)=some cuts/\ylf (tab n p)=some cuts/\(∀ x∈cuts,isUnit x=true)/\cuts.length<=12:=by
 have hl:=ybw (p:=p) h2
 have hb:=(ywa1 (wayOf p) (n-1)).bd
 have hb':∀ t∈lapsT n p,t.1<n:=fun t ht=>by have:=hb t ht;omega
 have e1:=ymp hm h2 hn
 have e2:=yfh hm h2 hn
 generalize lapsT n p=L at hl hb' e1 e2
 have hd:((L.map encT).drop (Int.toNat 1))=(L.drop 1).map encT:=by simp[List.map_drop]
 have loop:loopO (ynk (tab n p) (L.map encT)) ([],0)=some ((L.drop 1).map fun t=>(p t.1).1):=by
  have hx:=yuc (body:=ynk (tab n p) (L.map encT)) (L.drop 1).length (fun i=>(((L.drop 1).take i).map (fun t=>(p t.1).1),(i:Int))) ((L.drop 1).map fun t=>(p t.1).1) (fun i hi=>by
   have hmem:(L.drop 1)[i]∈L:=List.mem_of_mem_drop (List.getElem_mem hi)
   have hlt:=hb' _ hmem
   have g1:idxO ((L.drop 1).map encT) (i:Int)=some (encT (L.drop 1)[i]):=by rw[yvk,List.getElem?_map,List.getElem?_eq_getElem hi];rfl
   have g2:idxO (encT (L.drop 1)[i]) 0=some (((L.drop 1)[i].1:Nat):Int):=rfl
   simp only[ynk,hd,List.length_map,show((i:Int)<((L.drop 1).length:Int)) from by omega,decide_true,if_true,g1,g2,Option.bind_some,yna hlt];rw[yea (by rw[List.length_take];simp;omega),yva (show i<9223372036854775807 by simp at hi;omega)]
   have htk:(L.drop 1).take (i+1)=(L.drop 1).take i++[(L.drop 1)[i]]:=by rw[List.take_add_one,List.getElem?_eq_getElem hi];rfl
   rw[htk,List.map_append];rfl) (by
   simp only[ynk,hd,List.length_map,Int.lt_irrefl,decide_false,Bool.false_eq_true,if_false,List.take_length])
  exact hx
 have gl:((0:Nat)<=1/\(1:Int)<=((L.map encT).length:Int)):=by rw[List.length_map];omega
 refine⟨(L.drop 1).map fun t=>(p t.1).1,?_,?_,fun x hx=>?_,by simp;omega⟩
 ·unfold ytq
  rw[e1,Option.bind_some,yea gl,loop];rfl
 ·unfold ylf
  have loop':loopO (ykf (tab n p) (L.map encT)) ([],0)=some ((L.drop 1).map fun t=>(p t.1).1):=loop
  rw[e2,Option.bind_some,yea gl,loop'];rfl
 obtain⟨t,h3,rfl⟩:=List.mem_map.1 hx
 have hlt:=hb' t (List.mem_of_mem_drop h3)
 have hc:=(hm.1 _ hlt).1
 simp only[coord,Bool.and_eq_true] at hc
 exact hc.1
end
theorem yhk (f:List Pt) (m:Int) (hl:f.length<=4611686018427387904) :
  (yjd f m=some false/\yod f m=some ([],false)) \/
  ∃ n p cuts N,f=tab n p/\2<=n/\n<=12/\isMapT n p/\m=((N:Nat):Int)/\N<=12/\Curve n p/\(∀ i,i<n->coord (p i).2=true)/\(∀ x∈cuts,isUnit x=true)/\cuts.length<=12/\ylf f=some cuts/\yjd f m=some true /\
   yhh f m=some (match itO n p cuts N with | some l=>(l,true) | none=>([],false)) /\
   yod f m=some (match itO n p cuts N with | some _=>(tab (N+1) (itL n p cuts),true) | none=>([],false)):=by
 obtain⟨c,b,h1,h2,h3,h4⟩:=yit f hl
 unfold yjd yod
 rw[h1,h3]
 cases c
 ·exact .inl ⟨rfl,rfl⟩
 obtain⟨e1,n,p,rfl,h5,h6,hm,rfl⟩:=h4 rfl
 cases hb:strictB n p
 ·rw[hb] at e1
  simp only[Option.bind_some,if_true,e1,Bool.true_and,Bool.false_eq_true,if_false,Bool.not_false];exact .inl ⟨by first | rfl | trivial,by first | rfl | trivial⟩
 rw[hb] at e1
 simp only[Option.bind_some,if_true,e1,Bool.true_and,Bool.not_true,Bool.false_eq_true,if_false,ydm,ywk]
 cases hk:inB 0 12 m
 ·exact .inl ⟨rfl,rfl⟩
 right
 have hk':=inB_iff.1 hk
 obtain⟨N,rfl⟩:=Int.eq_ofNat_of_zero_le hk'.1
 obtain⟨cuts,t1,t2,t3,t4⟩:=ybn1 hm h5 h6
 have hC:=Curve.of_map hm h5 h6
 have hy:∀ i,i<n->coord (p i).2=true:=fun i hi=>(hm.1 i hi).2
 refine⟨n,p,cuts,N,rfl,h5,h6,hm,rfl,by omega,hC,hy,t3,t4,t2,by first | rfl | trivial,yxd1 hC hy t3 t4 t2 N (by omega),?_⟩
 simp only[Bool.not_true,Bool.false_eq_true,if_false,yza1 hC hy t3 t4 t1 N (by omega),Option.bind_some]
theorem ykr (f:List Pt) (m:Int) (hl:f.length<=4611686018427387904):∃ r,yld f m=some r/\yvg f m=some r:=by
 unfold yld yvg
 rcases yhk f m hl with⟨h1,h2⟩ | ⟨n,p,cuts,N,rfl,_,_,_,rfl,h5,h6,h7,h8,h9,_,h1,h2,h3⟩
 ·rw[h1,h2];exact⟨_,rfl,rfl⟩
 rw[h1,h3]
 simp only[Option.bind_some,Bool.not_true,Bool.false_eq_true,if_false,h2]
 cases h:itO n p cuts N with
 | none=>exact⟨_,rfl,rfl⟩
 | some l =>
  simp only[Bool.not_true,Bool.false_eq_true,if_false,yna (show N<N+1 by omega),Option.bind_some,ynu h];exact⟨_,rfl,rfl⟩
theorem yie (f:List Pt) (m:Int) (hl:f.length<=4611686018427387904):∃ r,yza f m=some r/\yqb f m=some r:=by
 unfold yza yqb
 rcases yhk f m hl with⟨h1,h2⟩ | ⟨n,p,cuts,N,rfl,_,_,_,rfl,h5,h6,h7,h8,h9,_,h1,h2,h3⟩
 ·rw[h1,h2];exact⟨_,rfl,rfl⟩
 rw[h1,h3]
 simp only[Option.bind_some,Bool.not_true,Bool.false_eq_true,if_false,h2]
 cases h:itO n p cuts N with
 | none=>exact⟨_,rfl,rfl⟩
 | some l =>
  have E:=yts h6 h7 h8 h9 h;have ur:∀ i,i<l.length->isRat (l.getD i default)=true:=fun i hi=>by have:=E.at hi;simp only[isUnit,Bool.and_eq_true] at this;exact this.1
  simp only[Bool.not_true,Bool.false_eq_true,if_false,yna (show N<N+1 by omega),Option.bind_some,ynu h];have a:=yxr l.length (fun i=>l.getD i default) (by have:=E.lo;omega) (by have:=E.hi;omega) ur
  have b:=ylp l.length (fun i=>l.getD i default) (by have:=E.lo;omega) (by have:=E.hi;omega) ur
  rw[← ymu] at a b
  rw[a,b];exact⟨_,rfl,rfl⟩
theorem ycn1 (r:Nat->Rt) (n:Nat) (h1:1<=n) (hn:n<=1048576) (hr:∀ i,i<n->isRat (r i)=true):loopO (yvc (tab n r,true)) ((r 0).1,(r 0).2,(r 0).1,(r 0).2,0)=some ((mxN r n).1,(mxN r n).2,(mnN r n).1,(mnN r n).2):=by
 have hx:=yuc (body:=yvc (tab n r,true)) n (fun i=>((mxN r i).1,(mxN r i).2,(mnN r i).1,(mnN r i).2,(i:Int))) ((mxN r n).1,(mxN r n).2,(mnN r n).1,(mnN r n).2) (fun i hi=>by
  have b:=yxp1 (hr 0 (by omega)) hr i (by omega)
  simp only[yvc,yqa,show((i:Int)<(n:Int)) from by omega,decide_true,if_true,yna hi,Option.bind_some];rw[show((mxN r i).1,(mxN r i).2)=mxN r i from rfl,ydc _ _ (ycc b.2) (ycc (hr i hi)),Option.bind_some,ywj1]
  unfold ywg;simp only
  simp only[show((mnN r i).1,(mnN r i).2)=mnN r i from rfl,ydc _ _ (ycc (hr i hi)) (ycc b.1),Option.bind_some,ywj1,yva (show i<9223372036854775807 by omega),ykh1,yjh1]
  unfold maxStep minStep
  cases less (mxN r i) (r i) <;> cases less (r i) (mnN r i) <;> rfl) (by
  simp only[yvc,yqa,Int.lt_irrefl,decide_false,Bool.false_eq_true,if_false])
 exact hx
theorem yxi (f:List Pt) (m:Int) (hl:f.length<=4611686018427387904):∃ r,yyc f m=some r/\ytd f m=some r:=by
 unfold yyc ytd
 rcases yhk f m hl with⟨h1,h2⟩ | ⟨n,p,cuts,N,rfl,_,_,_,rfl,h5,h6,h7,h8,h9,_,h1,h2,h3⟩
 ·rw[h1,h2];exact⟨_,rfl,rfl⟩
 rw[h1,h3]
 simp only[Option.bind_some,Bool.not_true,Bool.false_eq_true,if_false,h2]
 cases h:itO n p cuts N with
 | none=>exact⟨_,rfl,rfl⟩
 | some l =>
  have E:=yts h6 h7 h8 h9 h;have ur:∀ i,i<l.length->isRat (l.getD i default)=true:=fun i hi=>by have:=E.at hi;simp only[isUnit,Bool.and_eq_true] at this;exact this.1
  simp only[Bool.not_true,Bool.false_eq_true,if_false,yna (show N<N+1 by omega),Option.bind_some,ynu h];have hlo:=E.lo;have hhi:=E.hi;rw[ymu l];rw[ywf1 (by omega) (by omega) ur,yvf1 (by omega) (by omega) ur]
  have i0:idxO (tab l.length fun i=>l.getD i default) 0=some (l.getD 0 default):=yna (n:=l.length) (f:=fun i=>l.getD i default) (i:=0) (by omega)
  rw[i0];simp only[Option.bind_some];rw[ycn1 (fun i=>l.getD i default) l.length (by omega) (by omega) ur];exact⟨_,rfl,rfl⟩
theorem yyd1 (f:List Pt) (m:Int) (hl:f.length<=4611686018427387904):∃ r,r.1.length<=1048576/\yql f m=some r/\yef f m=some r:=by
 unfold yql yef
 rcases yhk f m hl with⟨h1,h2⟩ | ⟨n,p,cuts,N,rfl,_,_,_,rfl,h5,h6,h7,h8,h9,ht,h1,_,h3⟩
 ·rw[h1,h2]
  refine⟨([],false),by simp,rfl,?_⟩
  rw[Option.bind_some,yuj];simp[ymb,yoj]
 rw[h1,h3]
 have z1:yoa 0=some (0,1):=rfl
 have z2:yoa 1=some (1,1):=rfl
 simp only[Option.bind_some,Bool.not_true,Bool.false_eq_true,if_false,ht,z1,z2]
 let g:Nat->Int:=fun k=>w64 (((itL n p cuts k).length:Int)-1)
 obtain⟨y,k1,k2⟩:=yqn (body:=ynj (tab n p) (N:Int) cuts) (fun s=>∃ k:Nat,k<=N/\s=(itL n p cuts k,tab (k+1) g,(k:Int))/\itO n p cuts k=some (itL n p cuts k)) (fun s=>N-s.2.2.toNat)
  (fun y=>y=(match itO n p cuts N with | some l=>.inr (tab (N+1) g) | none=>.inl ([],false))) (fun s ⟨k,hk,e,hq⟩=>by
   subst e;by_cases hlt:k<N
   ·have E:=yts h6 h7 h8 h9 hq
    have a:=ydw h6 h8 h9 (m:=(itL n p cuts k).length) (e:=fun i=>(itL n p cuts k).getD i default) (by have:=E.lo;omega) E.hi (fun i hi=>E.at hi)
    rw[← ymu] at a;have hnext:itO n p cuts (k+1)=nextO n p cuts (itL n p cuts k).length (fun i=>(itL n p cuts k).getD i default):=by
     show(itO n p cuts k).bind _=_
     rw[hq];rfl
    simp only[ynj,show((k:Int)<(N:Int)) from by omega,decide_true,if_true,a,Option.bind_some];rw[← hnext];cases hv:itO n p cuts (k+1) with
    | none =>
     right
     exact⟨_,rfl,by rw[yya1 hv (show k+1<=N by omega)]⟩
    | some l =>
     left
     refine⟨(l,tab (k+1+1) g,((k+1:Nat):Int)),?_,⟨k+1,hlt,by rw[ynu hv],by rw[ynu hv];exact hv⟩,by simp only[Int.toNat_natCast];omega⟩
     simp only[Bool.not_true,Bool.false_eq_true,if_false];rw[yea (by rw[yqa];simp;omega),yva (show k<9223372036854775807 by omega)]
     have:=yna1 (k+1) g
     have hg:g (k+1)=w64 ((l.length:Int)-1):=by show w64 (((itL n p cuts (k+1)).length:Int)-1)=_;rw[ynu hv]
     rw[hg] at this;rw[this]
   have:k=N:=by omega
   subst this;right
   exact⟨.inr (tab (k+1) g),by simp only[ynj,Int.lt_irrefl,decide_false,Bool.false_eq_true,if_false],by rw[hq]⟩) ([(0,1),(1,1)],[1],0) ⟨0,by omega,by
    have:itL n p cuts 0=[(0,1),(1,1)]:=rfl
    simp only[tab,List.range_succ,List.range_zero,List.nil_append,List.map_cons,List.map_nil,g,this];rfl,rfl⟩
 rw[k1,k2]
 cases h:itO n p cuts N with
 | none =>
  refine⟨([],false),by simp,rfl,?_⟩
  rw[yuj];simp[ymb,yoj]
 | some l =>
  refine⟨(tab (N+1) g,true),by simp only[yqa];omega,rfl,?_⟩
  have hx:=yuc (body:=ymb (tab (N+1) (itL n p cuts),true)) (N+1) (fun i=>(tab i g,(i:Int))) (tab (N+1) g) (fun i hi=>by
   simp only[ymb,yqa,show((i:Int)<((N+1:Nat):Int)) from by omega,decide_true,if_true,yna hi,Option.bind_some];rw[yea (by simp;omega),yva (show i<9223372036854775807 by omega)]
   have:=yna1 i g
   rw[← this]) (by
   simp only[ymb,yqa,Int.lt_irrefl,decide_false,Bool.false_eq_true,if_false])
  have hx':loopO (ymb (tab (N+1) (itL n p cuts),true)) ([],0)=some (tab (N+1) g):=hx
  simp only
  rw[hx'];rfl
end Go.PV

/-
 Plain laws: end values of iterates.
 Conditions: none.
-/
set_option linter.all false
namespace Go.PV
theorem yzd1 (f:List Pt) (m:Int) (hl:f.length<=4611686018427387904):∃ r ok,r.length<=1048576/\yxd f m=some (r,ok)/\yrl f m=some (r,ok):=by
 unfold yxd yrl
 rcases yhk f m hl with⟨h1,h2⟩ | ⟨n,p,cuts,N,rfl,_,_,_,rfl,h5,h6,h7,h8,h9,_,h1,h2,h3⟩
 ·rw[h1,h2];exact⟨[],false,by simp,rfl,rfl⟩
 rw[h1,h3]
 simp only[Option.bind_some,Bool.not_true,Bool.false_eq_true,if_false,h2]
 cases h:itO n p cuts N with
 | none=>exact⟨[],false,by simp,rfl,rfl⟩
 | some l =>
  have E:=yts h6 h7 h8 h9 h;have:=E.hi
  simp only[Bool.not_true,Bool.false_eq_true,if_false,yna (show N<N+1 by omega),Option.bind_some,ynu h];exact⟨l,true,by omega,rfl,rfl⟩
end Go.PV

/-
 Plain laws: the end values of iterates go up and down by turns.
 Conditions: none.
-/
set_option linter.all false
namespace Go.PV
def tnL (σ:Nat->Int) (i:Nat):List Nat:=((List.range i).map (·+1)).filter fun m=>σ (m-1) != σ m
theorem yqh1 (σ:Nat->Int) (i:Nat):tnL σ (i+1)=tnL σ i++if(σ i != σ (i+1))=true then[i+1] else[]:=by
 unfold tnL
 rw[List.range_succ,List.map_append,List.filter_append]
 simp only[List.map_cons,List.map_nil,List.filter_cons,List.filter_nil,Nat.add_sub_cancel]
theorem tnL_mem {σ:Nat->Int} {i m:Nat}:m∈tnL σ i↔1<=m/\m<=i/\σ (m-1)≠σ m:=by
 unfold tnL
 rw[List.mem_filter,List.mem_map]
 constructor
 ·rintro⟨⟨k,hk,rfl⟩,h⟩
  have:=List.mem_range.1 hk
  exact⟨by omega,by omega,by simpa using h⟩
 rintro⟨h1,h2,h3⟩
 exact⟨⟨m-1,List.mem_range.2 (by omega),by omega⟩,by simpa using h3⟩
theorem yka2 (σ:Nat->Int) (i:Nat):(tnL σ i).Pairwise (·<·):=by
 unfold tnL
 refine List.Pairwise.filter _ ?_
 rw[List.pairwise_map]
 exact List.pairwise_lt_range.imp fun h=>by omega
theorem ynx (σ:Nat->Int):∀ i,(lapsN σ (i+1)).map (fun t=>t.1)=0::tnL σ i/\∃ L t,lapsN σ (i+1)=L++[t]/\t.2.2=σ i
 | 0=>⟨rfl,[],(0,1,σ 0),rfl,rfl⟩
 | i+1=>by
  obtain⟨h1,L,t,h2,h3⟩:=ynx σ i;have e:lapsN σ (i+1+1)=if t.2.2=σ (i+1) then L++[(t.1,i+1+1,σ (i+1))] else L++[t]++[(i+1,i+1+1,σ (i+1))]:=by
   show lapStep (lapsN σ (i+1)) (i+1) (σ (i+1))=_
   rw[h2,yoq]
  rw[h2,List.map_append] at h1;rw[yqh1,e,h3];by_cases hs:σ i=σ (i+1)
  ·rw[if_pos hs,if_neg (by simpa using hs)]
   refine⟨?_,L,_,rfl,rfl⟩
   rw[List.map_append,List.append_nil,← h1];rfl
  rw[if_neg hs,if_pos (by simpa using hs)];refine⟨?_,L++[t],_,rfl,rfl⟩
  rw[List.map_append,List.map_append,h1];rfl
def cutsT (n:Nat) (p:Nat->Pt):List Rt:=(tnL (wayOf p) (n-2)).map fun m=>(p m).1
section
variable {n:Nat} {p:Nat->Pt}
theorem yeu1 (hm:isMapT n p) (h2:2<=n) (hn:n<=12) {cuts:List Rt} (ht:ylf (tab n p)=some cuts):cuts=cutsT n p/\cuts.length+1=(lapsT n p).length:=by
 have hl:=ybw (p:=p) h2
 have hb:=(ywa1 (wayOf p) (n-1)).bd
 have hb':∀ t∈lapsT n p,t.1<n:=fun t ht=>by have:=hb t ht;omega
 have hst:(lapsT n p).map (fun t=>t.1)=0::tnL (wayOf p) (n-2):=by
  have:=(ynx (wayOf p) (n-2)).1
  rw[show n-2+1=n-1 by omega] at this;exact this
 have e2:=yfh hm h2 hn
 generalize lapsT n p=L at hl hb' e2 hst
 have hd:((L.map encT).drop (Int.toNat 1))=(L.drop 1).map encT:=by simp[List.map_drop]
 have loop:loopO (ykf (tab n p) (L.map encT)) ([],0)=some ((L.drop 1).map fun t=>(p t.1).1):=by
  have hx:=yuc (body:=ykf (tab n p) (L.map encT)) (L.drop 1).length (fun i=>(((L.drop 1).take i).map (fun t=>(p t.1).1),(i:Int))) ((L.drop 1).map fun t=>(p t.1).1) (fun i hi=>by
   have hmem:(L.drop 1)[i]∈L:=List.mem_of_mem_drop (List.getElem_mem hi)
   have hlt:=hb' _ hmem
   have g1:idxO ((L.drop 1).map encT) (i:Int)=some (encT (L.drop 1)[i]):=by rw[yvk,List.getElem?_map,List.getElem?_eq_getElem hi];rfl
   have g2:idxO (encT (L.drop 1)[i]) 0=some (((L.drop 1)[i].1:Nat):Int):=rfl
   simp only[ykf,hd,List.length_map,show((i:Int)<((L.drop 1).length:Int)) from by omega,decide_true,if_true,g1,g2,Option.bind_some,yna hlt];rw[yea (by rw[List.length_take];simp;omega),yva (show i<9223372036854775807 by simp at hi;omega)]
   have htk:(L.drop 1).take (i+1)=(L.drop 1).take i++[(L.drop 1)[i]]:=by rw[List.take_add_one,List.getElem?_eq_getElem hi];rfl
   rw[htk,List.map_append];rfl) (by
   simp only[ykf,hd,List.length_map,Int.lt_irrefl,decide_false,Bool.false_eq_true,if_false,List.take_length])
  exact hx
 have gl:((0:Nat)<=1/\(1:Int)<=((L.map encT).length:Int)):=by rw[List.length_map];omega
 unfold ylf at ht
 rw[e2,Option.bind_some,yea gl,loop] at ht
 have e:cuts=(L.drop 1).map fun t=>(p t.1).1:=(Option.some.inj ht).symm
 refine⟨?_,by rw[e,List.length_map,List.length_drop];omega⟩
 rw[e]
 unfold cutsT
 have:(L.drop 1).map (fun t=>t.1)=tnL (wayOf p) (n-2):=by rw[List.map_drop,hst];rfl
 rw[← this,List.map_map]
 rfl
def dy (p:Nat->Pt) (m:Nat):Rat:=val (p (m+1)).2-val (p m).2
def Ways (n:Nat) (p:Nat->Pt):Prop:=∀ m,m+1<n->(wayOf p m=1/\0<dy p m)\/(wayOf p m = -1/\dy p m<0)
theorem yxr1 (h:Curve n p) (hs:strictB n p=true):Ways n p:=by
 intro m hm
 obtain⟨u,v,hp⟩:=h.piece hm
 have v4:=yme (h.yr hm) (h.yr (show m<n by omega)) hp.up
 have v5:=yme (h.xr hm) (h.xr (show m<n by omega)) hp.far
 have v6:=divQ_val hp.ru hp.rv hp.vp hp.div
 have hx:=h.xlt (show m<m+1 by omega) hm
 have hne:(slopeQ (p m) (p (m+1))).1≠0:=by
  unfold strictB slopesT at hs
  rw[List.all_eq_true] at hs;have:=hs (slopeQ (p m) (p (m+1))) (by
   unfold tab;exact List.mem_map.2 ⟨m,List.mem_range.2 (by omega),rfl⟩)
  simpa using this
 have hp2:=yic hp.rs
 have e:=yuf hp2
 have c2:=yir hp2
 have d:0<val v:=by rw[v5];grind
 have hy:dy p m=val u:=by rw[v4];rfl
 rw[hy,← v6]
 unfold wayOf sg
 by_cases hpos:0<(slopeQ (p m) (p (m+1))).1
 ·left
  rw[if_pos hpos];refine⟨rfl,?_⟩
  have c1:(0:Rat)<((slopeQ (p m) (p (m+1))).1:Rat):=by exact_mod_cast hpos
  rw[← e] at c1;have:0<val (slopeQ (p m) (p (m+1))):=by
   refine Classical.byContradiction fun hno=>?_
   have:=Rat.mul_le_mul_of_nonneg_right (show val (slopeQ (p m) (p (m+1)))<=0 by grind) (show(0:Rat)<=((slopeQ (p m) (p (m+1))).2:Rat) by grind)
   grind
  exact Rat.mul_pos this d
 right
 rw[if_neg hpos,if_pos (by omega)]
 refine⟨rfl,?_⟩
 have c1:((slopeQ (p m) (p (m+1))).1:Rat)<(0:Rat):=by exact_mod_cast (show(slopeQ (p m) (p (m+1))).1<0 by omega)
 rw[← e] at c1
 have:val (slopeQ (p m) (p (m+1)))<0:=by
  refine Classical.byContradiction fun hno=>?_
  have:=Rat.mul_nonneg (show 0<=val (slopeQ (p m) (p (m+1))) by grind) (show(0:Rat)<=((slopeQ (p m) (p (m+1))).2:Rat) by grind)
  grind
 have:=Rat.mul_lt_mul_of_pos_right this d
 grind
theorem yfy (h:Curve n p) {m m':Nat} (hm:m+1<n) (hm':m'+1<n) {x y:Rt} (ho:OnP p m' x y) (lo:val (p m).1<=val x) (hi:val x<=val (p (m+1)).1):OnP p m x y:=by
 have d:=h.xlt (show m<m+1 by omega) hm
 have d':=h.xlt (show m'<m'+1 by omega) hm'
 obtain⟨l,u,e⟩:=ho
 rcases Nat.lt_trichotomy m' m with hlt | heq | hgt
 ·have hme:m=m'+1:=by
   refine Classical.byContradiction fun hne=>?_
   have:=h.xlt (show m'+1<m by omega) (by omega)
   grind
  subst hme;have ex:val x=val (p (m'+1)).1:=by grind
  refine⟨lo,hi,?_⟩
  rw[ex] at e ⊢
  have:val y=val (p (m'+1)).2:=by
   have:(val y-val (p (m'+1)).2)*(val (p (m'+1)).1-val (p m').1)=0:=by grind
   rcases Rat.mul_eq_zero.1 this with h1 | h1 <;> grind
  rw[this];grind
 ·subst heq;exact⟨l,u,e⟩
 have hme:m'=m+1:=by
  refine Classical.byContradiction fun hne=>?_
  have:=h.xlt (show m+1<m' by omega) (by omega)
  grind
 subst hme
 have ex:val x=val (p (m+1)).1:=by grind
 refine⟨lo,hi,?_⟩
 rw[ex] at e ⊢
 have:val y=val (p (m+1)).2:=by
  have:(val y-val (p (m+1)).2)*(val (p (m+1+1)).1-val (p (m+1)).1)=0:=by grind
  rcases Rat.mul_eq_zero.1 this with h1 | h1 <;> grind
 rw[this]
theorem ybq (h:Curve n p) {m:Nat} (hm:m+1<n) {a b u v:Rt} (ha:OnP p m a u) (hb:OnP p m b v) {σ:Rat} (hs:0<σ*dy p m):(val a<val b->0<σ*(val v-val u))/\(val a<=val b->0<=σ*(val v-val u)):=by
 have d:=h.xlt (show m<m+1 by omega) hm
 have e1:=ha.eq
 have e2:=hb.eq
 have key:σ*(val v-val u)*(val (p (m+1)).1-val (p m).1)=σ*dy p m*(val b-val a):=by unfold dy;grind
 constructor
 ·intro hab
  refine Classical.byContradiction fun hno=>?_
  have h1:=Rat.mul_pos hs (show 0<val b-val a by grind)
  have h2:=Rat.mul_le_mul_of_nonneg_right (show σ*(val v-val u)<=0 by grind) (show 0<=val (p (m+1)).1-val (p m).1 by grind)
  grind
 intro hab
 refine Classical.byContradiction fun hno=>?_
 have h1:=Rat.mul_nonneg (show 0<=σ*dy p m by grind) (show 0<=val b-val a by grind)
 have h2:=Rat.mul_lt_mul_of_pos_right (show σ*(val v-val u)<0 by grind) (show 0<val (p (m+1)).1-val (p m).1 by grind)
 grind
theorem yaq1 (h:Curve n p) {m:Nat} (hm:m+1<n):OnP p m (p m).1 (p m).2/\OnP p m (p (m+1)).1 (p (m+1)).2:=by
 have d:=h.xlt (show m<m+1 by omega) hm
 exact⟨⟨Rat.le_refl,by grind,by grind⟩,⟨by grind,Rat.le_refl,by grind⟩⟩
theorem ybb2 (h:Curve n p) {σ:Rat} {i:Nat} {a u:Rt} (ha:OnP p i a u):∀ (k:Nat) {b v:Rt},i+k+1<n->OnP p (i+k) b v->val a<val b->(∀ m,i<=m->m<=i+k->0<σ*dy p m)->0<σ*(val v-val u)
 | 0,b,v,hn,hb,hab,hs=>(ybq h hn ha hb (hs i (Nat.le_refl _) (Nat.le_refl _))).1 hab
 | k+1,b,v,hn,hb,hab,hs=>by
  have hn1:i+k+1<n:=by omega
  have c1:=(yaq1 h hn1).2
  have c2:=(yaq1 h hn).1
  have hsj:=hs (i+(k+1)) (by omega) (Nat.le_refl _)
  by_cases hlt:val a<val (p (i+k+1)).1
  ·have h1:=ybb2 h ha k hn1 c1 hlt (fun m h1 h2=>hs m h1 (by omega))
   have h2:=(ybq h hn c2 hb hsj).2 hb.lo
   rw[show i+(k+1)=i+k+1 by omega] at h2;grind
  have hk:val a<=val (p (i+1)).1:=ha.hi
  have hx:val (p (i+1)).1<=val (p (i+k+1)).1:=by
   by_cases h0:k=0
   ·subst h0;exact Rat.le_refl
   have:=h.xlt (show i+1<i+k+1 by omega) (by omega);grind
  have hx2:=h.xlt (show i+(k+1)<i+(k+1)+1 by omega) hn
  rw[show i+(k+1)=i+k+1 by omega] at hx2 hb hsj
  have ho:=yfy h (m:=i+k+1) (by omega) (by omega) ha (by grind) (by grind)
  exact(ybq h (by omega) ho hb hsj).1 hab
theorem ymd {x:Rt} (h:isUnit x=true):isRat x=true:=by simp only[isUnit,Bool.and_eq_true] at h;exact h.1
theorem yzf1 (h:Curve n p) {b:Rt} (hb:isUnit b=true) (h0:0<val b):∃ j,j+1<n/\val (p j).1<val b/\val b<=val (p (j+1)).1:=by
 obtain⟨j,hj⟩:=yao1 h hb
 have hr:=ymd hb
 have f0:val (p 0).1=0:=by rw[h.fst];show((0:Int):Rat) / ((1:Int):Rat)=0;grind
 have hi:=(yvf (yic (h.xr hj.lt)) (yic hr)).1 hj.at'
 cases j with
 | zero=>rw[f0] at hi;grind
 | succ j =>
  have hlt:=hj.lt;exact⟨j,hlt,(ytb (yic (h.xr (by omega))) (yic hr)).1 (hj.bef j (by omega)),hi⟩
theorem yus (h:Curve n p) {a:Rt} (ha:isUnit a=true) (h1:val a<1):∃ i,i+1<n/\val (p i).1<=val a/\val a<val (p (i+1)).1:=by
 obtain⟨j,hj⟩:=yao1 h ha
 have hr:=ymd ha
 have hlt:=hj.lt
 have hn:=h.lo
 have f0:val (p 0).1=0:=by rw[h.fst];show((0:Int):Rat) / ((1:Int):Rat)=0;grind
 have f1:val (p (n-1)).1=1:=by rw[h.lst];show((1:Int):Rat) / ((1:Int):Rat)=1;grind
 have hu:=(yne hr).1 ha
 have hi:=(yvf (yic (h.xr hj.lt)) (yic hr)).1 hj.at'
 by_cases he:val a=val (p j).1
 ·have hjn:j+1<n:=by
   refine Classical.byContradiction fun hno=>?_
   have:j=n-1:=by omega
   rw[this,f1] at he;grind
  exact⟨j,hjn,by grind,by have:=h.xlt (show j<j+1 by omega) hjn;grind⟩
 cases j with
 | zero=>rw[f0] at hi he;grind
 | succ j=>exact⟨j,hlt,by have:=(ytb (yic (h.xr (by omega))) (yic hr)).1 (hj.bef j (by omega));grind,by grind⟩
def NoCut (cuts:List Rt) (a b:Rt):Prop:=∀ c∈cuts,¬ (val a<val c/\val c<val b)
theorem yab1 (hw:Ways n p) {m:Nat} (hm:m+1<n):0<((wayOf p m:Int):Rat)*dy p m:=by
 rcases hw m hm with⟨e,d⟩ | ⟨e,d⟩
 ·rw[e];grind
 rw[e];grind
theorem yxi1 (h:Curve n p) (hw:Ways n p) {a b u v:Rt} {ma mb i j:Nat} (ha:isUnit a=true) (hb:isUnit b=true) (hma:ma+1<n) (hmb:mb+1<n) (oa:OnP p ma a u) (ob:OnP p mb b v) (hab:val a<val b) (hno:NoCut (cutsT n p) a b)
  (hi:i+1<n) (i1:val (p i).1<=val a) (i2:val a<val (p (i+1)).1) (hj:j+1<n) (j1:val (p j).1<val b) (j2:val b<=val (p (j+1)).1):0<((wayOf p i:Int):Rat)*(val v-val u)/\0<((wayOf p j:Int):Rat)*(val v-val u):=by
 have hij:i<=j:=by
  refine Classical.byContradiction fun hn=>?_
  by_cases he:j+1=i
  ·rw[he] at j2;grind
  have:=h.xlt (show j+1<i by omega) (by omega);grind
 obtain⟨k,rfl⟩:∃ k,j=i+k:=⟨j-i,by omega⟩
 have hsame:∀ m,m<=k->wayOf p (i+m)=wayOf p i:=by
  intro m;induction m with
  | zero=>intro _;rfl
  | succ m ih =>
   intro hm;rw[← ih (by omega)];refine Classical.byContradiction fun hne=>?_
   have hc:(p (i+(m+1))).1∈cutsT n p:=List.mem_map.2 ⟨i+(m+1),tnL_mem.2 ⟨by omega,by omega,by rw[show i+(m+1)-1=i+m by omega];exact fun he=>hne he.symm⟩,rfl⟩
   have c1:val a<val (p (i+(m+1))).1:=by
    by_cases h0:m=0
    ·subst h0;exact i2
    have:=h.xlt (show i+1<i+(m+1) by omega) (by omega);grind
   have c2:val (p (i+(m+1))).1<val b:=by
    by_cases h0:m+1=k
    ·rw[h0];exact j1
    have:=h.xlt (show i+(m+1)<i+k by omega) (by omega);grind
   exact hno _ hc ⟨c1,c2⟩
 have oa':=yfy h hi hma oa i1 (by grind)
 have ob':=yfy h hj hmb ob (by grind) j2
 have key:=ybb2 h (σ:=((wayOf p i:Int):Rat)) oa' k hj ob' hab (fun m h1 h2=>by
  obtain⟨q,rfl⟩:∃ q,m=i+q:=⟨m-i,by omega⟩
  rw[← hsame q (by omega)];exact yab1 hw (by omega))
 exact⟨key,by rw[hsame k (Nat.le_refl _)];exact key⟩
end
end Go.PV

/-
 Plain laws: the way through the cuts,and the values on it.
 Conditions: none.
-/
set_option linter.all false
namespace Go.PV
inductive Gd (S:Rt->Rt->Prop) (T:Rt->Rt->Rt->Prop):List Rt->Prop
 | one (x:Rt):Gd S T [x]
 | two (x y:Rt):S x y->Gd S T [x,y]
 | more (W:List Rt) (x y z:Rt):Gd S T (W++[x,y])->S y z->T x y z->Gd S T (W++[x,y,z])
def Ix (S:Rt->Rt->Prop) (T:Rt->Rt->Rt->Prop) (l:List Rt):Prop :=
 (∀ i,i+1<l.length->S (l.getD i default) (l.getD (i+1) default))/\∀ i,i+2<l.length->T (l.getD i default) (l.getD (i+1) default) (l.getD (i+2) default)
def Lt (ρ:Rat) (a b:Rt):Prop:=0<ρ*(val b-val a)
theorem lt_pos {a b:Rt}:Lt 1 a b↔val a<val b:=by unfold Lt;grind
theorem lt_neg {a b:Rt}:Lt (-1) a b↔val b<val a:=by unfold Lt;grind
theorem Lt.trans {ρ:Rat} {a b c:Rt} (h1:Lt ρ a b) (h2:Lt ρ b c):Lt ρ a c:=by unfold Lt at *;grind
theorem Lt.irr {ρ:Rat} {a:Rt} (h:Lt ρ a a):False:=by unfold Lt at h;grind
def Tu (u a b:Rt):Prop:=(val a<val u/\val a<val b)\/(val u<val a/\val b<val a)
section
variable {cuts:List Rt}
def Seg (cuts:List Rt) (a b:Rt):Prop:=(val a<val b/\NoCut cuts a b)\/(val b<val a/\NoCut cuts b a)
def Tri (cuts:List Rt) (u a b:Rt):Prop:=Tu u a b\/(a∈cuts/\((val u<val a/\val a<val b)\/(val b<val a/\val a<val u)))
theorem yyi1 (hc:∀ x∈cuts,isUnit x=true) (hs:cuts.Pairwise (Lt 1)) {ρ:Rat} (hr:ρ=1\/ρ = -1) {a b:Rt} (ha:isUnit a=true) (hb:isUnit b=true) (hab:Lt ρ a b):(btw cuts a b).Pairwise (Lt ρ)/\(∀ c∈btw cuts a b,c∈cuts/\Lt ρ a c/\Lt ρ c b)/\(∀ c∈cuts,Lt ρ a c->Lt ρ c b->c∈btw cuts a b):=by
 have pa:=yic (ymd ha)
 have pb:=yic (ymd hb)
 have pc:∀ x∈cuts,0<x.2:=fun x hx=>yic (ymd (hc x hx))
 unfold btw
 rcases hr with rfl | rfl
 ·have h1:=lt_pos.1 hab
  have h2:less b a=false:=(yvf pb pa).2 (by grind)
  simp only[h2,Bool.false_eq_true,if_false];refine⟨hs.filter _,fun c hcm=>?_,fun c hcm h3 h4=>?_⟩
  ·obtain⟨m1,m2⟩:=List.mem_filter.1 hcm
   rw[Bool.and_eq_true] at m2;exact⟨m1,lt_pos.2 ((ytb pa (pc c m1)).1 m2.1),lt_pos.2 ((ytb (pc c m1) pb).1 m2.2)⟩
  refine List.mem_filter.2 ⟨hcm,?_⟩
  rw[Bool.and_eq_true];exact⟨(ytb pa (pc c hcm)).2 (lt_pos.1 h3),(ytb (pc c hcm) pb).2 (lt_pos.1 h4)⟩
 have h1:=lt_neg.1 hab
 have h2:less b a=true:=(ytb pb pa).2 h1
 simp only[h2,if_true]
 refine⟨?_,fun c hcm=>?_,fun c hcm h3 h4=>?_⟩
 ·rw[List.pairwise_reverse]
  exact(hs.filter _).imp fun h=>lt_neg.2 (lt_pos.1 h)
 ·obtain⟨m1,m2⟩:=List.mem_filter.1 (List.mem_reverse.1 hcm)
  rw[Bool.and_eq_true] at m2;exact⟨m1,lt_neg.2 ((ytb (pc c m1) pa).1 m2.2),lt_neg.2 ((ytb pb (pc c m1)).1 m2.1)⟩
 refine List.mem_reverse.2 (List.mem_filter.2 ⟨hcm,?_⟩)
 rw[Bool.and_eq_true]
 exact⟨(ytb pb (pc c hcm)).2 (lt_neg.1 h4),(ytb (pc c hcm) pa).2 (lt_neg.1 h3)⟩
theorem ydn1 {a b:Rt} (h:val a≠val b):∃ ρ:Rat,(ρ=1\/ρ = -1)/\Lt ρ a b:=by
 by_cases h1:val a<val b
 ·exact⟨1,.inl rfl,lt_pos.2 h1⟩
 exact⟨-1,.inr rfl,lt_neg.2 (by grind)⟩
end
section
variable {n:Nat} {p:Nat->Pt}
theorem yox (h:Curve n p) (hw:Ways n p) {a b u v:Rt} (ha:isUnit a=true) (hb:isUnit b=true) (hu:atQ n p a=some u) (hv:atQ n p b=some v) (hs:Seg (cutsT n p) a b) :
  (val a<val b->(∀ i,i+1<n->val (p i).1<=val a->val a<val (p (i+1)).1->0<((wayOf p i:Int):Rat)*(val v-val u))/\(∀ j,j+1<n->val (p j).1<val b->val b<=val (p (j+1)).1->0<((wayOf p j:Int):Rat)*(val v-val u))) /\
  (val b<val a->(∀ i,i+1<n->val (p i).1<=val b->val b<val (p (i+1)).1->0<((wayOf p i:Int):Rat)*(val u-val v))/\(∀ j,j+1<n->val (p j).1<val a->val a<=val (p (j+1)).1->0<((wayOf p j:Int):Rat)*(val u-val v))):=by
 have ra:=(yne (ymd ha)).1 ha
 have rb:=(yne (ymd hb)).1 hb
 obtain⟨ka,hka⟩:=yao1 h ha
 obtain⟨kb,hkb⟩:=yao1 h hb
 obtain⟨a1,a2⟩:=yzm1 h ha hka hu
 obtain⟨b1,b2⟩:=yzm1 h hb hkb hv
 constructor
 ·intro hab
  have hno:NoCut (cutsT n p) a b:=by
   rcases hs with⟨_,hn⟩ | ⟨hlt,_⟩
   ·exact hn
   grind
  obtain⟨j0,hj0,j1,j2⟩:=yzf1 h hb (by grind)
  obtain⟨i0,hi0,i1,i2⟩:=yus h ha (by grind)
  exact⟨fun i hi x1 x2=>(yxi1 h hw ha hb a1 b1 a2 b2 hab hno hi x1 x2 hj0 j1 j2).1,fun j hj x1 x2=>(yxi1 h hw ha hb a1 b1 a2 b2 hab hno hi0 i1 i2 hj x1 x2).2⟩
 intro hab
 have hno:NoCut (cutsT n p) b a:=by
  rcases hs with⟨hlt,_⟩ | ⟨_,hn⟩
  ·grind
  exact hn
 obtain⟨j0,hj0,j1,j2⟩:=yzf1 h ha (by grind)
 obtain⟨i0,hi0,i1,i2⟩:=yus h hb (by grind)
 exact⟨fun i hi x1 x2=>(yxi1 h hw hb ha b1 a1 b2 a2 hab hno hi x1 x2 hj0 j1 j2).1,fun j hj x1 x2=>(yxi1 h hw hb ha b1 a1 b2 a2 hab hno hi0 i1 i2 hj x1 x2).2⟩
theorem yla2 (h:Curve n p) (hw:Ways n p) {a b u v:Rt} (ha:isUnit a=true) (hb:isUnit b=true) (hu:atQ n p a=some u) (hv:atQ n p b=some v) (hs:Seg (cutsT n p) a b):val u≠val v:=by
 have ra:=(yne (ymd ha)).1 ha
 have rb:=(yne (ymd hb)).1 hb
 obtain⟨s1,s2⟩:=yox h hw ha hb hu hv hs
 intro he
 by_cases hab:val a<val b
 ·obtain⟨i,hi,i1,i2⟩:=yus h ha (by grind)
  have:=(s1 hab).1 i hi i1 i2
  grind
 have hba:val b<val a:=by rcases hs with⟨h1,_⟩ | ⟨h1,_⟩ <;> grind
 obtain⟨i,hi,i1,i2⟩:=yus h hb (by grind)
 have:=(s2 hba).1 i hi i1 i2
 grind
theorem yty1 {ρ:Rat} {a b c:Rat} (h1:0<ρ*(a-b)) (h2:0<ρ*(c-b)):(b<a/\b<c)\/(a<b/\c<b):=by
 have neg:∀ {x:Rat},0<ρ*x->(0<ρ->0<x)/\(ρ<0->x<0):=by
  intro x hx;constructor
  ·intro hr
   refine Classical.byContradiction fun hno=>?_
   have:=Rat.mul_nonneg (show 0<=ρ by grind) (show 0 <= -x by grind)
   grind
  intro hr;refine Classical.byContradiction fun hno=>?_
  have:=Rat.mul_nonneg (show 0 <= -ρ by grind) (show 0<=x by grind)
  grind
 by_cases hr:0<ρ
 ·have x1:=(neg h1).1 hr
  have x2:=(neg h2).1 hr
  left;constructor <;> grind
 have hr':ρ<0:=by
  by_cases h0:ρ=0
  ·subst h0;grind
  grind
 have x1:=(neg h1).2 hr'
 have x2:=(neg h2).2 hr'
 right;constructor <;> grind
theorem yfu1 (h:Curve n p) (hw:Ways n p) {a b c u v w:Rt} (ha:isUnit a=true) (hb:isUnit b=true) (hc:isUnit c=true) (hu:atQ n p a=some u) (hv:atQ n p b=some v) (hww:atQ n p c=some w) (hs:Seg (cutsT n p) a b) (hs':Seg (cutsT n p) b c) (ht:Tri (cutsT n p) a b c):Tu u v w:=by
 have ra:=(yne (ymd ha)).1 ha
 have rb:=(yne (ymd hb)).1 hb
 have rc:=(yne (ymd hc)).1 hc
 obtain⟨s1,s2⟩:=yox h hw ha hb hu hv hs
 obtain⟨t1,t2⟩:=yox h hw hb hc hv hww hs'
 rcases ht with(⟨x1,x2⟩ | ⟨x1,x2⟩) | ⟨hm,hx⟩
 ·obtain⟨i,hi,i1,i2⟩:=yus h hb (by grind)
  exact yty1 ((s2 x1).1 i hi i1 i2) ((t1 x2).1 i hi i1 i2)
 ·obtain⟨j,hj,j1,j2⟩:=yzf1 h hb (by grind)
  have y1:=(s1 x1).2 j hj j1 j2
  have y2:=(t2 x2).2 j hj j1 j2
  exact yty1 (ρ := -((wayOf p j:Int):Rat)) (by grind) (by grind)
 obtain⟨m,hm1,rfl⟩:=List.mem_map.1 hm
 obtain⟨m1,m2,m3⟩:=tnL_mem.1 hm1
 have hn:=h.lo
 have hmn:m+1<n:=by omega
 have l1:=h.xlt (show m-1<m by omega) (by omega)
 have l2:=h.xlt (show m<m+1 by omega) hmn
 have e:m-1+1=m:=by omega
 have hopp:((wayOf p (m-1):Int):Rat) = -((wayOf p m:Int):Rat):=by
  rcases hw (m-1) (by omega) with⟨q1,_⟩ | ⟨q1,_⟩ <;> rcases hw m hmn with⟨q2,_⟩ | ⟨q2,_⟩
  ·exact absurd (q1.trans q2.symm) m3
  ·rw[q1,q2];grind
  ·rw[q1,q2];grind
  exact absurd (q1.trans q2.symm) m3
 rcases hx with⟨x1,x2⟩ | ⟨x1,x2⟩
 ·have y1:=(s1 x1).2 (m-1) (by omega) l1 (by rw[e];exact Rat.le_refl)
  have y2:=(t1 x2).1 m hmn Rat.le_refl l2
  rw[hopp] at y1;exact yty1 (ρ:=((wayOf p m:Int):Rat)) (by grind) y2
 have y1:=(s2 x2).1 m hmn Rat.le_refl l2
 have y2:=(t2 x1).2 (m-1) (by omega) l1 (by rw[e];exact Rat.le_refl)
 rw[hopp] at y2
 exact yty1 (ρ:=((wayOf p m:Int):Rat)) y1 (by grind)
def Alt (l:List Rt):Prop:=(∀ i,i+1<l.length->val (l.getD i default)≠val (l.getD (i+1) default))/\∀ i,i+2<l.length->Tu (l.getD i default) (l.getD (i+1) default) (l.getD (i+2) default)
theorem yvx1 (h:Curve n p):(cutsT n p).Pairwise (Lt 1):=by
 unfold cutsT
 rw[List.pairwise_map]
 refine List.Pairwise.imp_of_mem ?_ (yka2 (wayOf p) (n-2))
 intro a b ha hb hab
 have h1:=tnL_mem.1 ha
 have h2:=tnL_mem.1 hb
 have:=h.lo
 exact lt_pos.2 (h.xlt hab (by omega))
end
end Go.PV

/-
 Plain laws: the turning values of a sequence,held as a stack.
 Conditions: none.
-/
set_option linter.all false
namespace Go.PV
def Md (a z v:Rt):Prop:=(val a<val z/\val z<val v)\/(val v<val z/\val z<val a)
instance (a z v:Rt):Decidable (Md a z v):=by unfold Md;infer_instance
def push:List Rt->Rt->List Rt
 | z::a::s,v=>if Md a z v then v::a::s else v::z::a::s
 | [z],v=>[v,z]
 | [],v=>[v]
def tq (r:Nat->Rt):Nat->List Rt
 | 0=>[]
 | k+1=>push (tq r k) (r k)
theorem ygu1 (s:List Rt) (v:Rt):∃ s',push s v=v::s':=by
 match s with
 | []=>exact⟨_,rfl⟩
 | [z]=>exact⟨_,rfl⟩
 | z::a::s =>
  simp only[push];split <;> exact⟨_,rfl⟩
theorem ywx1 (r:Nat->Rt) (k:Nat):∃ s,tq r (k+1)=r k::s:=ygu1 _ _
theorem ybq1 {ρ:Rat} (hr:ρ=1\/ρ = -1) {b z v:Rt} (s:List Rt) (h1:Lt ρ b z) (h2:Lt ρ z v):push (push (b::s) z) v=push (b::s) v:=by
 have mbz:Md b z v:=by unfold Md;rcases hr with rfl | rfl <;> simp only[lt_pos,lt_neg] at h1 h2 <;> grind
 cases s with
 | nil=>simp only[push,if_pos mbz]
 | cons a s =>
  by_cases h:Md a b z
  ·have h3:Md a z v:=by unfold Md at h ⊢;rcases hr with rfl | rfl <;> simp only[lt_pos,lt_neg] at h1 h2 <;> grind
   have h4:Md a b v:=by unfold Md at h ⊢;rcases hr with rfl | rfl <;> simp only[lt_pos,lt_neg] at h1 h2 <;> grind
   simp only[push,if_pos h,if_pos h3,if_pos h4]
  have h4:¬ Md a b v:=by unfold Md at h ⊢;rcases hr with rfl | rfl <;> simp only[lt_pos,lt_neg] at h1 h2 <;> grind
  simp only[push,if_neg h,if_pos mbz,if_neg h4]
theorem yen1 {z b:Nat->Rt} {K:Nat} (R:Nat->Nat->Prop) (h0:R 0 0) (hs:∀ j i,j+1<K->R j i->(z j=b i/\R (j+1) (i+1))\/(1<=i/\R (j+1) i/\∃ ρ:Rat,(ρ=1\/ρ = -1)/\Lt ρ (b (i-1)) (z j)/\Lt ρ (z j) (z (j+1)))) :
  ∀ j,j<K->∃ i,R j i/\tq z (j+1)=push (tq b i) (z j)
 | 0,h=>⟨0,h0,rfl⟩
 | j+1,h=>by
  obtain⟨i,h1,h2⟩:=yen1 R h0 hs j (by omega)
  rcases hs j i h h1 with⟨e,h3⟩ | ⟨h3,h4,ρ,hr,h5,h6⟩
  ·refine⟨i+1,h3,?_⟩
   show push (tq z (j+1)) (z (j+1))=push (push (tq b i) (b i)) (z (j+1))
   rw[h2,e]
  refine⟨i,h4,?_⟩
  show push (tq z (j+1)) (z (j+1))=_
  rw[h2];obtain⟨s,hs'⟩:=ywx1 b (i-1)
  rw[show i-1+1=i from by omega] at hs'
  rw[hs'];exact ybq1 hr s h5 h6
theorem yfn1 {n:Nat} {p:Nat->Pt} (hw:Ways n p):∀ i,i+2<=n->∃ W a,0::tnL (wayOf p) i=W++[a]/\tq (fun m=>(p m).2) (i+2)=(p (i+1)).2::(p a).2::(W.map fun m=>(p m).2).reverse/\0<((wayOf p i:Int):Rat)*(val (p (i+1)).2-val (p a).2)
 | 0,h=>⟨[],0,rfl,rfl,yab1 hw (by omega)⟩
 | i+1,h=>by
  obtain⟨W,a,h1,h2,h4⟩:=yfn1 hw i (by omega)
  have hs:=yqh1 (wayOf p) i
  have h5:=yab1 hw (m:=i+1) (by omega)
  unfold dy at h5;have hstep:tq (fun m=>(p m).2) (i+1+2)=push (tq (fun m=>(p m).2) (i+2)) (p (i+2)).2:=rfl
  have h1':((wayOf p i:Int):Rat)=1\/((wayOf p i:Int):Rat) = -1:=by
   rcases hw i (by omega) with h | h
   ·left;rw[h.1];rfl
   right;rw[h.1];rfl
  by_cases ht:(wayOf p i != wayOf p (i+1))=true
  ·rw[if_pos ht] at hs
   refine⟨W++[a],i+1,by rw[hs,← h1];simp,?_,h5⟩
   have hneg:((wayOf p (i+1):Int):Rat) = - ((wayOf p i:Int):Rat):=by
    have hne:wayOf p i≠wayOf p (i+1):=by simpa using ht
    rcases hw i (by omega) with h | h <;> rcases hw (i+1) (by omega) with h' | h'
    ·exact absurd (h.1.trans h'.1.symm) hne
    ·rw[h.1,h'.1];rfl
    ·rw[h.1,h'.1];rfl
    exact absurd (h.1.trans h'.1.symm) hne
   rw[hneg] at h5;rw[hstep,h2];have hm:¬ Md (p a).2 (p (i+1)).2 (p (i+2)).2:=by
    unfold Md;rcases h1' with h | h <;> rw[h] at h4 h5 <;> grind
   simp only[push,if_neg hm];simp
  rw[if_neg ht,List.append_nil] at hs;have hq:wayOf p i=wayOf p (i+1):=by simpa using ht
  rw[hq] at h4 h1'
  refine⟨W,a,by rw[hs,h1],?_,by grind⟩
  rw[hstep,h2];have hm:Md (p a).2 (p (i+1)).2 (p (i+2)).2:=by
   unfold Md;rcases h1' with h | h <;> rw[h] at h4 h5 <;> grind
  simp only[push,if_pos hm]
theorem yma2 {n:Nat} {p:Nat->Pt} (hw:Ways n p) (h2:2<=n):(tq (fun m=>(p m).2) n).length=(lapsT n p).length+1:=by
 obtain⟨W,a,h1,e,_⟩:=yfn1 hw (n-2) (by omega)
 rw[show n-2+2=n from by omega] at e
 have hst:(lapsT n p).map (fun t=>t.1)=0::tnL (wayOf p) (n-2):=by
  have:=(ynx (wayOf p) (n-2)).1
  rw[show n-2+1=n-1 from by omega] at this;exact this
 have:=congrArg List.length hst
 rw[h1,List.length_map,List.length_append,List.length_singleton] at this
 rw[e]
 simp
 omega
def epush (T:List Rt):List Rt->Rt->List Rt
 | z::a::s,v=>if Md a z v/\z∉T then v::a::s else v::z::a::s
 | [z],v=>[v,z]
 | [],v=>[v]
def esT (T:List Rt) (r:Nat->Rt):Nat->List Rt
 | 0=>[]
 | k+1=>epush T (esT T r k) (r k)
def wS (T:List Rt):List Rt->List Rt
 | z::a::s=>z::((btw T a z).reverse++wS T (a::s))
 | [z]=>[z]
 | []=>[]
theorem yna2 (T:List Rt) (a:Rt) (s:List Rt):∃ s',wS T (a::s)=a::s':=by
 cases s with
 | nil=>exact⟨_,rfl⟩
 | cons b s=>exact⟨_,rfl⟩
theorem yyr1 {ρ:Rat}:∀ {l m:List Rt},l.Pairwise (Lt ρ)->m.Pairwise (Lt ρ)->(∀ x,x∈l↔x∈m)->l=m
 | [],m,_,_,h=>by
  cases m with
  | nil=>rfl
  | cons x m=>exact absurd ((h x).2 (by simp)) (by simp)
 | x::l,m,h1,h2,h=>by
  cases m with
  | nil=>exact absurd ((h x).1 (by simp)) (by simp)
  | cons y m =>
   obtain⟨a1,a2⟩:=List.pairwise_cons.1 h1;obtain⟨b1,b2⟩:=List.pairwise_cons.1 h2;have hxy:x=y:=by
    rcases List.mem_cons.1 ((h x).1 (by simp)) with e | hm
    ·exact e
    rcases List.mem_cons.1 ((h y).2 (by simp)) with e | hl
    ·exact e.symm
    exact(((b1 x hm).trans (a1 y hl)).irr).elim
   subst hxy;congr 1
   refine yyr1 a2 b2 fun z=>⟨fun hz=>?_,fun hz=>?_⟩
   ·rcases List.mem_cons.1 ((h z).1 (by simp[hz])) with e | hm
    ·subst e;exact(a1 _ hz).irr.elim
    exact hm
   rcases List.mem_cons.1 ((h z).2 (by simp[hz])) with e | hm
   ·subst e;exact(b1 _ hz).irr.elim
   exact hm
theorem yxj1 {T:List Rt} {a b:Rt} {ρ:Rat} (hr:ρ=1\/ρ = -1) (hs:Seg T a b) (h:Lt ρ a b) {c:Rt} (hc:c∈T):¬ (Lt ρ a c/\Lt ρ c b):=by
 rcases hr with rfl | rfl
 ·rw[lt_pos] at h
  rw[lt_pos,lt_pos];rcases hs with⟨_,h2⟩ | ⟨h1,_⟩
  ·exact h2 c hc
  exact absurd h (by grind)
 rw[lt_neg] at h
 rw[lt_neg,lt_neg]
 rcases hs with⟨h1,_⟩ | ⟨_,h2⟩
 ·exact absurd h (by grind)
 exact fun hh=>h2 c hc ⟨hh.2,hh.1⟩
theorem yyj1 {T:List Rt} (hc:∀ x∈T,isUnit x=true) (hs:T.Pairwise (Lt 1)) {a b:Rt} (ha:isUnit a=true) (hb:isUnit b=true) (h:Seg T a b):btw T a b=[]:=by
 have hne:val a≠val b:=by rcases h with h | h <;> grind
 obtain⟨ρ,hr,hl⟩:=ydn1 hne
 obtain⟨_,h2,_⟩:=yyi1 hc hs hr ha hb hl
 exact List.eq_nil_iff_forall_not_mem.2 fun c hcm=>by
  obtain⟨g1,g2,g3⟩:=h2 c hcm;exact yxj1 hr h hl g1 ⟨g2,g3⟩
theorem yhu1 {T:List Rt} (hc:∀ x∈T,isUnit x=true) (hs:T.Pairwise (Lt 1)) {ρ:Rat} (hr:ρ=1\/ρ = -1) {a z v:Rt} (ha:isUnit a=true) (hz:isUnit z=true) (hv:isUnit v=true) (h1:Lt ρ a z) (h2:Lt ρ z v) (hsg:Seg T z v):btw T a v=btw T a z++if z∈T then[z] else[]:=by
 obtain⟨p1,p2,p3⟩:=yyi1 hc hs hr ha hv (h1.trans h2)
 obtain⟨q1,q2,q3⟩:=yyi1 hc hs hr ha hz h1
 refine yyr1 p1 ?_ fun x=>⟨fun hx=>?_,fun hx=>?_⟩
 ·rw[List.pairwise_append]
  refine⟨q1,by split <;> simp,fun x hx y hy=>?_⟩
  split at hy
  ·rw[List.mem_singleton.1 hy];exact(q2 x hx).2.2
  cases hy
 ·obtain⟨g1,g2,g3⟩:=p2 x hx
  rw[List.mem_append];by_cases hxz:val x=val z
  ·right
   have:x=z:=yvi1 (ymd (hc x g1)) (ymd hz) hxz
   subst this;simp[g1]
  left
  refine q3 x g1 g2 ?_
  rcases Classical.em (Lt ρ x z) with h | h
  ·exact h
  refine absurd ⟨?_,g3⟩ (yxj1 hr hsg h2 g1)
  unfold Lt at h ⊢
  rcases hr with rfl | rfl <;> grind
 rcases List.mem_append.1 hx with hx | hx
 ·obtain⟨g1,g2,g3⟩:=q2 x hx
  exact p3 x g1 g2 (g3.trans h2)
 split at hx
 ·rename_i hzT
  rw[List.mem_singleton.1 hx];exact p3 z hzT h1 h2
 cases hx
end Go.PV

/-
 Plain laws: a sequence's turning values and its cuts make the way;a strict map carries them to the turning values of what it makes of the sequence.
 Conditions: none.
-/
set_option linter.all false
namespace Go.PV
theorem yiu1 {T:List Rt} (hc:∀ x∈T,isUnit x=true) (hs:T.Pairwise (Lt 1)) {a z:Rt} (ha:isUnit a=true) (hz:isUnit z=true) (hne:val a≠val z) (s:List Rt) :
  ∃ a' s',(btw T a z).reverse++wS T (a::s)=a'::s'/\∀ v,Md a' z v↔Md a z v:=by
 obtain⟨ρ,hr,hl⟩:=ydn1 hne
 obtain⟨_,h2,_⟩:=yyi1 hc hs hr ha hz hl
 cases hb:(btw T a z).reverse with
 | nil =>
  obtain⟨s',e⟩:=yna2 T a s;exact⟨a,s',by rw[e];rfl,fun v=>Iff.rfl⟩
 | cons c l =>
  have hcm:c∈btw T a z:=by rw[← List.mem_reverse,hb];simp
  obtain⟨g1,g2,g3⟩:=h2 c hcm;refine⟨c,l++wS T (a::s),rfl,fun v=>?_⟩
  unfold Md;rcases hr with rfl | rfl <;> simp only[lt_pos,lt_neg] at hl g2 g3 <;> grind
theorem yxx1 {T:List Rt} (hc:∀ x∈T,isUnit x=true) (hs:T.Pairwise (Lt 1)) {z:Nat->Rt}:∀ j,(∀ i,i<=j->isUnit (z i)=true)->(∀ i,i+1<=j->Seg T (z i) (z (i+1)))->esT T z (j+1)=wS T (tq z (j+1))/\(∀ x∈tq z (j+1),isUnit x=true)/\∀ a s,tq z (j+1)=z j::a::s->val a≠val (z j)
 | 0,hu,_=>⟨rfl,fun x hx=>by rw[show tq z (0+1)=[z 0] from rfl] at hx;rw[List.mem_singleton.1 hx];exact hu 0 (Nat.le_refl _),fun a s e=>by cases e⟩
 | j+1,hu,hg=>by
  obtain⟨h1,h2,h3⟩:=yxx1 hc hs j (fun i hi=>hu i (by omega)) (fun i hi=>hg i (by omega))
  have hv:=hu (j+1) (Nat.le_refl _)
  have hzj:=hu j (by omega)
  have hsg:=hg j (Nat.le_refl _)
  have hzv:val (z j)≠val (z (j+1)):=by rcases hsg with h | h <;> grind
  have e1:esT T z (j+1+1)=epush T (esT T z (j+1)) (z (j+1)):=rfl
  have e2:tq z (j+1+1)=push (tq z (j+1)) (z (j+1)):=rfl
  obtain⟨s,hst⟩:=ywx1 z j;rw[e1,e2,h1,hst];rw[hst] at h2;have hnil:=yyj1 hc hs hzj hv hsg;cases s with
  | nil =>
   refine⟨?_,fun x hx=>?_,fun a s e=>?_⟩
   ·show[z (j+1),z j]=z (j+1)::((btw T (z j) (z (j+1))).reverse++[z j])
    rw[hnil];rfl
   ·have hx:x∈[z (j+1),z j]:=hx
    rcases List.mem_cons.1 hx with rfl | hx
    ·exact hv
    rw[List.mem_singleton.1 hx];exact hzj
   have e:[z (j+1),z j]=z (j+1)::a::s:=e
   simp at e
   rw[← e.1];exact hzv
  | cons a s =>
   have ha:=h2 a (by simp)
   have hne:=h3 a s hst;obtain⟨a',s',w1,w2⟩:=yiu1 hc hs ha hzj hne s;have hE:wS T (z j::a::s)=z j::a'::s':=by show z j::((btw T a (z j)).reverse++wS T (a::s))=_;rw[w1]
   rw[hE];by_cases hm:Md a (z j) (z (j+1))
   ·have hp:push (z j::a::s) (z (j+1))=z (j+1)::a::s:=by simp only[push,if_pos hm]
    rw[hp];refine⟨?_,fun x hx=>?_,fun b t e=>?_⟩
    ·have hdir:∃ ρ:Rat,(ρ=1\/ρ = -1)/\Lt ρ a (z j)/\Lt ρ (z j) (z (j+1)):=by
      rcases hm with h | h
      ·exact⟨1,.inl rfl,lt_pos.2 h.1,lt_pos.2 h.2⟩
      exact⟨-1,.inr rfl,lt_neg.2 h.2,lt_neg.2 h.1⟩
     obtain⟨ρ,hr,d1,d2⟩:=hdir;have hb:=yhu1 hc hs hr ha hzj hv d1 d2 hsg;show epush T (z j::a'::s') (z (j+1))=z (j+1)::((btw T a (z (j+1))).reverse++wS T (a::s))
     rw[hb,List.reverse_append,List.append_assoc,w1];by_cases hT:z j∈T
     ·rw[if_pos hT]
      simp only[epush,if_neg (show ¬ (Md a' (z j) (z (j+1))/\z j∉T) from fun h=>h.2 hT)];rfl
     rw[if_neg hT];simp only[epush,if_pos (show Md a' (z j) (z (j+1))/\z j∉T from⟨(w2 _).2 hm,hT⟩)];rfl
    ·rcases List.mem_cons.1 hx with rfl | hx
     ·exact hv
     exact h2 x (by simp[List.mem_cons.1 hx])
    simp only[List.cons.injEq,true_and] at e;rw[← e.1];rcases hm with h | h <;> grind
   have hp:push (z j::a::s) (z (j+1))=z (j+1)::z j::a::s:=by simp only[push,if_neg hm]
   rw[hp];refine⟨?_,fun x hx=>?_,fun b t e=>?_⟩
   ·simp only[epush,if_neg (show ¬ (Md a' (z j) (z (j+1))/\z j∉T) from fun h=>hm ((w2 _).1 h.1))]
    show _=z (j+1)::((btw T (z j) (z (j+1))).reverse++wS T (z j::a::s))
    rw[hnil,hE];rfl
   ·rcases List.mem_cons.1 hx with rfl | hx
    ·exact hv
    exact h2 x hx
   simp only[List.cons.injEq,true_and] at e;rw[← e.1];exact hzv
def stk (e:Nat->Rt):Nat->List Rt
 | 0=>[e 0]
 | k+1=>e (k+1)::stk e k
theorem yyx1 (e:Nat->Rt) (k:Nat):∃ s,stk e k=e k::s:=by cases k <;> exact⟨_,rfl⟩
theorem yzx1 (T:List Rt) (e:Nat->Rt):∀ k,wayN T e k=(wS T (stk e k)).reverse
 | 0=>rfl
 | k+1=>by
  obtain⟨s,hs⟩:=yyx1 e k;have ih:=yzx1 T e k;simp only[wayN,stk];rw[hs] at ih ⊢
  show _=(e (k+1)::((btw T (e k) (e (k+1))).reverse++wS T (e k::s))).reverse
  rw[ih];simp
theorem yzr1 (L:List Rt):∀ k,k<L.length->stk (fun i=>L.getD i default) k=(L.take (k+1)).reverse
 | 0,h=>by
  cases L with
  | nil=>simp at h
  | cons a L=>simp[stk]
 | k+1,h=>by
  rw[List.take_add_one,List.reverse_append,← yzr1 L k (by omega)];simp[stk,List.getD_eq_getElem?_getD,List.getElem?_eq_getElem h]
inductive Val2 (n:Nat) (p:Nat->Pt):List Rt->List Rt->Prop
 | nil:Val2 n p [] []
 | cons {x v:Rt} {l m:List Rt}:atQ n p x=some v->Val2 n p l m->Val2 n p (x::l) (v::m)
section
variable {n:Nat} {p:Nat->Pt}
theorem yas1 (h:Curve n p) (hw:Ways n p) {z y:Nat->Rt}:∀ j,(∀ i,i<=j->isUnit (z i)=true)->(∀ i,i<=j->atQ n p (z i)=some (y i))->(∀ i,i+1<=j->Seg (cutsT n p) (z i) (z (i+1))) ->
  ∃ E' S',esT (cutsT n p) z (j+1)=z j::E'/\tq y (j+1)=y j::S'/\Val2 n p E' S'/\∀ a E'',E'=a::E''->isUnit a=true/\Seg (cutsT n p) a (z j)
 | 0,hu,hy,_=>⟨[],[],rfl,rfl,.nil,fun a E'' e=>by cases e⟩
 | j+1,hu,hy,hg=>by
  obtain⟨E',S',h1,h2,h3,h4⟩:=yas1 h hw j (fun i hi=>hu i (by omega)) (fun i hi=>hy i (by omega)) (fun i hi=>hg i (by omega))
  have hz:=hu j (by omega)
  have hv:=hu (j+1) (Nat.le_refl _)
  have yz:=hy j (by omega)
  have yv:=hy (j+1) (Nat.le_refl _)
  have hsg:=hg j (Nat.le_refl _)
  have e1:esT (cutsT n p) z (j+1+1)=epush (cutsT n p) (esT (cutsT n p) z (j+1)) (z (j+1)):=rfl
  have e2:tq y (j+1+1)=push (tq y (j+1)) (y (j+1)):=rfl
  rw[e1,e2,h1,h2];cases h3 with
  | nil=>exact⟨[z j],[y j],rfl,rfl,.cons yz .nil,fun a E'' e=>by simp at e;rw[← e.1];exact⟨hz,hsg⟩⟩
  | @cons a ya E'' S'' ha hrest =>
   obtain⟨ua,sa⟩:=h4 a E'' rfl
   by_cases hm:Md a (z j) (z (j+1))/\z j∉cutsT n p
   ·have hav:Seg (cutsT n p) a (z (j+1)):=by
     obtain⟨hm1,hm2⟩:=hm;have hzz:∀ c∈cutsT n p,val c≠val (z j):=fun c hc e=>hm2 (by
      have hcu:isRat c=true:=by
       obtain⟨m,hm,rfl⟩:=List.mem_map.1 hc;have:=tnL_mem.1 hm
       have:=h.lo
       exact h.xr (by omega)
      rw[← yvi1 hcu (ymd hz) e];exact hc)
     rcases hm1 with hm1 | hm1
     ·left
      refine⟨by grind,fun c hc hh=>?_⟩
      have s1:=yxj1 (.inl rfl) sa (lt_pos.2 hm1.1) hc
      have s2:=yxj1 (.inl rfl) hsg (lt_pos.2 hm1.2) hc
      simp only[lt_pos] at s1 s2;have:=hzz c hc
      grind
     right
     refine⟨by grind,fun c hc hh=>?_⟩
     have s1:=yxj1 (.inr rfl) sa (lt_neg.2 hm1.2) hc
     have s2:=yxj1 (.inr rfl) hsg (lt_neg.2 hm1.1) hc
     simp only[lt_neg] at s1 s2;have:=hzz c hc
     grind
    have hmy:Md ya (y j) (y (j+1)):=by
     have g1:=yox h hw ua hz ha yz sa;have g2:=yox h hw hz hv yz yv hsg;have g3:=yox h hw ua hv ha yv hav;have u1:=(yne (ymd ua)).1 ua
     have u2:=(yne (ymd hv)).1 hv
     rcases hm.1 with hm1 | hm1
     ·obtain⟨i,i1,i2,i3⟩:=yus h ua (by grind)
      obtain⟨k,k1,k2,k3⟩:=yzf1 h hv (by grind)
      have a1:=(g1.1 hm1.1).1 i i1 i2 i3
      have a2:=(g2.1 hm1.2).2 k k1 k2 k3
      have a3:=(g3.1 (by grind)).1 i i1 i2 i3
      have a4:=(g3.1 (by grind)).2 k k1 k2 k3
      unfold Md;rcases hw i i1 with⟨w1,_⟩ | ⟨w1,_⟩ <;> rcases hw k k1 with⟨w2,_⟩ | ⟨w2,_⟩ <;> simp only[w1,w2] at a1 a2 a3 a4 <;> grind
     obtain⟨i,i1,i2,i3⟩:=yus h hv (by grind)
     obtain⟨k,k1,k2,k3⟩:=yzf1 h ua (by grind)
     have a1:=(g1.2 hm1.2).2 k k1 k2 k3
     have a2:=(g2.2 hm1.1).1 i i1 i2 i3
     have a3:=(g3.2 (by grind)).1 i i1 i2 i3
     have a4:=(g3.2 (by grind)).2 k k1 k2 k3
     unfold Md;rcases hw i i1 with⟨w1,_⟩ | ⟨w1,_⟩ <;> rcases hw k k1 with⟨w2,_⟩ | ⟨w2,_⟩ <;> simp only[w1,w2] at a1 a2 a3 a4 <;> grind
    refine⟨a::E'',ya::S'',by simp only[epush,if_pos hm],by simp only[push,if_pos hmy],.cons ha hrest,fun b t e=>?_⟩
    simp only[List.cons.injEq] at e;rw[← e.1];exact⟨ua,hav⟩
   have hne1:val a≠val (z j):=by rcases sa with h | h <;> grind
   have hne2:val (z j)≠val (z (j+1)):=by rcases hsg with h | h <;> grind
   have htri:Tri (cutsT n p) a (z j) (z (j+1)):=by
    by_cases hm1:Md a (z j) (z (j+1))
    ·right
     have:z j∈cutsT n p:=Classical.byContradiction fun hh=>hm ⟨hm1,hh⟩
     exact⟨this,hm1⟩
    left
    unfold Md at hm1;unfold Tu;grind
   have htu:=yfu1 h hw ua hz hv ha yz yv sa hsg htri;have hmy:¬ Md ya (y j) (y (j+1)):=by
    unfold Tu at htu;unfold Md;grind
   refine⟨z j::a::E'',y j::ya::S'',by simp only[epush,if_neg hm],by simp only[push,if_neg hmy],.cons yz (.cons ha hrest),fun b t e=>?_⟩
   simp only[List.cons.injEq] at e;rw[← e.1];exact⟨hz,hsg⟩
end
end Go.PV

/-
 Plain laws: vectors of walks,bounds of growth.
 Conditions: none.
-/
set_option linter.all false
namespace Go.PV
def vk (G:Nat->Nat->Int) (n:Nat):Nat->Nat->Int
 | 0=>fun _=>1
 | k+1=>fun j=>dotN (G j) (vk G n k) n+vk G n k j
def mxg (G:Nat->Nat->Int) (n:Nat):Nat->Nat
 | 0=>0
 | k+1=>if mxg G n k=k/\isVec (tab n (vk G n (k+1)))=true then k+1 else mxg G n k
section
variable {n:Nat} {G:Nat->Nat->Int}
def bestT (G:Nat->Nat->Int) (n:Nat):(Int×Int)×(Int×Int)×Int×Bool:=(mnN (ratN G (vk G n (mxg G n 20)) n) n,mxN (ratN G (vk G n (mxg G n 20)) n) n,((mxg G n 20:Nat):Int),true)
end
end Go.PV

/-
 Plain laws: what draws from bytes always comes to an end.
 Conditions: none.
-/
set_option linter.all false
namespace Go.PV
def Tot {α:Type} (o:Option α) (P:α->Prop):Prop:=∃ r,o=some r/\P r
section
variable {α β:Type} {P:α->Prop} {Q:β->Prop}
theorem Tot.bind {o:Option α} {f:α->Option β} (h:Tot o P) (k:∀ r,P r->Tot (f r) Q):Tot (o.bind f) Q:=by
 obtain⟨r,rfl,hr⟩:=h
 exact k r hr
theorem Tot.mono {P':α->Prop} {o:Option α} (h:Tot o P) (k:∀ r,P r->P' r):Tot o P':=by
 obtain⟨r,h,hr⟩:=h
 exact⟨r,h,k r hr⟩
theorem Tot.ret {r:α} (h:P r):Tot (some r) P:=⟨r,rfl,h⟩
theorem Tot.ite {c:Bool} {x y:Option α} (h1:c=true->Tot x P) (h2:c=false->Tot y P):Tot (if c=true then x else y) P:=by
 cases c
 ·exact h2 rfl
 exact h1 rfl
theorem Tot.guard {p:Prop} [Decidable p] {f:Unit->Option α} (h:p) (k:Tot (f ()) P):Tot ((guardO p).bind f) P:=by
 rw[yea h];exact k
def Lp {X Y:Type} (I:X->Prop) (R:Y->Prop):X ⊕ Y->Prop
 | .inl x=>I x
 | .inr y=>R y
theorem Tot.inl {X Y:Type} {I:X->Prop} {R:Y->Prop} {x:X} (h:I x):Tot (some (Sum.inl x)) (Lp I R):=⟨_,rfl,h⟩
theorem Tot.inr {X Y:Type} {I:X->Prop} {R:Y->Prop} {y:Y} (h:R y):Tot (some (Sum.inr y)) (Lp I R):=⟨_,rfl,h⟩
theorem Tot.loop {X Y:Type} {body:X->Option (X ⊕ Y)} {R:Y->Prop} (Inv:X->Prop) (μ:X->Nat)
  (h:∀ x,Inv x->Tot (body x) (Lp (fun x'=>Inv x'/\μ x'<μ x) R)) (x0:X) (h0:Inv x0):Tot (loopO body x0) R:=by
 obtain⟨y,h1,h2⟩:=yqn (body:=body) Inv μ R (fun x hx=>by
  obtain⟨r,e,hr⟩:=h x hx;cases r with
  | inl x'=>exact .inl ⟨x',e,hr.1,hr.2⟩
  | inr y=>exact .inr ⟨y,e,hr⟩) x0 h0
 exact⟨y,h1,h2⟩
end
theorem Tot.idx {α β:Type} {xs:List α} {i:Int} {f:α->Option β} {Q:β->Prop} (h0:0<=i) (h1:i<xs.length) (k:∀ x,x∈xs->Tot (f x) Q):Tot ((idxO xs i).bind f) Q:=by
 obtain⟨m,rfl⟩:=Int.eq_ofNat_of_zero_le h0
 have hm:m<xs.length:=by omega
 rw[yno hm,Option.bind_some]
 exact k _ (List.getElem_mem hm)
abbrev Cur:=List Int×Int×Int
def Bytes (l:List Int):Prop:=l.length<=9223372036854775807/\∀ b∈l,0<=b/\b<=255
def Ck (B:Nat) (c:Cur):Prop:=Bytes c.1/\0<=c.2.1/\c.2.1<=B
theorem Ck.mono {B B':Nat} {c:Cur} (h:Ck B c) (hb:B<=B'):Ck B' c:=⟨h.1,h.2.1,by have:=h.2.2;omega⟩
theorem ck0 {l:List Int} (h:Bytes l):Ck 0 (l,0,0):=⟨h,by simp,by simp⟩
theorem yay1 (n:Int):IntKind.u64.wrap n=n % 18446744073709551616:=by simp[IntKind.wrap,IntKind.bits,IntKind.signed]
theorem ygn1 (n:Int):IntKind.wrap .i64 n=w64 n:=rfl
theorem yju1 (x:Int):0<=iand .u64 x 255/\iand .u64 x 255<=255:=by
 unfold iand
 have h:((BitVec.ofInt (IntKind.bits .u64) x) &&& (BitVec.ofInt (IntKind.bits .u64) 255)).toNat<=255:=by
  rw[BitVec.toNat_and];have:(BitVec.ofInt (IntKind.bits .u64) 255).toNat=255:=by decide
  rw[this];exact Nat.and_le_right
 rw[yay1,Int.emod_eq_of_lt (by omega) (by omega)]
 omega
theorem ybs1 {B:Nat} {c:Cur} (h:Ck B c) (hB:B<=1152921504606846976):Tot (ygh c) fun r=>(0<=r.1/\r.1<=255)/\Ck (B+1) r.2:=by
 obtain⟨⟨hl,hb⟩,h0,h1⟩:=h
 have hw:w64 (c.2.1+1)=c.2.1+1:=yzb (by omega) (by omega)
 have key:∀ x:Int,0<=x->x<=255->Tot (yzd c x) fun r=>(0<=r.1/\r.1<=255)/\Ck (B+1) r.2:=by
  intro x hx0 hx1;unfold yzd;rw[hw];refine Tot.ite (fun _=>Tot.ret ⟨⟨hx0,hx1⟩,⟨hl,hb⟩,by show 0<=c.2.1+1;omega,by show c.2.1+1<=_;omega⟩) (fun _=>Tot.ret ⟨?_,⟨hl,hb⟩,by show 0<=c.2.1+1;omega,by show c.2.1+1<=_;omega⟩)
  rw[ygn1];obtain⟨a,b⟩:=yju1 (ishr .u64 (IntKind.wrap .u64 ((IntKind.wrap .u64 ((IntKind.wrap .u64 (c.2.2*6364136223846793005))+(IntKind.wrap .u64 x)))+1442695040888963407)) 40)
  show 0<=w64 _/\w64 _<=255
  rw[yzb (by omega) (by omega)];exact⟨a,b⟩
 unfold ygh
 refine Tot.ite (fun hc=>?_) (fun _=>key 0 (by omega) (by omega))
 have hlt:c.2.1<(c.1.length:Int):=of_decide_eq_true hc
 refine Tot.idx h0 hlt fun x hx=>?_
 have:=hb x hx
 rw[ygn1,yzb (by omega) (by omega)]
 exact key x this.1 this.2
theorem yhn1 {x n:Int} (hx:0<=x) (hn:1<=n):0<=Int.tmod x n/\Int.tmod x n<n:=by
 obtain⟨a,rfl⟩:=Int.eq_ofNat_of_zero_le hx
 obtain⟨b,rfl⟩:=Int.eq_ofNat_of_zero_le (show 0<=n by omega)
 have:Int.tmod (a:Int) (b:Int)=((a % b:Nat):Int):=rfl
 rw[this]
 have:=Nat.mod_lt a (show b>0 by omega)
 omega
theorem yqq {B:Nat} {c:Cur} (h:Ck B c) (hB:B<=1000000000000000000) (n:Int):Tot (ybb c n) fun r=>(0<=r.1/\(1<=n->r.1<n))/\Ck (B+2) r.2:=by
 unfold ybb
 refine Tot.ite (fun hc=>Tot.ret ⟨⟨by show(0:Int)<=0;omega,fun h=>by show(0:Int)<n;omega⟩,h.mono (by omega)⟩) (fun hc=>?_)
 have hn:¬ n<=1:=of_decide_eq_false hc
 refine(ybs1 h (by omega)).bind fun v2 ⟨⟨h1,h2⟩,h3⟩=>?_
 refine Tot.ite (fun _=>?_) (fun _=>?_)
 ·refine(ybs1 h3 (by omega)).bind fun v6 ⟨⟨h4,h5⟩,h6⟩=>?_
  unfold yae;refine Tot.guard (by omega) (Tot.ret ?_)
  have e:w64 ((w64 (v2.1*256))+v6.1)=v2.1*256+v6.1:=by rw[yzb (n:=v2.1*256) (by omega) (by omega),yzb (by omega) (by omega)]
  have:=yhn1 (x:=v2.1*256+v6.1) (n:=n) (by omega) (by omega)
  simp only[e];exact⟨⟨this.1,fun _=>this.2⟩,h6⟩
 unfold yae
 refine Tot.guard (by omega) (Tot.ret ?_)
 have:=yhn1 (x:=v2.1) (n:=n) (by omega) (by omega)
 exact⟨⟨this.1,fun _=>this.2⟩,h3.mono (by omega)⟩
theorem yag1 {B:Nat} {c:Cur} (h:Ck B c) (hB:B<=1000000000000000000) (n:Int):Tot (yjc c n) fun r=>Ck (B+2) r.2:=by
 unfold yjc
 exact(yqq h hB n).bind fun v h=>Tot.ret h.2
theorem yrn {B:Nat} {c:Cur} (h:Ck B c) (hB:B<=1000000000000000000) (l:List Int) (hl:l≠[]):Tot (yab c l) fun r=>r.1∈l/\Ck (B+2) r.2:=by
 unfold yab
 refine(yqq h hB _).bind fun v ⟨⟨h1,h2⟩,h3⟩=>?_
 have:0<l.length:=List.length_pos_iff.2 hl
 refine Tot.idx h1 (h2 (by omega)) fun x hx=>Tot.ret ⟨hx,h3⟩
end Go.PV
namespace Go.PV
def cur4 {α:Type} (x:List Int×Int×Int×α):Cur:=(x.1,x.2.1,x.2.2.1)
def En (l:List Int):Prop:=∀ x∈l,0<=x/\x<=9
def Sq (n:Int) (g:List (List Int)):Prop:=(g.length:Int)=n/\∀ row∈g,(row.length:Int)=n/\En row
def Sm (g:List (List Int)):Prop:=g.length<=9/\∀ row∈g,row.length<=9
end Go.PV

/-
 Plain laws: kneading words.
 Conditions: none.
-/
set_option linter.all false
namespace Go.PV
theorem yzi1 (a b:Rt):cmp a b = -1\/cmp a b=0\/cmp a b=1:=by
 unfold cmp
 split
 ·simp
 split <;> simp
abbrev lcr:ByteArray:=ByteArray.mk #[76,67,82]
def letter (c z:Rt):Int:=76+(if cmp z c=0 then -9 else if cmp z c=1 then 6 else 0)
def wordB (c:Rt) (l:List Rt):ByteArray:=bytesB (l.map (letter c))
end Go.PV

/-
 Plain laws: lists of fractions in strictly increasing order.
 Conditions: none.
-/
set_option linter.all false
namespace Go.PV
theorem yjz {a b:Rt} (ha:0<a.2) (hb:0<b.2):(cmp a b = -1/\val a<val b)\/(cmp a b=1/\val b<val a)\/(cmp a b=0/\val a=val b):=by
 have h1:=ytb ha hb
 have h2:=ytb hb ha
 unfold less at h1 h2
 simp only[decide_eq_true_eq] at h1 h2
 unfold cmp
 by_cases a1:a.1*b.2<b.1*a.2
 ·rw[if_pos a1];exact .inl ⟨rfl,h1.1 a1⟩
 rw[if_neg a1]
 by_cases a2:a.1*b.2>b.1*a.2
 ·rw[if_pos a2];exact .inr (.inl ⟨rfl,h2.1 a2⟩)
 rw[if_neg a2]
 refine .inr (.inr ⟨rfl,?_⟩)
 have b1:¬ val a<val b:=fun h=>a1 (h1.2 h)
 have b2:¬ val b<val a:=fun h=>a2 (h2.2 h)
 grind
def Rats (l:List Rt):Prop:=∀ x∈l,isRat x=true
def Srt (l:List Rt):Prop:=l.Pairwise fun a b=>less a b=true
theorem yoa2 {a b c:Rt} (ha:isRat a=true) (hb:isRat b=true) (hc:isRat c=true) (h1:less a b=true) (h2:less b c=true):less a c=true:=by
 have a1:=(ytb (yic ha) (yic hb)).1 h1
 have a2:=(ytb (yic hb) (yic hc)).1 h2
 exact(ytb (yic ha) (yic hc)).2 (by grind)
theorem yku1 {a:Rt}:less a a=false:=by simp[less]
theorem ycs1 {a b:Rt} (ha:isRat a=true) (hb:isRat b=true) (h1:less a b=true):less b a=false:=by
 have a1:=(ytb (yic ha) (yic hb)).1 h1
 exact(yvf (yic hb) (yic ha)).2 (by grind)
theorem yds1:∀ {l k:List Rt},Srt l->Srt k->Rats l->Rats k->(∀ x,x∈l↔x∈k)->l=k
 | [],[],_,_,_,_,_=>rfl
 | [],b::k,_,_,_,_,h=>by have:=(h b).2 (by simp);simp at this
 | a::l,[],_,_,_,_,h=>by have:=(h a).1 (by simp);simp at this
 | a::l,b::k,h1,h2,r1,r2,h=>by
  have p1:=List.pairwise_cons.1 h1;have p2:=List.pairwise_cons.1 h2;have ra:=r1 a (by simp)
  have rb:=r2 b (by simp)
  have e:a=b:=by
   have hb:=(h b).2 (by simp)
   have ha:=(h a).1 (by simp)
   rcases List.mem_cons.1 hb with e | hb
   ·exact e.symm
   rcases List.mem_cons.1 ha with e | ha
   ·exact e
   have x1:=p1.1 b hb;have x2:=p2.1 a ha;rw[ycs1 ra rb x1] at x2;cases x2
  subst e;have:l=k:=yds1 p1.2 p2.2 (fun x hx=>r1 x (by simp[hx])) (fun x hx=>r2 x (by simp[hx])) fun x=>by
   have:=h x
   simp only[List.mem_cons] at this;constructor
   ·intro hx
    rcases this.1 (.inr hx) with e | hk
    ·subst e;have:=p1.1 _ hx;rw[yku1] at this;cases this
    exact hk
   intro hx;rcases this.2 (.inr hx) with e | hk
   ·subst e;have:=p2.1 _ hx;rw[yku1] at this;cases this
   exact hk
  rw[this]
theorem Srt.get {l:List Rt} (h:Srt l) {i j:Nat} (hij:i<j) (hj:j<l.length):less (l[i]'(by omega)) (l[j]'hj)=true:=List.pairwise_iff_getElem.1 h i j (by omega) hj hij
theorem ylu1 {l:List Rt} {x:Rt} (hl:Rats l) (hx:isRat x=true) (hn:l.length<=1048576):Tot (loopO (yhn l x) 0) fun y=>∃ k:Nat,y=(k:Int)/\k<=l.length/\(∀ j (h:j<l.length),j<k->less l[j] x=true)/\∀ h:k<l.length,less l[k] x=false:=by
 refine Tot.loop (fun y=>∃ k:Nat,y=(k:Int)/\k<=l.length/\(∀ j (h:j<l.length),j<k->less l[j] x=true)) (fun y=>l.length-y.toNat) (fun y ⟨k,hy,hk,ha⟩=>?_) 0 ⟨0,rfl,by omega,fun j _ h=>by omega⟩
 subst hy
 unfold yhn
 by_cases hlt:k<l.length
 ·simp only[show((k:Int)<(l.length:Int)) from by omega,decide_true,if_true,yno hlt,Option.bind_some,ydc _ _ (ycc (hl _ (List.getElem_mem hlt))) (ycc hx),ywj1]
  cases hc:less l[k] x with
  | true =>
   simp only[if_true];refine Tot.inl ⟨⟨k+1,yva (by omega),by omega,fun j hj hjk=>?_⟩,?_⟩
   ·rcases Nat.lt_or_ge j k with h | h
    ·exact ha j hj h
    have:j=k:=by omega
    subst this;exact hc
   rw[yva (show k<9223372036854775807 by omega)];show l.length-((k+1:Nat):Int).toNat<l.length-(k:Int).toNat;omega
  | false =>
   simp only[Bool.false_eq_true,if_false];exact Tot.inr ⟨k,rfl,hk,ha,fun _=>hc⟩
 simp only[show ¬ ((k:Int)<(l.length:Int)) from by omega,decide_false,Bool.false_eq_true,if_false,Option.bind_some]
 exact Tot.inr ⟨k,rfl,hk,ha,fun h=>absurd h hlt⟩
structure PutOk (l:List Rt) (x:Rt) (r:List Rt):Prop where
 srt:Srt r
 mem:∀ y,y∈r↔y=x\/y∈l
 len:r.length<=l.length+1
 new:x∉l->r.length=l.length+1
theorem PutOk.rats {l r:List Rt} {x:Rt} (h:PutOk l x r) (hl:Rats l) (hx:isRat x=true):Rats r:=fun y hy=>by
 rcases(h.mem y).1 hy with rfl | hy
 ·exact hx
 exact hl y hy
theorem yin1 {l:List Rt} {x:Rt} (hs:Srt l) (hl:Rats l) (hx:isRat x=true) (hn:l.length<=1048576):Tot (ybf l x) (PutOk l x):=by
 unfold ybf
 refine(ylu1 hl hx hn).bind fun y ⟨k,hy,hk,h1,h2⟩=>?_
 subst hy
 unfold ygn
 have main:(∀ h:k<l.length,l[k]≠x)->Tot ((guardO ((0:Int)<=(k:Int)/\(k:Int)<=(l.length:Int))).bind fun u5=>(guardO ((l.take (Int.toNat (k:Int))).length<=1099511627776)).bind fun u6=>(guardO ((l.take (Int.toNat (k:Int))).length+([x]).length<=1099511627776)).bind fun u7=>(guardO (((l.take (Int.toNat (k:Int)))++[x]).length+(l.drop (Int.toNat (k:Int))).length<=1099511627776)).bind fun u8=>some (((l.take (Int.toNat (k:Int)))++[x])++(l.drop (Int.toNat (k:Int))))) (PutOk l x):=by
  intro hne;rw[Int.toNat_natCast];refine Tot.guard (by omega) (Tot.guard (by simp;omega) (Tot.guard (by simp;omega) (Tot.guard (by simp;omega) (Tot.ret ?_))))
  have hb:∀ y∈l.drop k,less x y=true:=by
   intro y hy;obtain⟨i,hi,e⟩:=List.mem_iff_getElem.1 hy;rw[List.getElem_drop] at e;rw[List.length_drop] at hi;have hkl:k<l.length:=by omega
   have rk:=hl _ (List.getElem_mem hkl)
   have hkx:less x l[k]=true:=by
    have q:=h2 hkl;cases hh:less x l[k] with
    | true=>rfl
    | false=>exact absurd (yvr1 rk hx q hh) (hne hkl)
   subst e;rcases Nat.eq_zero_or_pos i with h | h
   ·subst h;exact hkx
   exact yoa2 hx rk (hl _ (List.getElem_mem _)) hkx (hs.get (by omega) (by omega))
  have ha:∀ y∈l.take k,less y x=true:=by
   intro y hy;obtain⟨i,hi,e⟩:=List.mem_iff_getElem.1 hy;rw[List.getElem_take] at e;rw[List.length_take] at hi;subst e;exact h1 i (by omega) (by omega)
  refine⟨?_,fun y=>?_,by simp;omega,fun _=>by simp;omega⟩
  ·have sd:Srt (l.drop k):=List.Pairwise.sublist (List.drop_sublist k l) hs
   have st:Srt (l.take k):=List.Pairwise.sublist (List.take_sublist k l) hs
   rw[List.append_assoc];refine List.pairwise_append.2 ⟨st,List.pairwise_append.2 ⟨List.pairwise_singleton _ _,sd,fun a h b hb'=>?_⟩,fun a h b hb'=>?_⟩
   ·rw[List.mem_singleton.1 h];exact hb b hb'
   rcases List.mem_append.1 hb' with h' | h'
   ·rw[List.mem_singleton.1 h'];exact ha a h
   exact yoa2 (hl a (List.mem_of_mem_take h)) hx (hl b (List.mem_of_mem_drop h')) (ha a h) (hb b h')
  have e:y∈l↔y∈l.take k\/y∈l.drop k:=by
   conv=>lhs;rw[← List.take_append_drop k l]
   exact List.mem_append
  rw[e];simp only[List.mem_append,List.mem_singleton];constructor
  ·rintro((h | h) | h)
   ·exact .inr (.inl h)
   ·exact .inl h
   exact .inr (.inr h)
  rintro(h | h | h)
  ·exact .inl (.inr h)
  ·exact .inl (.inl h)
  exact .inr h
 by_cases hlt:k<l.length
 ·simp only[show((k:Int)<(l.length:Int)) from by omega,decide_true,if_true,yno hlt,Option.bind_some]
  by_cases he:l[k]=x
  ·rw[if_pos (by rw[he];simp)]
   exact Tot.ret ⟨hs,fun y=>⟨.inr,fun h=>by rcases h with rfl | h;exact he▸List.getElem_mem hlt;exact h⟩,by omega,fun h=>absurd (he▸List.getElem_mem hlt) h⟩
  rw[if_neg (by intro hh;simp only[Bool.and_eq_true,beq_iff_eq] at hh;exact he (Prod.ext hh.1 hh.2))]
  exact main fun _=>he
 simp only[show ¬ ((k:Int)<(l.length:Int)) from by omega,decide_false,Bool.false_eq_true,if_false,Option.bind_some]
 exact main fun h=>absurd h hlt
theorem ycq1 (x:Rt):okR x=isRat x:=by
 rw[Bool.eq_iff_iff]
 rw[isRat_iff]
 simp[okR]
theorem yrh1 (x y:Rt):leR x y = !less y x:=rfl
abbrev RR:={ x:Rt // isRat x=true }
theorem yaj1 (l:List Rt) (x:Rt):x∈sortR l↔x∈l:=(List.mergeSort_perm l leR).mem_iff
theorem ydq1 (l:List Rt):(sortR l).length=l.length:=List.length_mergeSort l
theorem yeq1 (l:List Rt) (hl:Rats l):(sortR l).Pairwise fun a b=>less b a=false:=by
 let l':List RR:=l.attach.map fun x=>⟨x.1,hl x.1 x.2⟩
 have e:l'.map (·.1)=l:=by
  simp only[l',List.map_map,Function.comp_def];exact List.attach_map_subtype_val l
 let le':RR->RR->Bool:=fun a b=>leR a.1 b.1
 have hm:(l'.mergeSort le').map (·.1)=sortR l:=by
  rw[List.map_mergeSort (s:=leR) fun a _ b _=>rfl,e];rfl
 have hp:(l'.mergeSort le').Pairwise fun a b=>le' a b=true:=by
  refine List.pairwise_mergeSort (fun a b c h1 h2=>?_) (fun a b=>?_) l'
  ·simp only[le',yrh1,Bool.not_eq_true'] at h1 h2 ⊢
   exact ynb2 a.2 b.2 c.2 h1 h2
  simp only[le',yrh1];cases h:less b.1 a.1 with
  | false=>rfl
  | true=>rw[ycs1 b.2 a.2 h];rfl
 rw[← hm]
 refine List.pairwise_map.2 (hp.imp fun {a b} h=>?_)
 simpa [le',yrh1] using h
theorem yby1 {d:Nat->Rt}:∀ (m:Nat),(∀ i,i<m->isRat (d i)=true)->(∀ i j,i<j->j<m->less (d j) (d i)=false) ->
  Srt (cpF d m)/\(∀ y,y∈cpF d m↔∃ i,i<m/\d i=y)/\(cpF d m).length<=m
 | 0,_,_=>⟨List.Pairwise.nil,fun y=>by simp[cpF],by simp[cpF]⟩
 | m+1,hr,hd=>by
  obtain⟨h1,h2,h3⟩:=yby1 (d:=d) m (fun i h=>hr i (by omega)) (fun i j h h'=>hd i j h (by omega))
  simp only[cpF];by_cases hc:1<=m/\d m=d (m-1)
  ·rw[if_pos hc]
   refine⟨h1,fun y=>?_,by omega⟩
   rw[h2];constructor
   ·rintro⟨i,hi,e⟩;exact⟨i,by omega,e⟩
   rintro⟨i,hi,e⟩
   rcases Nat.lt_or_ge i m with h | h
   ·exact⟨i,h,e⟩
   have:i=m:=by omega
   subst this;exact⟨i-1,by omega,by rw[← hc.2];exact e⟩
  rw[if_neg hc];refine⟨List.pairwise_append.2 ⟨h1,List.pairwise_singleton _ _,fun a ha b hb=>?_⟩,fun y=>?_,by simp;omega⟩
  ·rw[List.mem_singleton.1 hb]
   obtain⟨i,hi,e⟩:=(h2 a).1 ha
   subst e;have r0:=hr i (by omega)
   have r1:=hr (m-1) (by omega)
   have r2:=hr m (by omega)
   have q:less (d (m-1)) (d m)=true:=by
    cases hh:less (d (m-1)) (d m) with
    | true=>rfl
    | false=>exact absurd ⟨by omega,yvr1 r2 r1 (hd (m-1) m (by omega) (by omega)) hh⟩ hc
   rcases Nat.lt_or_ge i (m-1) with h | h
   ·have:=hd i (m-1) h (by omega)
    have a1:=(yvf (yic r1) (yic r0)).1 this
    have a2:=(ytb (yic r1) (yic r2)).1 q
    exact(ytb (yic r0) (yic r2)).2 (by grind)
   have:i=m-1:=by omega
   subst this;exact q
  rw[List.mem_append,h2,List.mem_singleton];constructor
  ·rintro(⟨i,hi,e⟩ | e)
   ·exact⟨i,by omega,e⟩
   exact⟨m,by omega,e.symm⟩
  rintro⟨i,hi,e⟩
  rcases Nat.lt_or_ge i m with h | h
  ·exact .inl ⟨i,h,e⟩
  have:i=m:=by omega
  subst this;exact .inr e.symm
theorem ybj1 {l:List Rt} (hl:Rats l) (hn:l.length<=1048576):Tot (ykm l) fun r=>Srt r/\(∀ y,y∈r↔y∈l)/\r.length<=l.length:=by
 unfold ykm ysb yvb
 rw[yea ⟨hn,fun x hx=>by rw[ycq1];exact hl x hx⟩]
 refine Tot.ret ?_
 have hs:=yeq1 l hl
 have hr:Rats (sortR l):=fun x hx=>hl x ((yaj1 l x).1 hx)
 have hlen:=ydq1 l
 have hg:∀ i (h:i<(sortR l).length),(sortR l).getD i (0,0)=(sortR l)[i]:=fun i h=>by rw[List.getD_eq_getElem?_getD,List.getElem?_eq_getElem h];rfl
 obtain⟨h1,h2,h3⟩:=yby1 (d:=fun i=>(sortR l).getD i (0,0)) (sortR l).length (fun i hi=>by show isRat ((sortR l).getD i (0,0))=true;rw[hg i hi];exact hr _ (List.getElem_mem hi)) (fun i j hij hj=>by
  show less ((sortR l).getD j (0,0)) ((sortR l).getD i (0,0))=false
  rw[hg i (by omega),hg j hj];exact List.pairwise_iff_getElem.1 hs i j (by omega) hj hij)
 refine⟨h1,fun y=>?_,by show(cpF _ _).length<=_;omega⟩
 show y∈cpF _ _↔_
 rw[h2,← yaj1,List.mem_iff_getElem]
 constructor
 ·rintro⟨i,hi,e⟩;exact⟨i,hi,by rw[← hg i hi];exact e⟩
 rintro⟨i,hi,e⟩;exact⟨i,hi,by show(sortR l).getD i (0,0)=y;rw[hg i hi];exact e⟩
end Go.PV

/-
 Plain laws: images,coverings,graphs of coverings,on both sides.
 Conditions: none.
-/
set_option linter.all false
namespace Go.PV
def tkR (s:Rt×Rt) (y:Rt):Rt×Rt:=(if less y s.1=true then y else s.1,if less s.2 y=true then y else s.2)
section
variable {n:Nat} {p:Nat->Pt}
def ysB (p:Nat->Pt) (a b:Rt):Nat->List Rt
 | 0=>[]
 | m+1=>if(less a (p m).1&&less (p m).1 b)=true then ysB p a b m++[(p m).2] else ysB p a b m
def imR (n:Nat) (p:Nat->Pt) (a b y z:Rt):Rt×Rt:=(z::ysB p a b n).foldl tkR (y,y)
abbrev Iv:=Rt×Rt
def isIv (i:Iv):Bool:=isUnit i.1&&isUnit i.2&&less i.1 i.2
noncomputable def okI (n:Nat) (p:Nat->Pt) (i:Iv):Bool:=(atQ n p i.1).isSome&&(atQ n p i.2).isSome
noncomputable def covI (n:Nat) (p:Nat->Pt) (i k:Iv):Bool:=match atQ n p i.1,atQ n p i.2 with
 | some y,some z=> !less k.1 (imR n p i.1 i.2 y z).1 && !less (imR n p i.1 i.2 y z).2 k.2
 | _,_=>false
end
end Go.PV

/-
 Plain laws: graphs of coverings on both sides.
 Conditions: none.
-/
set_option linter.all false
namespace Go.PV
def areIv (l:List Iv):Bool:=inB 1 8 l.length&&l.all isIv
section
variable {n m:Nat} {p:Nat->Pt} {q:Nat->Iv}
def allOk (n:Nat) (p:Nat->Pt) (m:Nat) (q:Nat->Iv):Prop:=∀ a,a<m->okI n p (q a)=true
noncomputable def cvM (n:Nat) (p:Nat->Pt) (q:Nat->Iv) (a b:Nat):Int:=if covI n p (q a) (q b)=true then 1 else 0
end
end Go.PV

/-
 Plain laws: sums,powers of tables of numbers,traces.
 Conditions: none.
-/
set_option linter.all false
namespace Go.PV
def sm (n:Nat) (f:Nat->Int):Int:=foldN n (fun s i=>s+f i) 0
def pw (n:Nat) (A:Nat->Nat->Int):Nat->Nat->Nat->Int
 | 0=>fun i j=>if i=j then 1 else 0
 | d+1=>fun i j=>sm n fun k=>pw n A d i k*A k j
section
variable {n:Nat} {A:Nat->Nat->Int}
def tr (n:Nat) (A:Nat->Nat->Int):Int:=sm n fun i=>A i i
def cw (n:Nat) (A:Nat->Nat->Int) (d:Nat):Int:=tr n (pw n A d)
end
end Go.PV

/-
 Plain laws: what divides numbers of closed walks.
 Conditions: none.
-/
set_option linter.all false
namespace Go.PV
section
variable {n:Nat} (hn:n<=8)
def S2 (n:Nat) (f:Nat->Nat->Int):Int:=sm n fun i=>sm n fun j=>f i j
def S3 (n:Nat) (f:Nat->Nat->Nat->Int):Int:=sm n fun i=>S2 n fun j k=>f i j k
def S4 (n:Nat) (f:Nat->Nat->Nat->Nat->Int):Int:=sm n fun i=>S3 n fun j k l=>f i j k l
def S5 (n:Nat) (f:Nat->Nat->Nat->Nat->Nat->Int):Int:=sm n fun i=>S4 n fun j k l m=>f i j k l m
def l2 (i j:Nat):Int:=if i<j then 1 else 0
def l3 (i j k:Nat):Int:=if 64*i+8*j+k<64*j+8*k+i/\64*i+8*j+k<64*k+8*i+j then 1 else 0
def l4 (i j k l:Nat):Int:=if 512*i+64*j+8*k+l<512*j+64*k+8*l+i/\512*i+64*j+8*k+l<512*k+64*l+8*i+j/\512*i+64*j+8*k+l<512*l+64*i+8*j+k then 1 else 0
def l5 (i j k l m:Nat):Int:=if 4096*i+512*j+64*k+8*l+m<4096*j+512*k+64*l+8*m+i/\4096*i+512*j+64*k+8*l+m<4096*k+512*l+64*m+8*i+j /\
 4096*i+512*j+64*k+8*l+m<4096*l+512*m+64*i+8*j+k/\4096*i+512*j+64*k+8*l+m<4096*m+512*i+64*j+8*k+l then 1 else 0
include hn in
end
end Go.PV

/-
 Plain laws: what divides numbers of closed walks,in short.
 Conditions: none.
-/
set_option linter.all false
namespace Go.PV
section
variable {n:Nat}
variable (hn:n<=8)
include hn
end
end Go.PV

/-
 Plain laws: closed walks on both sides.
 Conditions: none.
-/
set_option linter.all false
namespace Go.PV
section
variable {n:Nat} {G:Nat->Nat->Int}
end
end Go.PV

/-
 Plain laws: numbers of cycles.
 Conditions: none.
-/
set_option linter.all false
namespace Go.PV
def mu (k:Nat):Int:=[0,1, -1, -1,0, -1,1, -1,0,0,1, -1,0].getD k 0
def cyN (c:Nat->Int) (n:Nat):Int:=sm (n+1) fun e=>if n % e=0 then mu (n / e)*c e else 0
section
variable {n:Nat} {G:Nat->Nat->Int} (hn:n<=8) (hG:∀ i j,i<n->j<n->0<=G i j/\G i j<=9)
include hn hG
end
end Go.PV

/-
 Plain laws: graphs of coverings,the reference's side;both sides.
 Conditions: none.
-/
set_option linter.all false
namespace Go.PV
section
variable {n m:Nat} {p:Nat->Pt} {q:Nat->Iv}
end
end Go.PV

/-
 Plain laws: fractions with a value.
 Conditions: none.
-/
set_option linter.all false
namespace Go.PV
theorem yjn1 {a b r:Rt} (ha:isRat a=true) (hb:isRat b=true) (hr:isRat r=true) (h:val r=val a-val b):subQ a b=some r:=by
 have a2:=(isRat_iff.1 ha).1
 have b2:=(isRat_iff.1 hb).1
 have e1:=yuf (r:=a) (by omega)
 have e2:=yuf (r:=b) (by omega)
 refine ylx (ycy ha hb) hr ?_
 rw[Rat.intCast_sub,Rat.intCast_mul,Rat.intCast_mul,Rat.intCast_mul,← e1,← e2,h]
 grind
theorem ycy1 {a b r:Rt} (ha:isRat a=true) (hb:isRat b=true) (hr:isRat r=true) (h:val r=val a*val b):mulQ a b=some r:=by
 have a2:=(isRat_iff.1 ha).1
 have b2:=(isRat_iff.1 hb).1
 have e1:=yuf (r:=a) (by omega)
 have e2:=yuf (r:=b) (by omega)
 refine ylx (ycy ha hb) hr ?_
 rw[Rat.intCast_mul,Rat.intCast_mul,← e1,← e2,h]
 grind
theorem yzj1 {n d:Int} (hd:d<0):lowest n d=lowest (-n) (-d):=by
 unfold lowest
 simp only[if_pos hd,if_neg (show ¬ -d<0 by omega),Int.gcd_neg,Int.neg_gcd,Int.tdiv_neg,Int.neg_tdiv]
theorem divQ_val' {a b r:Rt} (ha:isRat a=true) (hb:isRat b=true) (h:divQ a b=some r):val r*val b=val a:=by
 rcases Int.lt_trichotomy 0 b.1 with hp | hp | hp
 ·exact divQ_val ha hb hp h
 ·unfold divQ at h;rw[if_pos hp.symm] at h;cases h
 unfold divQ at h
 rw[if_neg (by omega)] at h
 have a2:=(isRat_iff.1 ha).1
 have b2:=(isRat_iff.1 hb).1
 have hneg:a.2*b.1<0:=Int.mul_neg_of_pos_of_neg (by omega) hp
 have h':lowQ (-(a.1*b.2)) (-(a.2*b.1))=some r:=by
  rw[← h];unfold lowQ;rw[← yzj1 hneg]
 have e:=yua1 (show 0 < -(a.2*b.1) by omega) h'
 have e1:=yuf (r:=a) (by omega)
 have e2:=yuf (r:=b) (by omega)
 rw[Rat.intCast_neg,Rat.intCast_neg,Rat.intCast_mul,Rat.intCast_mul,← e1,← e2] at e
 have n1:=ne0 (d:=a.2) (by omega)
 have n2:=ne0 (d:=b.2) (by omega)
 grind
section
variable {n:Nat} {p:Nat->Pt}
theorem ymu1 (h:Curve n p) {j:Nat} (hj:j+1<n) {x y far up:Rt} (hx:isRat x=true) (hy:isRat y=true) (hf:subQ x (p j).1=some far) (hu:subQ y (p j).2=some up) (hm:val (slopeQ (p j) (p (j+1)))*val far=val up):onQ (p j) (p (j+1)) x=some y:=by
 obtain⟨u,v,hs⟩:=h.piece hj
 have q:=yme hy (h.yr (show j<n by omega)) hu
 unfold onQ
 rw[hf,Option.bind_some,ycy1 hs.rs (yem hf) (yem hu) hm.symm,Option.bind_some]
 exact yux1 (h.yr (by omega)) (yem hu) hy (by rw[q];grind)
theorem yae1 (h:Curve n p) {j:Nat} (hj:j<n):atQ n p (p j).1=some (p j).2:=by
 have h2:=h.lo
 have ha:AtJ n p (p j).1 j:=⟨hj,fun k hk=>(ytb (yic (h.xr (by omega))) (yic (h.xr hj))).2 (h.xlt hk hj),yku1⟩
 rw[yvj1 ha]
 rcases Nat.eq_zero_or_pos j with h0 | h0
 ·subst h0
  have z:val (0,1)=0:=by have:=yuf (r:=((0:Int),(1:Int))) (by decide);simpa using this
  exact ymu1 h (j:=0) (by omega) (far:=(0,1)) (up:=(0,1)) (h.xr hj) (h.yr hj) (yjn1 (h.xr hj) (h.xr hj) yrf1 (by rw[z];grind)) (yjn1 (h.yr hj) (h.yr hj) yrf1 (by rw[z];grind)) (by rw[z];grind)
 obtain⟨i,rfl⟩:∃ i,j=i+1:=⟨j-1,by omega⟩
 obtain⟨u,v,hs⟩:=h.piece hj
 rw[show i+1-1=i by omega]
 exact ymu1 h hj (h.xr hj) (h.yr hj) hs.far hs.up (divQ_val' hs.ru hs.rv hs.div)
def Crs (p:Nat->Pt) (j:Nat) (y:Rt):Prop:=cmp (p j).2 y*cmp (p (j+1)).2 y<0
theorem yes1 (h:Curve n p) {j:Nat} (hj:j+1<n) {y:Rt} (hy:isRat y=true) (hc:Crs p j y):(val (p j).2<val y/\val y<val (p (j+1)).2)\/(val (p (j+1)).2<val y/\val y<val (p j).2):=by
 unfold Crs at hc
 rcases yjz (yic (h.yr (show j<n by omega))) (yic hy) with⟨e1,v1⟩ | ⟨e1,v1⟩ | ⟨e1,v1⟩ <;> rcases yjz (yic (h.yr hj)) (yic hy) with⟨e2,v2⟩ | ⟨e2,v2⟩ | ⟨e2,v2⟩ <;> rw[e1,e2] at hc <;> first | (exfalso;revert hc;decide) | exact .inl ⟨v1,v2⟩ | exact .inr ⟨v2,v1⟩
theorem yfs1 (h:Curve n p) {j:Nat} (hj:j+1<n) {y x:Rt} (hy:isRat y=true) (hc:Crs p j y) (hb:backQ (p j) (p (j+1)) y=some x):isUnit x=true/\atQ n p x=some y:=by
 obtain⟨u0,v0,hs⟩:=h.piece hj
 obtain⟨u,eu,hb⟩:=Option.bind_eq_some_iff.1 hb
 obtain⟨v,ev,hx⟩:=Option.bind_eq_some_iff.1 hb
 have rx:=ylu hx
 have ry0:=h.yr (show j<n by omega)
 have rx0:=h.xr (show j<n by omega)
 have q1:=yme hy ry0 eu
 have q2:=divQ_val' (yem eu) hs.rs ev
 have q3:=yva1 rx0 (yoa1 ev) hx
 have q4:=yme (h.yr hj) ry0 hs.up
 have q5:=yme (h.xr hj) rx0 hs.far
 have q6:=divQ_val' hs.ru hs.rv hs.div
 have hxl:=h.xlt (show j<j+1 by omega) hj
 have hfar:subQ x (p j).1=some v:=yjn1 rx rx0 (yoa1 ev) (by rw[q3];grind)
 have hon:=ymu1 h hj rx hy hfar eu (by rw[← q2];grind)
 have b0:=ypq (h.x j (by omega))
 have b1:=ypq (h.x (j+1) hj)
 have key:0<val v/\val v<val v0:=by
  have hv0:0<val v0:=by rw[q5];grind
  have hcr:=yes1 h hj hy hc;clear hon hfar hb hx ev eu;generalize val (slopeQ (p j) (p (j+1)))=s at *
  generalize val v=t at *
  generalize val v0=d at *
  have dd:∀ a:Rat,0<=s->a<=0->a*s<=0:=fun a h1 h2=>by have:=Rat.mul_nonneg (show 0 <= -a by grind) h1;grind
  have de:∀ a:Rat,s<=0->a<=0->0<=a*s:=fun a h1 h2=>by have:=Rat.mul_nonneg (show 0 <= -a by grind) (show 0 <= -s by grind);grind
  have m1:∀ a:Rat,0<=a->0<=s->0<=a*s:=fun a h1 h2=>Rat.mul_nonneg h1 h2
  have m2:∀ a:Rat,0<=a->s<=0->a*s<=0:=fun a h1 h2=>by have:=Rat.mul_nonneg h1 (show 0 <= -s by grind);grind
  rcases hcr with⟨c1,c2⟩ | ⟨c1,c2⟩
  ·have hs0:0<=s:=by
    rcases Rat.le_total (a:=0) (b:=s) with h1 | h1
    ·exact h1
    have:=m2 d (by grind) h1;grind
   constructor
   ·refine Classical.byContradiction fun hno=>?_
    have:=dd t hs0 (by grind);grind
   refine Classical.byContradiction fun hno=>?_
   have:=m1 (t-d) (by grind) hs0;grind
  have hs0:s<=0:=by
   rcases Rat.le_total (a:=0) (b:=s) with h1 | h1
   ·have:=m1 d (by grind) h1;grind
   exact h1
  constructor
  ·refine Classical.byContradiction fun hno=>?_
   have:=de t hs0 (by grind);grind
  refine Classical.byContradiction fun hno=>?_
  have:=m2 (t-d) (by grind) hs0;grind
 have lo:val (p j).1<val x:=by rw[q3];grind
 have hi:val x<val (p (j+1)).1:=by rw[q3];grind
 have ha:AtJ n p x (j+1):=⟨hj,fun k hk=>(ytb (yic (h.xr (by omega))) (yic rx)).2 (by
  rcases Nat.lt_or_ge k j with h' | h'
  ·have:=h.xlt h' (by omega);grind
  have:k=j:=by omega
  subst this;exact lo),(yvf (yic (h.xr hj)) (yic rx)).2 (by grind)⟩
 refine⟨(yne rx).2 ⟨by grind,by grind⟩,?_⟩
 rw[yvj1 ha,show j+1-1=j by omega]
 exact hon
def InB (n:Nat) (p:Nat->Pt) (y x:Rt):Prop:=(∃ j,j<n/\(p j).2=y/\x=(p j).1)\/∃ j,j+1<n/\Crs p j y/\backQ (p j) (p (j+1)) y=some x
def BefOk (n:Nat) (p:Nat->Pt) (y:Rt):Prop:=∀ j,j+1<n->Crs p j y->backQ (p j) (p (j+1)) y≠none
theorem ydy1 (h:Curve n p) {y x:Rt} (hy:isRat y=true) (hb:InB n p y x):isUnit x=true/\atQ n p x=some y:=by
 rcases hb with⟨j,hj,e1,e2⟩ | ⟨j,hj,hc,hb⟩
 ·subst e2
  refine⟨(yne (h.xr hj)).2 (ypq (h.x j hj)),?_⟩
  rw[yae1 h hj,e1]
 exact yfs1 h hj hy hc hb
end
end Go.PV

/-
 Plain laws: fractions with a value,both sides.
 Conditions: none.
-/
set_option linter.all false
namespace Go.PV
theorem ygs1 (a b c d:Rt):w64 (cmp a b*cmp c d)=cmp a b*cmp c d:=by
 rcases yzi1 a b with h | h | h <;> rcases yzi1 c d with h' | h' | h' <;> rw[h,h'] <;> decide
theorem yhs1 {a b:Rt} (ha:isRat a=true) (hb:isRat b=true):(cmp a b==0)=decide (a=b):=by
 rw[yom1,Bool.eq_iff_iff,beq_iff_eq,decide_eq_true_iff]
 exact⟨ynd1 ha hb,fun h=>by rw[h]⟩
section
variable {n:Nat} {p:Nat->Pt} {y:Rt}
structure GdB (n:Nat) (p:Nat->Pt) (y:Rt) (l:List Rt) (m:Nat):Prop where
 srt:Srt l
 rats:Rats l
 snd:∀ x∈l,InB n p y x
 len:l.length<=m
theorem InB.rat (h:Curve n p) (hy:isRat y=true) {x:Rt} (hx:InB n p y x):isRat x=true:=by
 have:=(ydy1 h hy hx).1
 simp only[isUnit,Bool.and_eq_true] at this
 exact this.1
theorem putG (h:Curve n p) (hy:isRat y=true) {l:List Rt} {m:Nat} {x:Rt} (hg:GdB n p y l m) (hx:InB n p y x) (hm:m<=1000):Tot (ybf l x) fun r=>GdB n p y r (m+1)/\x∈r/\∀ z∈l,z∈r:=by
 have hr:=hx.rat h hy
 refine(yin1 hg.srt hg.rats hr (by have:=hg.len;omega)).mono fun r hp=>⟨⟨hp.srt,hp.rats hg.rats hr,fun z hz=>?_,by have:=hp.len;have:=hg.len;omega⟩,(hp.mem x).2 (.inl rfl),fun z hz=>(hp.mem z).2 (.inr hz)⟩
 rcases(hp.mem z).1 hz with rfl | hz
 ·exact hx
 exact hg.snd z hz
structure Cpl (p:Nat->Pt) (y:Rt) (i:Nat) (l:List Rt):Prop where
 a:∀ j,j+1<i->(p j).2=y->(p j).1∈l
 b:∀ j,j+1<i->(p (j+1)).2=y->(p (j+1)).1∈l
 c:∀ j,j+1<i->Crs p j y->∃ x,backQ (p j) (p (j+1)) y=some x/\x∈l
structure Bef (n:Nat) (p:Nat->Pt) (y:Rt) (l:List Rt):Prop where
 srt:Srt l
 rats:Rats l
 mem:∀ x,x∈l↔InB n p y x
 len:l.length<=100
theorem yak1 (h:Curve n p) (hy:isRat y=true):Tot (yhi (tab n p) y) fun r=>(¬ BefOk n p y/\r=([],false))\/(BefOk n p y/\r.2=true/\Bef n p y r.1):=by
 have h2:=h.lo
 have h12:=h.hi
 unfold yhi
 refine Tot.bind (P:=fun r:(List Rt×Bool) ⊕ List Rt=>match r with
  | .inl z=>¬ BefOk n p y/\z=([],false)
  | .inr l=>BefOk n p y/\Bef n p y l) ?_ (fun r hr=>?_)
 ·refine Tot.loop (fun x:List Rt×Int=>∃ i:Nat,x.2=(i:Int)/\1<=i/\i<=n/\GdB n p y x.1 (3*i)/\Cpl p y i x.1) (fun x=>n-x.2.toNat) (fun x ⟨i,e,i1,i2,hg,hc⟩=>?_) ([],1) ⟨1,rfl,by omega,by omega,⟨List.Pairwise.nil,fun x hx=>by simp at hx,fun x hx=>by simp at hx,by simp⟩,⟨fun j hj=>by omega,fun j hj=>by omega,fun j hj=>by omega⟩⟩
  obtain⟨l,x2⟩:=x;simp only at e hg hc
  subst e;unfold yap;rw[yqa];rcases Nat.lt_or_ge i n with hi | hi
  ·obtain⟨j,rfl⟩:∃ j,i=j+1:=⟨i-1,by omega⟩
   simp only[show(((j+1:Nat):Int)<(n:Int)) from by omega,decide_true,if_true,yxj (show 0<j+1 by omega) (show j+1<4611686018427387904 by omega),show j+1-1=j by omega,yna (show j<n by omega),yna hi,Option.bind_some,ydc _ _ (ycc (h.yr (show j<n by omega))) (ycc hy),ydc _ _ (ycc (h.yr hi)) (ycc hy),yhs1 (h.yr (show j<n by omega)) hy]
   have k3:∀ l2:List Rt,GdB n p y l2 (3*(j+1)+2)->(∀ z∈l,z∈l2)->((p j).2=y->(p j).1∈l2)->((p (j+1)).2=y->(p (j+1)).1∈l2)->Tot (yhg y (l,((j+1:Nat):Int)) (p j) (p (j+1)) (cmp (p j).2 y) (cmp (p (j+1)).2 y) l2) (Lp (fun x':List Rt×Int=>(∃ i:Nat,x'.2=(i:Int)/\1<=i/\i<=n/\GdB n p y x'.1 (3*i)/\Cpl p y i x'.1)/\n-x'.2.toNat<n-((j+1:Nat):Int).toNat) (fun r:(List Rt×Bool) ⊕ List Rt=>match r with
  | .inl z=>¬ BefOk n p y/\z=([],false)
  | .inr l=>BefOk n p y/\Bef n p y l)):=by
    intro l2 g2 s2 ha hb;unfold yhg;simp only[ygs1];have stp:∀ l3:List Rt,GdB n p y l3 (3*(j+1)+3)->(∀ z∈l2,z∈l3)->(Crs p j y->∃ x,backQ (p j) (p (j+1)) y=some x/\x∈l3)->Cpl p y (j+2) l3:=by
     intro l3 g3 s3 hcr;refine⟨fun k hk e=>?_,fun k hk e=>?_,fun k hk e=>?_⟩
     ·rcases Nat.lt_or_ge k j with q | q
      ·exact s3 _ (s2 _ (hc.a k (by omega) e))
      have:k=j:=by omega
      subst this;exact s3 _ (ha e)
     ·rcases Nat.lt_or_ge k j with q | q
      ·exact s3 _ (s2 _ (hc.b k (by omega) e))
      have:k=j:=by omega
      subst this;exact s3 _ (hb e)
     rcases Nat.lt_or_ge k j with q | q
     ·obtain⟨x,e1,e2⟩:=hc.c k (by omega) e
      exact⟨x,e1,s3 _ (s2 _ e2)⟩
     have:k=j:=by omega
     subst this;exact hcr e
    have out:∀ l3:List Rt,GdB n p y l3 (3*(j+1)+3)->Cpl p y (j+2) l3->(∃ i:Nat,(l3,w64 (((j+1:Nat):Int)+1)).2=(i:Int)/\1<=i/\i<=n/\GdB n p y (l3,w64 (((j+1:Nat):Int)+1)).1 (3*i)/\Cpl p y i (l3,w64 (((j+1:Nat):Int)+1)).1)/\n-(l3,w64 (((j+1:Nat):Int)+1)).2.toNat<n-((j+1:Nat):Int).toNat:=by
     intro l3 g3 c3;refine⟨⟨j+2,yva (show j+1<9223372036854775807 by omega),by omega,by omega,g3,c3⟩,?_⟩
     simp only[yva (show j+1<9223372036854775807 by omega)];omega
    refine Tot.ite (fun q=>?_) (fun q=>?_)
    ·have q:¬ Crs p j y:=by have:=of_decide_eq_true q;unfold Crs;omega
     have g3:GdB n p y l2 (3*(j+1)+3):=⟨g2.srt,g2.rats,g2.snd,by have:=g2.len;omega⟩
     exact Tot.inl (out l2 g3 (stp l2 g3 (fun z hz=>hz) fun hh=>absurd hh q))
    have q:Crs p j y:=by have:=of_decide_eq_false q;unfold Crs;omega
    rw[yqd1 h hi hy,Option.bind_some];cases hb':backQ (p j) (p (j+1)) y with
    | none =>
     simp only[unO,Bool.not_false,if_true];exact Tot.inr ⟨fun hh=>hh j hi q hb',rfl⟩
    | some x =>
     simp only[unO,Bool.not_true,Bool.false_eq_true,if_false];refine(putG h hy g2 (.inr ⟨j,hi,q,hb'⟩) (by omega)).bind fun l3 ⟨g3,m3,s3⟩=>Tot.inl (out l3 g3 (stp l3 g3 s3 fun _=>⟨x,hb',m3⟩))
   have k2:∀ l1:List Rt,GdB n p y l1 (3*(j+1)+1)->(∀ z∈l,z∈l1)->((p j).2=y->(p j).1∈l1)->Tot (yig y (l,((j+1:Nat):Int)) (p j) (p (j+1)) (cmp (p j).2 y) (cmp (p (j+1)).2 y) l1) (Lp (fun x':List Rt×Int=>(∃ i:Nat,x'.2=(i:Int)/\1<=i/\i<=n/\GdB n p y x'.1 (3*i)/\Cpl p y i x'.1)/\n-x'.2.toNat<n-((j+1:Nat):Int).toNat) (fun r:(List Rt×Bool) ⊕ List Rt=>match r with
  | .inl z=>¬ BefOk n p y/\z=([],false)
  | .inr l=>BefOk n p y/\Bef n p y l)):=by
    intro l1 g1 s1 ha;unfold yig;rw[yhs1 (h.yr hi) hy];refine Tot.ite (fun q=>?_) (fun q=>?_)
    ·have q:=of_decide_eq_true q
     exact(putG h hy g1 (.inl ⟨j+1,hi,q,rfl⟩) (by omega)).bind fun l2 ⟨g2,m2,s2⟩=>k3 l2 g2 (fun z hz=>s2 z (s1 z hz)) (fun e=>s2 _ (ha e)) fun _=>m2
    have q:=of_decide_eq_false q;exact k3 l1 ⟨g1.srt,g1.rats,g1.snd,by have:=g1.len;omega⟩ s1 ha fun e=>absurd e q
   refine Tot.ite (fun q=>?_) (fun q=>?_)
   ·have q:=of_decide_eq_true q
    exact(putG h hy hg (.inl ⟨j,by omega,q,rfl⟩) (by omega)).bind fun l1 ⟨g1,m1,s1⟩=>k2 l1 g1 s1 fun _=>m1
   have q:=of_decide_eq_false q;exact k2 l ⟨hg.srt,hg.rats,hg.snd,by have:=hg.len;omega⟩ (fun z hz=>hz) fun e=>absurd e q
  ·have:i=n:=by omega
   subst this;simp only[Int.lt_irrefl,decide_false,Bool.false_eq_true,if_false];refine Tot.inr ⟨fun j hj hcr=>?_,hg.srt,hg.rats,fun x=>⟨hg.snd x,fun hx=>?_⟩,by have:=hg.len;omega⟩
   ·obtain⟨x,e,_⟩:=hc.c j hj hcr
    rw[e];simp
   rcases hx with⟨j,hj,e1,e2⟩ | ⟨j,hj,hcr,hb⟩
   ·subst e2
    rcases Nat.lt_or_ge (j+1) i with q | q
    ·exact hc.a j q e1
    obtain⟨k,rfl⟩:∃ k,j=k+1:=⟨j-1,by omega⟩
    exact hc.b k (by omega) e1
   obtain⟨x',e,hm⟩:=hc.c j hj hcr;rw[hb] at e;cases e;exact hm
 cases r with
 | inl z=>exact Tot.ret (.inl hr)
 | inr l=>exact Tot.ret (.inr ⟨hr.1,rfl,hr.2⟩)
theorem ybk1 (h:Curve n p) (hy:isRat y=true) (bad:Bool):Tot (yge bad (tab n p) y) fun r=>r.1.length<=100/\Rats r.1/\(bad=true->r.2=true)/\(¬ BefOk n p y->r.2=true)/\(BefOk n p y->r.2=bad/\Bef n p y r.1):=by
 have h2:=h.lo
 have h12:=h.hi
 unfold yge
 refine Tot.bind (P:=fun r:Bool×List Rt=>r.2.length<=100/\Rats r.2/\(bad=true->r.1=true)/\(¬ BefOk n p y->r.1=true)/\(BefOk n p y->r.1=bad/\∀ x,x∈r.2↔InB n p y x)) ?_ (fun r ⟨r1,r2,r3,r4,r5⟩=>?_)
 ·refine Tot.loop (fun x:Bool×List Rt×Int=>∃ i:Nat,x.2.2=(i:Int)/\i<=n/\x.2.1.length<=3*i/\Rats x.2.1/\(bad=true->x.1=true)/\((∃ j,j+1<i/\Crs p j y/\backQ (p j) (p (j+1)) y=none)->x.1=true)/\((∀ j,j+1<i->Crs p j y->backQ (p j) (p (j+1)) y≠none)->x.1=bad/\(∀ z∈x.2.1,InB n p y z)/\(∀ j,j<i->(p j).2=y->(p j).1∈x.2.1)/\∀ j,j+1<i->Crs p j y->∃ z,backQ (p j) (p (j+1)) y=some z/\z∈x.2.1)) (fun x=>n-x.2.2.toNat) (fun x ⟨i,e,i2,hl,hr,hb,hbad,hgood⟩=>?_) (bad,[],0) ⟨0,rfl,by omega,by simp,fun x hx=>by simp at hx,fun q=>q,fun ⟨j,hj,_⟩=>by omega,fun _=>⟨rfl,fun z hz=>by simp at hz,fun j hj=>by omega,fun j hj=>by omega⟩⟩
  obtain⟨b,l,x2⟩:=x;simp only at e hl hr hb hbad hgood
  subst e;unfold ytl;rw[yqa];rcases Nat.lt_or_ge i n with hi | hi
  ·simp only[show((i:Int)<(n:Int)) from by omega,decide_true,if_true,yna hi,Option.bind_some]
   have k2:∀ l1:List Rt,l1.length<=3*i+1->Rats l1->(∀ z∈l,z∈l1)->(∀ z∈l1,z∈l\/(z=(p i).1/\(p i).2=y))->((p i).2=y->(p i).1∈l1)->Tot (yqd (tab n p) y (b,l,(i:Int)) (p i) l1) (Lp (fun x:Bool×List Rt×Int=>(∃ i:Nat,x.2.2=(i:Int)/\i<=n/\x.2.1.length<=3*i/\Rats x.2.1/\(bad=true->x.1=true)/\((∃ j,j+1<i/\Crs p j y/\backQ (p j) (p (j+1)) y=none)->x.1=true)/\((∀ j,j+1<i->Crs p j y->backQ (p j) (p (j+1)) y≠none)->x.1=bad/\(∀ z∈x.2.1,InB n p y z)/\(∀ j,j<i->(p j).2=y->(p j).1∈x.2.1)/\∀ j,j+1<i->Crs p j y->∃ z,backQ (p j) (p (j+1)) y=some z/\z∈x.2.1))/\n-x.2.2.toNat<n-((i:Int)).toNat)
     (fun r:Bool×List Rt=>r.2.length<=100/\Rats r.2/\(bad=true->r.1=true)/\(¬ BefOk n p y->r.1=true)/\(BefOk n p y->r.1=bad/\∀ x,x∈r.2↔InB n p y x))):=by
    intro l1 g1 r1 s1 t1 v1;have hw:w64 ((i:Int)+1)=((i+1:Nat):Int):=yva (by omega)
    have snd1:∀ z∈l1,(∀ z∈l,InB n p y z)->InB n p y z:=fun z hz hs=>by
     rcases t1 z hz with q | ⟨q,q'⟩
     ·exact hs z q
     exact .inl ⟨i,hi,q',q⟩
    have ver1:(∀ j,j<i->(p j).2=y->(p j).1∈l)->∀ j,j<i+1->(p j).2=y->(p j).1∈l1:=fun hs j hj e=>by
     rcases Nat.lt_or_ge j i with q | q
     ·exact s1 _ (hs j q e)
     have:j=i:=by omega
     subst this;exact v1 e
    unfold yqd;have stay:(∀ j,j+1=i->¬ Crs p j y)->Tot (some (Sum.inl (b,l1,w64 ((i:Int)+1))):Option ((Bool×List Rt×Int) ⊕ (Bool×List Rt))) (Lp (fun x:Bool×List Rt×Int=>(∃ i:Nat,x.2.2=(i:Int)/\i<=n/\x.2.1.length<=3*i/\Rats x.2.1/\(bad=true->x.1=true)/\((∃ j,j+1<i/\Crs p j y/\backQ (p j) (p (j+1)) y=none)->x.1=true)/\((∀ j,j+1<i->Crs p j y->backQ (p j) (p (j+1)) y≠none)->x.1=bad/\(∀ z∈x.2.1,InB n p y z)/\(∀ j,j<i->(p j).2=y->(p j).1∈x.2.1)/\∀ j,j+1<i->Crs p j y->∃ z,backQ (p j) (p (j+1)) y=some z/\z∈x.2.1))/\n-x.2.2.toNat<n-((i:Int)).toNat)
     (fun r:Bool×List Rt=>r.2.length<=100/\Rats r.2/\(bad=true->r.1=true)/\(¬ BefOk n p y->r.1=true)/\(BefOk n p y->r.1=bad/\∀ x,x∈r.2↔InB n p y x))):=by
     intro hno;refine Tot.inl ⟨⟨i+1,hw,by omega,by show l1.length<=_;omega,r1,hb,fun ⟨j,hj,hc,e⟩=>?_,fun hall=>?_⟩,by simp only[hw];omega⟩
     ·rcases Nat.lt_or_ge (j+1) i with q | q
      ·exact hbad ⟨j,q,hc,e⟩
      exact absurd hc (hno j (by omega))
     obtain⟨a1,a2,a3,a4⟩:=hgood fun j hj=>hall j (by omega)
     refine⟨a1,fun z hz=>snd1 z hz a2,ver1 a3,fun j hj hc=>?_⟩
     rcases Nat.lt_or_ge (j+1) i with q | q
     ·obtain⟨z,e1,e2⟩:=a4 j q hc
      exact⟨z,e1,s1 _ e2⟩
     exact absurd hc (hno j (by omega))
    rcases Nat.eq_zero_or_pos i with h0 | h0
    ·subst h0
     simp only[show ¬ (((0:Nat):Int)>0) from by omega,decide_false,Bool.false_eq_true,if_false,Option.bind_some];exact stay fun j hj=>by omega
    obtain⟨j,rfl⟩:∃ j,i=j+1:=⟨i-1,by omega⟩
    simp only[show(((j+1:Nat):Int)>0) from by omega,decide_true,if_true,yxj (show 0<j+1 by omega) (show j+1<4611686018427387904 by omega),show j+1-1=j by omega,yna (show j<n by omega),Option.bind_some,yeh _ _ (ycc (h.yr (show j<n by omega))) (ycc hy),yeh _ _ (ycc (h.yr hi)) (ycc hy),ygs1]
    refine Tot.ite (fun q=>?_) (fun q=>?_)
    ·have q:Crs p j y:=by have:=of_decide_eq_true q;exact this
     obtain⟨v,e0,hv⟩:=ylh1 h hi hy b;rw[e0,Option.bind_some];refine Tot.guard (by simp;omega) (Tot.inl ?_)
     simp only[hw];refine⟨⟨j+1+1,rfl,by omega,by simp;omega,?_,fun q'=>?_,fun ⟨k,hk,hc,e⟩=>?_,fun hall=>?_⟩,by omega⟩
     ·intro z hz
      rcases List.mem_append.1 hz with q' | q'
      ·exact r1 z q'
      rw[List.mem_singleton.1 q'];exact hv.1
     ·have:=hb q'
      subst this;exact yuj1 hv
     ·rcases Nat.lt_or_ge k j with q' | q'
      ·have:=hbad ⟨k,by omega,hc,e⟩
       subst this;exact yuj1 hv
      have:k=j:=by omega
      subst this;have:=hv.2
      rw[e] at this;exact this
     obtain⟨a1,a2,a3,a4⟩:=hgood fun k hk=>hall k (by omega)
     cases hb':backQ (p j) (p (j+1)) y with
     | none=>exact absurd hb' (hall j (by omega) q)
     | some x =>
      have hv2:=hv.2;rw[hb'] at hv2;simp only at hv2
      subst hv2;refine⟨a1,fun z hz=>?_,fun k hk e=>List.mem_append_left _ (ver1 a3 k hk e),fun k hk hc=>?_⟩
      ·rcases List.mem_append.1 hz with q' | q'
       ·exact snd1 z q' a2
       rw[List.mem_singleton.1 q'];exact .inr ⟨j,hi,q,hb'⟩
      rcases Nat.lt_or_ge k j with q' | q'
      ·obtain⟨z,e1,e2⟩:=a4 k (by omega) hc
       exact⟨z,e1,List.mem_append_left _ (s1 _ e2)⟩
      have:k=j:=by omega
      subst this;exact⟨x,hb',by simp⟩
    have q:¬ Crs p j y:=by have:=of_decide_eq_false q;exact this
    exact stay fun k hk=>by have:k=j:=(by omega);subst this;exact q
   refine Tot.ite (fun q=>?_) (fun q=>?_)
   ·have q:(p i).2=y:=by
     simp only[Bool.and_eq_true,beq_iff_eq] at q;exact Prod.ext q.1 q.2
    refine Tot.guard (by simp;omega) (k2 _ (by simp;omega) ?_ (fun z hz=>List.mem_append_left _ hz) (fun z hz=>?_) fun _=>by simp)
    ·intro z hz
     rcases List.mem_append.1 hz with q' | q'
     ·exact hr z q'
     rw[List.mem_singleton.1 q'];exact h.xr hi
    rcases List.mem_append.1 hz with q' | q'
    ·exact .inl q'
    exact .inr ⟨List.mem_singleton.1 q',q⟩
   refine k2 l (by omega) hr (fun z hz=>hz) (fun z hz=>.inl hz) fun e=>?_
   rw[e] at q;simp at q
  have:i=n:=by omega
  subst this;simp only[Int.lt_irrefl,decide_false,Bool.false_eq_true,if_false];refine Tot.inr ⟨by show l.length<=100;omega,hr,hb,fun hno=>?_,fun hok=>?_⟩
  ·refine Classical.byContradiction fun hq=>hno fun j hj hc e=>hq (hbad ⟨j,hj,hc,e⟩)
  obtain⟨a1,a2,a3,a4⟩:=hgood hok;refine⟨a1,fun x=>⟨a2 x,fun hx=>?_⟩⟩
  rcases hx with⟨j,hj,e1,e2⟩ | ⟨j,hj,hc,e⟩
  ·subst e2;exact a3 j hj e1
  obtain⟨z,e1,e2⟩:=a4 j hj hc;rw[e] at e1;cases e1;exact e2
 unfold yph
 refine(ybj1 r2 (by omega)).bind fun l ⟨l1,l2,l3⟩=>Tot.ret ?_
 have hrl:Rats l:=fun x hx=>r2 x ((l2 x).1 hx)
 exact⟨by show l.length<=100;omega,hrl,r3,r4,fun hok=>⟨(r5 hok).1,l1,hrl,fun x=>by rw[l2,(r5 hok).2 x],by show l.length<=100;omega⟩⟩
end
end Go.PV

/-
 Plain laws: what draws fractions and vectors always comes to an end.
 Conditions: none.
-/
set_option linter.all false
namespace Go.PV
theorem ypa2 {B:Nat} (hB:B<=100000000) {c:Cur} (hc:Ck B c):Tot (yfl c) fun r=>isRat r.1=true/\Ck (B+12) r.2:=by
 unfold yfl
 refine(yqq hc (by omega) _).bind fun v1 ⟨⟨a1,a2⟩,h1⟩=>?_
 refine(yqq h1 (by omega) _).bind fun v2 ⟨⟨b1,b2⟩,h2⟩=>?_
 refine(yrn h2 (by omega) _ (by simp)).bind fun v3 ⟨m3,h3⟩=>?_
 refine(yqq h3 (by omega) _).bind fun v4 ⟨⟨d1,d2⟩,h4⟩=>?_
 refine(yqq h4 (by omega) _).bind fun v5 ⟨⟨e1,e2⟩,h5⟩=>?_
 refine(yrn h5 (by omega) _ (by simp)).bind fun v6 ⟨m6,h6⟩=>?_
 have a3:=a2 (by omega);have b3:=b2 (by omega);have d3:=d2 (by omega);have e3:=e2 (by omega)
 rw[yzb (by omega) (by omega),yzb (by omega) (by omega)] at m3 m6
 simp only[List.mem_cons,List.not_mem_nil,or_false] at m3 m6
 rw[yhf v3.1 v6.1 (by omega) (by omega) (by omega) (by omega) (by omega),Option.bind_some]
 unfold yoa
 cases hq:lowQ v3.1 v6.1 with
 | none=>exact Tot.ret ⟨ytp1,h6⟩
 | some q=>exact Tot.ret ⟨yix hq,h6⟩
theorem ycj1 {B:Nat} (hB:B<=100000000) {c:Cur} (hc:Ck B c):Tot (ype c) fun r=>Ck (B+18) r.2:=by
 unfold ype
 refine(ypa2 hB hc).bind fun v1 ⟨_,h1⟩=>?_
 refine(yqq h1 (by omega) _).bind fun v2 ⟨_,h2⟩=>?_
 refine Tot.ite (fun _=>?_) (fun _=>Tot.ite (fun _=>?_) (fun _=>Tot.ite (fun _=>?_) (fun _=>Tot.ret (h2.mono (by omega)))))
 ·exact(yrn h2 (by omega) _ (by simp)).bind fun v ⟨_,h⟩=>Tot.ret (h.mono (by omega))
 ·exact(yrn h2 (by omega) _ (by simp)).bind fun v ⟨_,h⟩=>Tot.ret (h.mono (by omega))
 exact(yrn h2 (by omega) _ (by simp)).bind fun v ⟨_,h⟩=>(yrn h (by omega) _ (by simp)).bind fun w ⟨_,h'⟩=>Tot.ret (h'.mono (by omega))
end Go.PV

/-
 Plain laws: what draws lifts always comes to an end.
 Conditions: none.
-/
set_option linter.all false
namespace Go.PV
def Gr (r:Rt):Prop:=isRat r=true/\0<=r.1/\r.1<=100/\1<=r.2/\r.2<=100
theorem yfq1 {v a:Int} (h0:0<=v) (h1:v<=a) (a1:1<=a) (a2:a<=100):Tot (yub v a) fun r=>Gr r.1:=by
 obtain⟨r,h⟩:=yoo (n:=v) (d:=a) h0 (by omega) a1 (by omega)
 rw[yhf v a (by omega) (by omega) (by omega) (by omega) (by omega),h.eq]
 have:=h.num
 have:=h.den
 have h2:0<=r.1:=by
  by_cases hv:v=0
  ·rw[h.zer hv];omega
  have:=h.pos (by omega);omega
 exact Tot.ret ⟨h.rat,h2,by show r.1<=100;omega,by show 1<=r.2;omega,by show r.2<=100;omega⟩
theorem yew {B:Nat} (hB:B<=100000000) {c:Cur} (hc:Ck B c) {a:Int} (a1:1<=a) (a2:a<=100):Tot (yqc c a) fun r=>Gr r.1/\Ck (B+2) r.2:=by
 unfold yqc
 rw[yzb (by omega) (by omega)]
 refine(yqq hc (by omega) _).bind fun v1 ⟨⟨b1,b2⟩,h1⟩=>?_
 have:=b2 (by omega)
 exact(yfq1 b1 (by omega) a1 a2).bind fun v2 h2=>Tot.ret ⟨h2,h1⟩
theorem ygq1 (a b:Rt):∃ r,yhb a b=some r:=by
 unfold yhb yjk
 by_cases h1:w64 (w64 (a.1*b.2)-w64 (b.1*a.2))>0
 ·simp[h1]
 by_cases h2:w64 (w64 (a.1*b.2)-w64 (b.1*a.2))<0 <;> simp[h1,h2]
theorem ynu1 (xs:List Rt) (x:Rt) (hl:xs.length<=1048576):Tot (ybf xs x) fun r=>xs.length<=r.length/\r.length<=xs.length+1:=by
 unfold ybf
 refine Tot.bind (P:=fun y:Int=>0<=y/\y<=xs.length) ?_ fun y ⟨y0,y1⟩=>?_
 ·refine Tot.loop (fun x=>0<=x/\x<=(xs.length:Int)) (fun x=>((xs.length:Int)-x).toNat) (fun i ⟨i0,i1⟩=>?_) _ ⟨by decide,by omega⟩
  unfold yhn;refine Tot.bind (P:=fun b=>b=true->i<(xs.length:Int)) ?_ fun b hb=>?_
  ·refine Tot.ite (fun hi=>?_) (fun _=>Tot.ret fun h=>by cases h)
   have hi':i<(xs.length:Int):=of_decide_eq_true hi
   refine Tot.idx i0 hi' fun v _=>?_
   obtain⟨r,hr⟩:=ygq1 v x;rw[hr,Option.bind_some];exact Tot.ret fun _=>hi'
  refine Tot.ite (fun h=>?_) (fun _=>Tot.inr ⟨i0,i1⟩)
  have:=hb h
  have hw:w64 (i+1)=i+1:=yzb (by omega) (by omega)
  rw[hw];exact Tot.inl ⟨⟨by omega,by omega⟩,by omega⟩
 unfold ygn
 refine Tot.bind (P:=fun _=>True) ?_ fun b _=>?_
 ·exact Tot.ite (fun hi=>Tot.idx y0 (of_decide_eq_true hi) fun v _=>Tot.ret trivial) (fun _=>Tot.ret trivial)
 refine Tot.ite (fun _=>Tot.ret ⟨Nat.le_refl _,by omega⟩) (fun _=>?_)
 refine Tot.guard ⟨y0,y1⟩ (Tot.guard (by simp;omega) (Tot.guard (by simp;omega) (Tot.guard (by simp;omega) (Tot.ret ⟨by simp;omega,by simp;omega⟩))))
def Gm (r:Rt):Prop := -1000<=r.1/\r.1<=1000/\1<=r.2/\r.2<=100
end Go.PV

/-
 Plain laws: what draws maps and counts of steps always comes to an end.
 Conditions: none.
-/
set_option linter.all false
namespace Go.PV
theorem you {n d:Int} (h1 : -1000<=n) (h2:n<=1000) (h3:1<=d) (h4:d<=1000):Tot (yub n d) fun _=>True:=by
 rw[yhf n d (by omega) (by omega) (by omega) (by omega) (by omega)]
 exact Tot.ret trivial
theorem ykz (n:Int):Tot (yoa n) fun _=>True:=⟨_,rfl,trivial⟩
theorem yhq1 {B:Nat} (hB:B<=1000000) {c:Cur} (hc:Ck B c) {a:Int} (a1:1<=a) (a2:a<=100):Tot (ybh c a) fun r=>(2<=r.1.length/\r.1.length<=12)/\Ck (B+300) r.2:=by
 have k1:∀ (B':Nat) (x2:List Int×Int×Int×Int),B'+250<=B+300->x2.2.2.2<=10->0<=x2.2.2.2->Ck B' (cur4 x2)->Tot (yid a x2) fun r=>(2<=r.1.length/\r.1.length<=12)/\Ck (B+300) r.2:=by
  intro B' x2 hB' h10 h0 hc
  unfold yid yoa
  simp only[Option.bind_some];refine Tot.bind (P:=fun y:List Int×Int×Int×List Rt=>(2<=y.2.2.2.length/\y.2.2.2.length<=12)/\Ck (B'+120) (cur4 y)) ?_ fun y ⟨⟨y2,y12⟩,yc⟩=>?_
  ·refine Tot.loop (fun x=>(2<=x.2.2.2.1.length/\x.2.2.2.1.length<=12)/\(0<=x.2.2.2.2/\x.2.2.2.2<=60)/\Ck (B'+2*x.2.2.2.2.toNat) (cur4 x)) (fun x=>(60-x.2.2.2.2).toNat) (fun x ⟨⟨xl,xh⟩,⟨t0,t1⟩,xc⟩=>?_) _ ⟨⟨by simp,by simp⟩,⟨by simp,by simp⟩,by simpa [cur4] using hc⟩
   obtain⟨c1,c2,c3,l,tr⟩:=x;simp only[cur4] at xl xh t0 t1 xc ⊢;unfold yfk;rw[yzb (n:=x2.2.2.2+2) (by omega) (by omega)];refine Tot.ite (fun hk=>?_) (fun hk=>Tot.inr ⟨⟨xl,xh⟩,xc.mono (by omega)⟩)
   simp only[Bool.and_eq_true,decide_eq_true_eq] at hk;refine(yew (by omega) xc a1 a2).bind fun v36 ⟨_,h36⟩=>?_
   refine(ynu1 l v36.1 (by omega)).bind fun v37 ⟨m1,m2⟩=>Tot.inl ?_
   have hw:w64 (tr+1)=tr+1:=yzb (by omega) (by omega)
   simp only[hw];exact⟨⟨⟨by omega,by omega⟩,⟨by omega,by omega⟩,Ck.mono (c:=v36.2) h36 (by omega)⟩,by omega⟩
  unfold ysg;refine Tot.bind (P:=fun z:List Int×Int×Int×List Pt=>(2<=z.2.2.2.length/\z.2.2.2.length<=12)/\Ck (B'+145) (cur4 z)) ?_ fun z ⟨z1,zc⟩=>Tot.ret ⟨z1,zc.mono (by omega)⟩
  refine Tot.loop (fun x=>((x.2.2.2.1.length:Int)=x.2.2.2.2/\x.2.2.2.2<=(y.2.2.2.length:Int))/\Ck (B'+120+2*x.2.2.2.1.length) (cur4 x)) (fun x=>((y.2.2.2.length:Int)-x.2.2.2.2).toNat) (fun x ⟨⟨xl,xh⟩,xc⟩=>?_) _ ⟨⟨by simp,by simp⟩,Ck.mono (c:=cur4 y) yc (by simp)⟩
  obtain⟨c1,c2,c3,l,i⟩:=x;simp only[cur4] at xl xh xc ⊢;unfold yek;refine Tot.ite (fun hi=>?_) (fun hi=>Tot.inr ?_)
  ·have hi':i<(y.2.2.2.length:Int):=of_decide_eq_true hi
   refine Tot.idx (by omega) hi' fun v10 _=>?_
   refine(yew (by omega) xc a1 a2).bind fun v11 ⟨_,h11⟩=>?_
   have hw:w64 (i+1)=i+1:=yzb (by omega) (by omega)
   simp only[hw];exact Tot.guard (by simp;omega) (Tot.inl ⟨⟨⟨by simp;omega,by show i+1<=_;omega⟩,Ck.mono (c:=v11.2) h11 (by simp;omega)⟩,by show(_-(i+1)).toNat<(_-i).toNat;omega⟩)
  have hi':¬ i<(y.2.2.2.length:Int):=of_decide_eq_false hi
  exact⟨⟨by show 2<=l.length;omega,by show l.length<=12;omega⟩,Ck.mono (c:=(c1,c2,c3)) xc (by omega)⟩
 unfold ybh
 refine(yrn hc (by omega) _ (by simp)).bind fun v1 ⟨m1,h1⟩=>?_
 simp only[List.mem_cons,List.not_mem_nil,or_false] at m1
 refine(yag1 h1 (by omega) _).bind fun v38 h38=>?_
 exact Tot.ite (fun _=>k1 _ _ (by omega:B+2+2+250<=B+300) (by show(10:Int)<=10;omega) (by show(0:Int)<=10;omega) h38) (fun _=>k1 _ _ (by omega:B+2+2+250<=B+300) (by show v1.1<=10;omega) (by show 0<=v1.1;omega) h38)
theorem yob2 {B:Nat} (hB:B<=100000) {c:Cur} (hc:Ck B c):Tot (yin c) fun r=>(2<=r.1.length/\r.1.length<=12)/\Ck (B+320) r.2:=by
 unfold yin
 refine(yrn hc (by omega) _ (by simp)).bind fun v1 ⟨m1,h1⟩=>?_
 simp only[List.mem_cons,List.not_mem_nil,or_false] at m1
 refine(yhq1 (by omega) h1 (by omega) (by omega)).bind fun v2 ⟨l2,h2⟩=>?_
 refine(yag1 h2 (by omega) _).bind fun v4 h4=>?_
 unfold yfe
 refine Tot.ite (fun _=>?_) (fun _=>Tot.ret ⟨l2,Ck.mono (c:=v4.2) h4 (by omega)⟩)
 refine(yrn h4 (by omega) _ (by simp)).bind fun v6 ⟨m6,h6⟩=>?_
 simp only[List.mem_cons,List.not_mem_nil,or_false] at m6
 refine Tot.bind (P:=fun y:List Pt=>2<=y.length/\y.length<=12) ?_ fun y ⟨y2,y12⟩=>?_
 ·refine Tot.loop (fun x=>(x.1.length:Int)=x.2/\x.2<=v6.1+1) (fun x=>(v6.1+1-x.2).toNat) (fun x ⟨xl,xh⟩=>?_) _ ⟨by simp,by show(0:Int)<=_;omega⟩
  obtain⟨l,i⟩:=x;simp only at xl xh ⊢
  unfold yvo;refine Tot.ite (fun hi=>?_) (fun hi=>Tot.inr ?_)
  ·have hi':i<=v6.1:=of_decide_eq_true hi
   refine(you (by omega) (by omega) (by omega) (by omega)).bind fun v15 _=>?_
   refine(ykz _).bind fun v16 _=>?_
   have hw:w64 (i+1)=i+1:=yzb (by omega) (by omega)
   simp only[hw];exact Tot.guard (by simp;omega) (Tot.inl ⟨⟨by simp;omega,by show i+1<=_;omega⟩,by show(_-(i+1)).toNat<(_-i).toNat;omega⟩)
  have hi':¬ i<=v6.1:=of_decide_eq_false hi
  exact⟨by show 2<=l.length;omega,by show l.length<=12;omega⟩
 unfold yel yfe
 refine(yag1 h6 (by omega) _).bind fun v8 h8=>?_
 refine Tot.ite (fun _=>?_) (fun _=>Tot.ret ⟨⟨y2,y12⟩,Ck.mono (c:=v8.2) h8 (by omega)⟩)
 refine(yew (by omega) h8 (by omega) (by omega)).bind fun v10 ⟨_,h10⟩=>?_
 exact Tot.idx (by omega) (by omega) fun v11 _=>Tot.ret ⟨by show 2<=(y.set _ _).length/\(y.set _ _).length<=12;rw[List.length_set];exact⟨y2,y12⟩,Ck.mono (c:=v10.2) h10 (by omega)⟩
theorem ykn1 {B:Nat} (hB:B<=100000) {c:Cur} (hc:Ck B c):Tot (ywf c) fun r=>r.1.length<=13/\Ck (B+350) r.2:=by
 unfold ywf yrb
 refine(yob2 hB hc).bind fun v1 ⟨⟨l2,l12⟩,h1⟩=>?_
 refine(yqq h1 (by omega) _).bind fun v2 ⟨⟨p1,p2⟩,h2⟩=>?_
 refine Tot.idx p1 (p2 (by omega)) fun v3 _=>?_
 refine(yqq h2 (by omega) _).bind fun v5 ⟨_,h5⟩=>?_
 refine Tot.ite (fun _=>?_) (fun _=>Tot.ite (fun _=>?_) (fun _=>Tot.ite (fun _=>?_) (fun _=>Tot.ite (fun _=>?_) (fun _=>Tot.ite (fun _=>?_) (fun _=>Tot.ret ⟨by show v1.1.length<=13;omega,Ck.mono (c:=v5.2) h5 (by omega)⟩)))))
 ·exact(ycj1 (by omega) h5).bind fun v7 h7=>Tot.ret ⟨by show(v1.1.set _ _).length<=13;rw[List.length_set];omega,Ck.mono (c:=v7.2) h7 (by omega)⟩
 ·exact(ycj1 (by omega) h5).bind fun v7 h7=>Tot.ret ⟨by show(v1.1.set _ _).length<=13;rw[List.length_set];omega,Ck.mono (c:=v7.2) h7 (by omega)⟩
 ·refine(yqq h5 (by omega) _).bind fun v11 ⟨⟨q1,q2⟩,h11⟩=>?_
  have q3:=q2 (by omega)
  exact(you (by omega) (by omega) (by omega) (by omega)).bind fun v12 _=>Tot.ret ⟨by show(v1.1.set _ _).length<=13;rw[List.length_set];omega,Ck.mono (c:=v11.2) h11 (by omega)⟩
 ·rw[yzb (by omega) (by omega)]
  exact Tot.guard ⟨by omega,by omega⟩ (Tot.ret ⟨by show(v1.1.take _).length<=13;rw[List.length_take];omega,Ck.mono (c:=v5.2) h5 (by omega)⟩)
 refine Tot.bind (P:=fun y:List Int×Int×Int×List Pt=>y.2.2.2.length<=13/\cur4 y=v5.2) ?_ fun y ⟨hy,hyc⟩=>Tot.ret ⟨hy,?_⟩
 ·refine Tot.loop (fun x=>x.length<=13) (fun x=>13-x.length) (fun x hx=>?_) _ (by simp)
  unfold ygl;refine Tot.ite (fun hk=>?_) (fun hk=>Tot.inr ⟨hx,rfl⟩)
  have hk':(x.length:Int)<13:=of_decide_eq_true hk
  refine(you (by omega) (by omega) (by omega) (by omega)).bind fun v19 _=>?_
  refine(ykz _).bind fun v20 _=>?_
  exact Tot.guard (by simp;omega) (Tot.inl ⟨by simp;omega,by simp;omega⟩)
 show Ck _ (cur4 y)
 rw[hyc];exact Ck.mono (c:=v5.2) h5 (by omega)
theorem ypu {B:Nat} (hB:B<=10000) {c:Cur} (hc:Ck B c):Tot (ylc c) fun r=>r.1.length<=13/\Ck (B+400) r.2:=by
 have k2:∀ (B':Nat) (x6:List Int×Int×Int×List Pt),B'+10<=B+400->x6.2.2.2.length<=13->Ck B' (cur4 x6)->Tot (yec x6) fun r=>r.1.length<=13/\Ck (B+400) r.2:=by
  intro B' x6 hB' hl hc
  unfold yec;refine(yag1 hc (by omega) _).bind fun v7 h7=>?_
  refine Tot.ite (fun _=>?_) (fun _=>Tot.ret ⟨hl,Ck.mono (c:=v7.2) h7 (by omega)⟩)
  refine(yqq h7 (by omega) _).bind fun v9 ⟨⟨q1,q2⟩,h9⟩=>?_
  have q3:=q2 (by omega)
  rw[yzb (n:=1+v9.1) (by omega) (by omega)];refine(you (by omega) (by omega) (by omega) (by omega)).bind fun v10 _=>?_
  refine(yqq h9 (by omega) _).bind fun v11 ⟨⟨q4,q5⟩,h11⟩=>?_
  have q6:=q5 (by omega)
  rw[yzb (n:=3+v11.1) (by omega) (by omega)];refine(you (by omega) (by omega) (by omega) (by omega)).bind fun v12 _=>?_
  unfold yoa;simp only[Option.bind_some];exact Tot.ret ⟨by simp,Ck.mono (c:=v11.2) h11 (by omega)⟩
 unfold ylc
 refine(yag1 hc (by omega) _).bind fun v1 h1=>?_
 refine Tot.ite (fun _=>?_) (fun _=>?_)
 ·exact(ykn1 (by omega) h1).bind fun v3 ⟨a,b⟩=>Tot.ret ⟨a,b.mono (by omega)⟩
 refine(yrn h1 (by omega) _ (by simp)).bind fun v4 ⟨m4,h4⟩=>?_
 simp only[List.mem_cons,List.not_mem_nil,or_false] at m4
 refine Tot.bind (P:=fun y:List Int×Int×Int×List Pt=>y.2.2.2.length<=13/\Ck (B+2+2+50) (cur4 y)) ?_ fun y ⟨hy,hyc⟩=>?_
 ·refine Tot.loop (fun x=>((x.2.2.2.1.length:Int)=x.2.2.2.2/\x.2.2.2.2<=v4.1+1)/\Ck (B+2+2+5*x.2.2.2.1.length) (cur4 x)) (fun x=>(v4.1+1-x.2.2.2.2).toNat) (fun x ⟨⟨xl,xh⟩,xc⟩=>?_) _ ⟨⟨by simp,by show(0:Int)<=_;omega⟩,h4⟩
  obtain⟨c1,c2,c3,l,i⟩:=x;simp only[cur4] at xl xh xc ⊢;have hw:w64 (i+1)=i+1:=yzb (by omega) (by omega)
  have k3:∀ (v28:Rt×Bool) (x30:List Int×Int×Int×Int×Int),i<=v4.1->Ck (B+2+2+5*l.length+4) (x30.1,x30.2.1,x30.2.2.1)->Tot (ypb (c1,c2,c3,l,i) v28 x30) (Lp (fun x':List Int×Int×Int×List Pt×Int=>(((x'.2.2.2.1.length:Int)=x'.2.2.2.2/\x'.2.2.2.2<=v4.1+1)/\Ck (B+2+2+5*x'.2.2.2.1.length) (cur4 x'))/\(v4.1+1-x'.2.2.2.2).toNat<(v4.1+1-i).toNat) (fun y:List Int×Int×Int×List Pt=>y.2.2.2.length<=13/\Ck (B+2+2+50) (cur4 y))):=by
   intro v28 x30 hi hc;unfold ypb;simp only[hw];exact Tot.guard (by simp;omega) (Tot.inl ⟨⟨⟨by simp;omega,by show i+1<=v4.1+1;omega⟩,Ck.mono (c:=(x30.1,x30.2.1,x30.2.2.1)) hc (by simp;omega)⟩,by show(v4.1+1-(i+1)).toNat<_;omega⟩)
  unfold ynh;have ew:w64 ((l.length:Int)-1)=(l.length:Int)-1:=yzb (by omega) (by omega)
  simp only[ew];refine Tot.ite (fun hi=>?_) (fun hi=>Tot.inr ⟨?_,Ck.mono (c:=(c1,c2,c3)) xc (by omega)⟩)
  ·have hi':i<=v4.1:=of_decide_eq_true hi
   refine(you (by omega) (by omega) (by omega) (by omega)).bind fun v28 _=>?_
   refine(yew (by omega) xc (by omega) (by omega)).bind fun v29 ⟨_,h29⟩=>?_
   refine Tot.bind (P:=fun w:List Int×Int×Int×Bool=>(w.2.2.2=true->0<l.length)/\Ck (B+2+2+5*l.length+4) (w.1,w.2.1,w.2.2.1)) ?_ fun w ⟨w1,w2⟩=>?_
   ·refine Tot.ite (fun hk=>?_) (fun _=>Tot.ret ⟨fun h=>(by cases h),Ck.mono (c:=v29.2) h29 (by omega)⟩)
    have hk':(l.length:Int)>0:=of_decide_eq_true hk
    refine Tot.idx (by omega) (by omega) fun v32 _=>?_
    refine Tot.ite (fun _=>?_) (fun _=>Tot.ret ⟨fun h=>(by cases h),Ck.mono (c:=v29.2) h29 (by omega)⟩)
    exact(yag1 h29 (by omega) _).bind fun v33 h33=>Tot.ret ⟨fun _=>(by omega),Ck.mono (c:=v33.2) h33 (by omega)⟩
   refine Tot.ite (fun hk=>?_) (fun _=>k3 _ _ hi' w2)
   have:=w1 hk
   unfold ypp;rw[Option.bind_some];refine Tot.idx (by omega) (by omega) fun v37 _=>?_
   refine Tot.ite (fun _=>?_) (fun _=>k3 _ _ hi' w2)
   exact(ykz _).bind fun v39 _=>k3 _ _ hi' w2
  have hi':¬ i<=v4.1:=of_decide_eq_false hi
  show l.length<=13
  omega
 unfold yle
 refine(yag1 hyc (by omega) _).bind fun v17 h17=>?_
 refine Tot.ite (fun _=>?_) (fun _=>k2 _ _ (by omega:B+2+2+50+2+10<=B+400) hy h17)
 refine Tot.bind (P:=fun z:List Int×Int×Int×List Pt=>z.2.2.2.length<=13/\cur4 z=v17.2) ?_ fun z ⟨hz,hzc⟩=>k2 (B+2+2+50+2) z (by omega) hz (by rw[hzc];exact h17)
 refine Tot.loop (fun x=>(x.1.length:Int)=x.2/\x.2<=12) (fun x=>(12-x.2).toNat) (fun x ⟨xl,xh⟩=>?_) _ ⟨by simp,by simp⟩
 obtain⟨l,i⟩:=x
 simp only at xl xh ⊢
 unfold ymh
 refine Tot.ite (fun hi=>?_) (fun hi=>Tot.inr ⟨by show l.length<=13;omega,rfl⟩)
 have hi':i<12:=of_decide_eq_true hi
 refine(you (by omega) (by omega) (by omega) (by omega)).bind fun v22 _=>?_
 refine(ykz _).bind fun v23 _=>?_
 have hw:w64 (i+1)=i+1:=yzb (by omega) (by omega)
 simp only[hw]
 exact Tot.guard (by simp;omega) (Tot.inl ⟨⟨by simp;omega,by show i+1<=_;omega⟩,by show(_-(i+1)).toNat<(_-i).toNat;omega⟩)
theorem yln1 {B:Nat} (hB:B<=100000) {c:Cur} (hc:Ck B c):Tot (yfg c) fun r=>(-1<=r.1/\r.1<=13)/\Ck (B+4) r.2:=by
 unfold yfg
 refine(yrn hc (by omega) _ (by simp)).bind fun v1 ⟨m1,h1⟩=>?_
 refine(yrn h1 (by omega) _ (by simp)).bind fun v2 ⟨m2,h2⟩=>Tot.ret ⟨?_,h2⟩
 simp only[List.mem_cons,List.not_mem_nil,or_false] at m1 m2
 omega
theorem ybb1 {l:List Int} (h:Bytes l):Tot (ygg l) fun r=>r.1.length<=13 /\ -1<=r.2/\r.2<=13:=by
 unfold ygg
 refine(ypu (by omega) (ck0 h)).bind fun v1 ⟨l1,h1⟩=>?_
 exact(yln1 (by omega) h1).bind fun v2 ⟨a,_⟩=>Tot.ret ⟨l1,a⟩
end Go.PV

/-
 Plain laws: intervals shrunk to what is mapped onto another one.
 Conditions: none.
-/
set_option linter.all false
namespace Go.PV
section
variable {n:Nat} {p:Nat->Pt}
noncomputable def isE (n:Nat) (p:Nat->Pt) (k:Iv) (x:Rt):Bool:=decide (atQ n p x=some k.1)||decide (atQ n p x=some k.2)
def inI (i:Iv) (x:Rt):Bool:= !less x i.1 && !less i.2 x
structure Plc (n:Nat) (p:Nat->Pt) (i k:Iv) (L:List Rt):Prop where
 srt:Srt L
 rats:Rats L
 mem:∀ x,x∈L↔((InB n p k.1 x\/InB n p k.2 x)/\inI i x=true)\/((x=i.1\/x=i.2)/\isE n p k x=true)
 len:L.length<=1000
structure PlcX (n:Nat) (p:Nat->Pt) (i k:Iv) (x:Rt):Prop where
 unit:isUnit x=true
 at':atQ n p x=some k.1\/atQ n p x=some k.2
 lo:less x i.1=false
 hi:less i.2 x=false
noncomputable def vl (n:Nat) (p:Nat->Pt) (x:Rt):Rt:=(atQ n p x).getD (0,0)
noncomputable def dif (n:Nat) (p:Nat->Pt) (e:Iv):Bool:=decide (vl n p e.1≠vl n p e.2)
noncomputable def fdi (n:Nat) (p:Nat->Pt) (L:List Rt):Option Iv:=match(L.zip L.tail).findIdx? (dif n p) with
 | some m=>some ((L.zip L.tail).getD m ((0,0),(0,0)))
 | none=>none
end
end Go.PV

/-
 Plain laws: shrunk intervals on both sides.
 Conditions: none.
-/
set_option linter.all false
namespace Go.PV
section
variable {n:Nat} {p:Nat->Pt} {i k:Iv}
theorem yis1 (a b:Rt):((a.1==b.1)&&(a.2==b.2))=decide (a=b):=by
 rw[Bool.eq_iff_iff,Bool.and_eq_true,beq_iff_eq,beq_iff_eq,decide_eq_true_iff]
 exact⟨fun h=>Prod.ext h.1 h.2,fun h=>by rw[h];exact⟨rfl,rfl⟩⟩
structure ShrOk (n:Nat) (p:Nat->Pt) (i k j:Iv):Prop where
 iv:isIv j=true
 ok:okI n p j=true
 cov:covI n p j k=true
 lo:less j.1 i.1=false
 hi:less i.2 j.2=false
end
end Go.PV

/-
 Plain laws: chains of intervals.
 Conditions: none.
-/
set_option linter.all false
namespace Go.PV
section
variable {n m:Nat} {p:Nat->Pt} {q:Nat->Iv}
noncomputable def flt (n:Nat) (p:Nat->Pt) (m:Nat) (q:Nat->Iv) (i:Nat):Bool:= !covI n p (q i) (q ((i+1) % m))
noncomputable def faL (n:Nat) (p:Nat->Pt) (m:Nat) (q:Nat->Iv) (i:Nat):List Int:=((List.range i).filter (flt n p m q)).map fun j:Nat=>(j:Int)
structure ShI (n:Nat) (p:Nat->Pt) (m:Nat) (q Q:Nat->Iv) (t:Nat):Prop where
 iv:∀ j,t<=j->j<m->isIv (Q j)=true/\less (Q j).1 (q j).1=false/\less (q j).2 (Q j).2=false
 shr:∀ j,t<=j->j+1<m->ShrOk n p (q j) (Q (j+1)) (Q j)
 lst:Q (m-1)=q (m-1)
def chB (m:Nat) (F:List Int):Bool:=match F with
 | []=>true
 | x::_=>x==((m:Int)-1)
end
end Go.PV

/-
 Plain laws: chains on both sides.
 Conditions: none.
-/
set_option linter.all false
namespace Go.PV
structure ChNo (f:List Pt) (l:List Iv):Prop where
 a1:yzs f l=some ([],false)
 a2:yat f l=some ([],false)
 b1:yhy f l=some (false,false)
 b2:yiy f l=some (false,false)
 c1:ytu f l=some (false,false)
 c2:ypb1 f l=some (false,false)
 d1:ydp f l=some ([],false)
 d2:yep f l=some ([],false)
structure ChYes (f:List Pt) (l:List Iv) (F:List Int):Prop where
 len:1<=l.length/\l.length<=8
 fl:F.length<=8
 a1:yzs f l=some (F,true)
 a2:yat f l=some (F,true)
 b1:yhy f l=some ((F.length:Int)==0,true)
 b2:yiy f l=some ((F.length:Int)==0,true)
 c1:ytu f l=some (chB l.length F,true)
 c2:ypb1 f l=some (chB l.length F,true)
 d:(ydp f l=some ([],false)/\yep f l=some ([],false))\/(chB l.length F=true/\∃ (n m:Nat) (p:Nat->Pt) (q Q:Nat->Iv),f=tab n p/\l=tab m q/\Curve n p/\1<=m/\m<=8/\(∀ a,a<m->isIv (q a)=true)/\yed f=some true/\ShI n p m q Q 0/\ydp f l=some (tab m Q,true)/\yep f l=some (tab m Q,true))
def apart (i k:Iv):Bool:=less i.2 k.1||less k.2 i.1
noncomputable def hsV (n:Nat) (p:Nat->Pt) (i k:Iv):Bool×Bool:=if okI n p i=true/\okI n p k=true then(apart i k&&covI n p i i&&covI n p i k&&covI n p k i&&covI n p k k,true) else(false,false)
end Go.PV

/-
 Plain laws: draws of intervals always come to an end.
 Conditions: none.
-/
set_option linter.all false
namespace Go.PV
structure Part (l:List Rt):Prop where
 srt:Srt l
 unit:∀ x∈l,isUnit x=true
 two:2<=l.length
section
variable {n:Nat} {p:Nat->Pt}
theorem you1 (f:List Pt) (hf:f.length<=1048576):ygw f=some (f.map (·.1)):=by
 unfold ygw
 have hx:=yuc (body:=ylm f) f.length (fun i=>((f.take i).map (·.1),(i:Int))) (f.map (·.1)) (fun i hi=>by
  simp only[ylm,show((i:Int)<(f.length:Int)) from by omega,decide_true,if_true,yno hi,Option.bind_some];rw[yea (by simp;omega),yva (show i<9223372036854775807 by omega),List.take_succ_eq_append_getElem hi,List.map_append]
  rfl) (by
  simp only[ylm,Int.lt_irrefl,decide_false,Bool.false_eq_true,if_false,List.take_length])
 have hx:loopO (ylm f) ([],0)=some (f.map (·.1)):=hx
 rw[hx];rfl
end
end Go.PV

/-
 Plain laws: draws of chains always come to an end.
 Conditions: none.
-/
set_option linter.all false
namespace Go.PV
def AllIv (l:List Iv):Prop:=∀ x∈l,isIv x=true
section
variable {n:Nat} {p:Nat->Pt}
end
end Go.PV

/-
 Plain laws: partitions,and values that are cuts,on both sides.
 Conditions: none.
-/
set_option linter.all false
namespace Go.PV
def fdI (xs:List Rt) (y:Rt):Int:=match xs.findIdx? fun x=>decide (y=x) with | some i=>(i:Int) | none => -1
structure Prt (l:List Rt):Prop where
 lo:2<=l.length
 hi:l.length<=9
 unit:∀ x∈l,isUnit x=true
 srt:Srt l
 fst:l[0]?=some (0,1)
 lst:l[l.length-1]?=some (1,1)
theorem yey1 {l:List Rt} (hr:Rats l) (h:∀ i (hi:i+1<l.length),less l[i] l[i+1]=true):Srt l:=by
 refine List.pairwise_iff_getElem.2 ?_
 have key:∀ d i (hi:i+d+1<l.length),less l[i] l[i+d+1]=true:=by
  intro d;induction d with
  | zero=>exact fun i hi=>h i hi
  | succ d ih =>
   intro i hi;exact yoa2 (hr _ (List.getElem_mem _)) (hr _ (List.getElem_mem _)) (hr _ (List.getElem_mem _)) (ih i (by omega)) (h (i+d+1) (by omega))
 intro i j hi hj hij
 obtain⟨d,rfl⟩:∃ d,j=i+d+1:=⟨j-i-1,by omega⟩
 exact key d i hj
section
variable {n:Nat} {p:Nat->Pt} {xs:List Rt}
def AllV (n:Nat) (p:Nat->Pt) (xs:List Rt):Prop:=∀ x∈xs,∃ y,atQ n p x=some y
def Clo (n:Nat) (p:Nat->Pt) (xs:List Rt):Prop:=∀ x∈xs,∃ y,atQ n p x=some y/\y∈xs
theorem Clo.all (h:Clo n p xs):AllV n p xs:=fun x hx=>by obtain⟨y,e,_⟩:=h x hx;exact⟨y,e⟩
structure ValOk (n:Nat) (p:Nat->Pt) (xs:List Rt) (v:List Rt×Bool):Prop where
 rats:Rats v.1
 len:v.1.length=xs.length
 yes:v.2=false->AllV n p xs/\∀ y,y∈v.1↔∃ x∈xs,atQ n p x=some y
 no:v.2=true->¬ AllV n p xs
structure PlaOk (n:Nat) (p:Nat->Pt) (xs:List Rt) (l:List Int):Prop where
 len:l.length=xs.length
 at':∀ i (hi:i<xs.length) (hl:i<l.length),∃ y,atQ n p xs[i]=some y/\l[i]=fdI xs y
end
end Go.PV

/-
 Plain laws: points between pieces of the same slope left out,on both sides.
 Conditions: none.
-/
set_option linter.all false
namespace Go.PV
structure Zig (n:Nat) (p:Nat->Pt):Prop where
 lo:2<=n
 hi:n<=100000
 x:∀ i,i<n->coord (p i).1=true
 y:∀ i,i<n->coord (p i).2=true
 up:∀ i,0<i->i<n->less (p (i-1)).1 (p i).1=true
def kpS (n:Nat) (p:Nat->Pt) (i:Nat):Bool:=i==0||i+1==n || !decide (slopeQ (p (i-1)) (p i)=slopeQ (p i) (p (i+1)))
def simI (n:Nat) (p:Nat->Pt) (k:Nat):List Nat:=(List.range k).filter (kpS n p)
def simL (n:Nat) (p:Nat->Pt):List Pt:=(simI n p n).map p
theorem ywn (n:Nat) (p:Nat->Pt) (k:Nat):simI n p (k+1)=if kpS n p k=true then simI n p k++[k] else simI n p k:=by
 unfold simI
 rw[List.range_succ,List.filter_append]
 by_cases h:kpS n p k=true
 ·rw[if_pos h];simp[List.filter_cons,h]
 rw[if_neg h];simp[List.filter_cons,h]
theorem ycb1 (n:Nat) (p:Nat->Pt) (k:Nat):(simI n p k).length<=k:=by
 unfold simI
 have:=List.length_filter_le (kpS n p) (List.range k)
 rw[List.length_range] at this
 exact this
section
variable {n:Nat} {p:Nat->Pt}
theorem Zig.piece (h:Zig n p) {i:Nat} (hi:i+1<n):∃ u v,SlopeOk (p i) (p (i+1)) u v :=
 yeh1 (h.x i (by omega)) (ypc (h.y i (by omega))) (h.x (i+1) hi) (ypc (h.y (i+1) hi)) (h.up (i+1) (by omega) hi)
theorem ymn1 (p:Nat->Pt):simI n p 1=[0]:=by simp[simI,List.range_succ,kpS]
theorem ynn1 (h:Zig n p):yqi (tab n p)=some (slopesT n p):=by
 have h2:=h.lo
 have hn:=h.hi
 have hx:=yqa1 (body:=yze (tab n p)) (n-1) (fun l i=>(false,l,((i+1:Nat):Int))) (fun i=>slopeQ (p i) (p (i+1))) (slopesT n p) (fun i hi=>by
  obtain⟨u,v,hs⟩:=h.piece (i:=i) (by omega)
  simp only[yze,yqa,yxj (show 0<i+1 by omega) (by omega),Nat.add_sub_cancel,yna (show i<n by omega),yna (show i+1<n by omega),show(((i+1:Nat):Int)<(n:Int)) from by omega,decide_true,if_true,Option.bind_some,ybn (h.x i (by omega)) (ypc (h.y i (by omega))) (h.x (i+1) (by omega)) (ypc (h.y (i+1) (by omega))) hs false,yva (show i+1<9223372036854775807 by omega)]
  rw[yea (by simp;omega)]) (by
  simp only[yze,yqa,show ¬ (((n-1+1:Nat):Int)<(n:Int)) from by omega,decide_false,Bool.false_eq_true,if_false];rfl)
 unfold yqi
 rw[show(1:Int)=((0+1:Nat):Int) from rfl,hx];rfl
theorem ycc1 (h:Zig n p):ywq (tab n p)=some (simL n p):=by
 have h2:=h.lo
 have hn:=h.hi
 have hw:w64 ((n:Int)-1)=((n-1:Nat):Int):=yxj (by omega) (by omega)
 have hx:=yuc (body:=yui (tab n p) (slopesT n p)) (n-2) (fun i=>((simI n p (i+1)).map p,((i+1:Nat):Int))) ((simI n p (n-1)).map p) (fun i hi=>by
  have hlen:=ycb1 n p (i+1)
  simp only[yui,yqa,hw,show(((i+1:Nat):Int)<((n-1:Nat):Int)) from by omega,decide_true,if_true,yxj (show 0<i+1 by omega) (by omega),Nat.add_sub_cancel,slopesT,yna (show i<n-1 by omega),yna (show i+1<n-1 by omega),yna (show i+1<n by omega),Option.bind_some,yis1,yva (show i+1<9223372036854775807 by omega)]
  rw[ywn n p (i+1)];have hk:kpS n p (i+1) = !decide (slopeQ (p i) (p (i+1))=slopeQ (p (i+1)) (p (i+1+1))):=by
   unfold kpS;have e1:(i+1==0)=false:=by simp
   have e2:(i+1+1==n)=false:=by simp;omega
   rw[e1,e2];simp
  rw[hk];cases hd:decide (slopeQ (p i) (p (i+1))=slopeQ (p (i+1)) (p (i+1+1)))
  ·simp only[Bool.not_false,if_true]
   rw[yea (by simp;omega),List.map_append];rfl
  ·simp only[Bool.not_true,Bool.false_eq_true,if_false]) (by
  simp only[yui,yqa,hw,show n-2+1=n-1 by omega,Int.lt_irrefl,decide_false,Bool.false_eq_true,if_false])
 unfold ywq
 rw[ynn1 h,Option.bind_some,yiz (by omega),Option.bind_some]
 rw[show(0:Nat)+1=1 from rfl,ymn1] at hx
 have hx:loopO (yui (tab n p) (slopesT n p)) ([p 0],1)=some ((simI n p (n-1)).map p):=hx
 rw[hx,Option.bind_some]
 unfold yzn
 have hlen:=ycb1 n p (n-1)
 rw[yqa,hw,yna (show n-1<n by omega),Option.bind_some,yea (by simp;omega)]
 have hk:kpS n p (n-1)=true:=by
  unfold kpS;have:(n-1+1==n)=true:=by simp;omega
  rw[this];simp
 have:=ywn n p (n-1)
 rw[show n-1+1=n by omega,hk,if_pos rfl] at this
 unfold simL
 rw[this,List.map_append];rfl
theorem yck1 {body:List Pt×Int->Option ((List Pt×Int) ⊕ List Pt)} (h:Zig n p)
  (hb:∀ (l:List Pt) (i:Nat),l.length<=200000->i+1<n->body (l,((i+1:Nat):Int))=some (.inl (if kpS n p (i+1)=true then l++[p (i+1)] else l,((i+1+1:Nat):Int)))) (he:∀ l,body (l,(n:Int))=some (.inr l)):loopO body ([p 0],1)=some (simL n p):=by
 have h2:=h.lo
 have hn:=h.hi
 have hx:=yuc (body:=body) (n-1) (fun i=>((simI n p (i+1)).map p,((i+1:Nat):Int))) (simL n p) (fun i hi=>by
  have hlen:=ycb1 n p (i+1)
  rw[hb _ i (by simp;omega) (by omega),ywn n p (i+1)]
  cases kpS n p (i+1)
  ·simp
  ·simp) (by
  show body (_,((n-1+1:Nat):Int))=_
  rw[show n-1+1=n by omega,he];rfl)
 rw[show(0:Nat)+1=1 from rfl,ymn1] at hx
 exact hx
theorem yuy (h:Zig n p):yys (tab n p)=some (simL n p):=by
 have h2:=h.lo
 have hn:=h.hi
 unfold yys
 rw[yiz (by omega),Option.bind_some,yck1 (body:=yxl (tab n p)) h (fun l i hl hi=>?_) fun l=>?_]
 ·rfl
 ·obtain⟨u,v,hs⟩:=h.piece (i:=i) (by omega)
  have hw:w64 (((i+1:Nat):Int)+1)=((i+1+1:Nat):Int):=yva (by omega)
  simp only[yxl,yqa,show(((i+1:Nat):Int)<(n:Int)) from by omega,decide_true,if_true,hw];by_cases hlt:i+1+1<n
  ·obtain⟨u2,v2,hs2⟩:=h.piece hlt
   have hk:kpS n p (i+1) = !decide (slopeQ (p i) (p (i+1))=slopeQ (p (i+1)) (p (i+1+1))):=by
    unfold kpS;have e1:(i+1==0)=false:=by simp
    have e2:(i+1+1==n)=false:=by simp;omega
    rw[e1,e2];simp
   have hne:((((i+1+1:Nat):Int)==(n:Int))=false):=by simp;omega
   simp only[hne,Bool.false_eq_true,if_false,yxj (show 0<i+1 by omega) (show i+1<4611686018427387904 by omega),Nat.add_sub_cancel,yna (show i<n by omega),yna hi,yna hlt,Option.bind_some,yej (h.x i (by omega)) (ypc (h.y i (by omega))) (h.x (i+1) hi) (ypc (h.y (i+1) hi)) hs,yej (h.x (i+1) hi) (ypc (h.y (i+1) hi)) (h.x (i+1+1) hlt) (ypc (h.y (i+1+1) hlt)) hs2,yis1,hk]
   cases decide (slopeQ (p i) (p (i+1))=slopeQ (p (i+1)) (p (i+1+1)))
   ·simp only[Bool.not_false,if_true]
    rw[yea (by simp;omega)]
   simp only[Bool.not_true,Bool.false_eq_true,if_false]
  have e:i+1+1=n:=by omega
  have hk:kpS n p (i+1)=true:=by
   unfold kpS;have e2:(i+1+1==n)=true:=by simp;omega
   rw[e2];simp
  simp only[e,hk,beq_self_eq_true,if_true,Option.bind_some,yna hi];rw[yea (by simp;omega)]
 simp only[yxl,yqa,Int.lt_irrefl,decide_false,Bool.false_eq_true,if_false]
end
end Go.PV

/-
 Plain laws: the fine sequence of places of a composition.
 Conditions: none.
-/
set_option linter.all false
namespace Go.PV
theorem yfy1 {n:Nat} {p:Nat->Pt} (h:Curve n p) {j:Nat} (hj:j+1<n) {y x:Rt} (hy:isRat y=true) (hc:Crs p j y) (hb:backQ (p j) (p (j+1)) y=some x):val (p j).1<val x/\val x<val (p (j+1)).1:=by
 obtain⟨u0,v0,hs⟩:=h.piece hj
 obtain⟨u,eu,hb⟩:=Option.bind_eq_some_iff.1 hb
 obtain⟨v,ev,hx⟩:=Option.bind_eq_some_iff.1 hb
 have rx:=ylu hx
 have ry0:=h.yr (show j<n by omega)
 have rx0:=h.xr (show j<n by omega)
 have q1:=yme hy ry0 eu
 have q2:=divQ_val' (yem eu) hs.rs ev
 have q3:=yva1 rx0 (yoa1 ev) hx
 have q4:=yme (h.yr hj) ry0 hs.up
 have q5:=yme (h.xr hj) rx0 hs.far
 have q6:=divQ_val' hs.ru hs.rv hs.div
 have hxl:=h.xlt (show j<j+1 by omega) hj
 have key:0<val v/\val v<val v0:=by
  have hv0:0<val v0:=by rw[q5];grind
  have hcr:=yes1 h hj hy hc;clear hb hx ev eu;generalize val (slopeQ (p j) (p (j+1)))=s at *
  generalize val v=t at *
  generalize val v0=d at *
  have dd:∀ a:Rat,0<=s->a<=0->a*s<=0:=fun a h1 h2=>by have:=Rat.mul_nonneg (show 0 <= -a by grind) h1;grind
  have de:∀ a:Rat,s<=0->a<=0->0<=a*s:=fun a h1 h2=>by have:=Rat.mul_nonneg (show 0 <= -a by grind) (show 0 <= -s by grind);grind
  have m1:∀ a:Rat,0<=a->0<=s->0<=a*s:=fun a h1 h2=>Rat.mul_nonneg h1 h2
  have m2:∀ a:Rat,0<=a->s<=0->a*s<=0:=fun a h1 h2=>by have:=Rat.mul_nonneg h1 (show 0 <= -s by grind);grind
  rcases hcr with⟨c1,c2⟩ | ⟨c1,c2⟩
  ·have hs0:0<=s:=by
    rcases Rat.le_total (a:=0) (b:=s) with h1 | h1
    ·exact h1
    have:=m2 d (by grind) h1;grind
   constructor
   ·refine Classical.byContradiction fun hno=>?_
    have:=dd t hs0 (by grind);grind
   refine Classical.byContradiction fun hno=>?_
   have:=m1 (t-d) (by grind) hs0;grind
  have hs0:s<=0:=by
   rcases Rat.le_total (a:=0) (b:=s) with h1 | h1
   ·have:=m1 d (by grind) h1;grind
   exact h1
  constructor
  ·refine Classical.byContradiction fun hno=>?_
   have:=de t hs0 (by grind);grind
  refine Classical.byContradiction fun hno=>?_
  have:=m2 (t-d) (by grind) hs0;grind
 exact⟨by rw[q3];grind,by rw[q3];grind⟩
theorem yqa2 {n:Nat} {p:Nat->Pt} (h:Curve n p) {j:Nat} (hj:j+1<n) {y:Rt} (hy:isRat y=true) (hc:(val (p j).2<val y/\val y<val (p (j+1)).2)\/(val (p (j+1)).2<val y/\val y<val (p j).2)):Crs p j y:=by
 unfold Crs
 rcases yjz (yic (h.yr (show j<n by omega))) (yic hy) with⟨e1,v1⟩ | ⟨e1,v1⟩ | ⟨e1,v1⟩ <;> rcases yjz (yic (h.yr hj)) (yic hy) with⟨e2,v2⟩ | ⟨e2,v2⟩ | ⟨e2,v2⟩ <;> rw[e1,e2] <;> first | decide | (exfalso;grind)
structure Fine (n:Nat) (p:Nat->Pt) (m:Nat) (q:Nat->Pt) (K:Nat) (X z y:Nat->Rt):Prop where
 cp:Curve n p
 wp:Ways n p
 cq:Curve m q
 wq:Ways m q
 k2:2<=K
 up:∀ j,j+1<K->val (X j)<val (X (j+1))
 u:∀ j,j<K->isUnit (X j)=true
 gap:∀ j,j+1<K->∀ x,((∃ i,i<m/\x=(q i).1)\/(∃ i,i<n/\InB m q (p i).1 x))->val x<=val (X j)\/val (X (j+1))<=val x
 fst:val (X 0)=0
 lst:val (X (K-1))=1
 bo:∀ i,i<n->BefOk m q (p i).1
 vz:∀ j,j<K->atQ m q (X j)=some (z j)
 uz:∀ j,j<K->isUnit (z j)=true
 vy:∀ j,j<K->atQ n p (z j)=some (y j)
section
variable {n m K:Nat} {p q:Nat->Pt} {X z y:Nat->Rt}
theorem Fine.piece (h:Fine n p m q K X z y) {j:Nat} (hj:j+1<K):∃ i,i+1<m/\OnP q i (X j) (z j)/\OnP q i (X (j+1)) (z (j+1)):=by
 have u1:=h.u j (by omega)
 have u2:=h.u (j+1) hj
 have v2:=(yne (ymd u2)).1 u2
 have hup:=h.up j hj
 obtain⟨i,i1,i2,i3⟩:=yus h.cq u1 (by grind)
 have i4:val (X (j+1))<=val (q (i+1)).1:=by
  rcases h.gap j hj _ (.inl ⟨i+1,i1,rfl⟩) with g | g
  ·grind
  exact g
 obtain⟨a,ha⟩:=yao1 h.cq u1
 obtain⟨b,hb⟩:=yao1 h.cq u2
 obtain⟨a1,a2⟩:=yzm1 h.cq u1 ha (h.vz j (by omega))
 obtain⟨b1,b2⟩:=yzm1 h.cq u2 hb (h.vz (j+1) hj)
 exact⟨i,i1,yfy h.cq i1 a1 a2 i2 (by grind),yfy h.cq i1 b1 b2 (by grind) i4⟩
theorem Fine.seg (h:Fine n p m q K X z y) {j:Nat} (hj:j+1<K):Seg (cutsT n p) (z j) (z (j+1)):=by
 obtain⟨i,i1,oa,ob⟩:=h.piece hj
 have hup:=h.up j hj
 have hway:=yab1 h.wq i1
 have pu:=(ybq h.cq i1 oa ob hway).1 hup
 obtain⟨c1,c2⟩:=yaq1 h.cq i1
 have pa:=(ybq h.cq i1 c1 oa hway).2 oa.lo
 have pb:=(ybq h.cq i1 ob c2 hway).2 ob.hi
 have cut:∀ c∈cutsT n p,¬ ((val (z j)<val c/\val c<val (z (j+1)))\/(val (z (j+1))<val c/\val c<val (z j))):=fun c hc hh=>by
  obtain⟨k,hk,rfl⟩:=List.mem_map.1 hc;have hkn:k<n:=by have:=tnL_mem.1 hk;have:=h.cp.lo;omega
  have hr:=h.cp.xr hkn;have hcr:Crs q i (p k).1:=yqa2 h.cq i1 hr (by
   rcases h.wq i i1 with⟨w,_⟩ | ⟨w,_⟩ <;> simp only[w] at pu pa pb <;> grind)
  obtain⟨x,hx⟩:=Option.ne_none_iff_exists'.1 (h.bo k hkn i i1 hcr)
  have hin:=yfy1 h.cq i1 hr hcr hx;obtain⟨ux,vx⟩:=yfs1 h.cq i1 hr hcr hx;obtain⟨a,ha⟩:=yao1 h.cq ux;obtain⟨a1,a2⟩:=yzm1 h.cq ux ha vx;have ox:=yfy h.cq i1 a1 a2 (by grind) (by grind)
  rcases h.gap j hj x (.inr ⟨k,hkn,.inr ⟨i,i1,hcr,hx⟩⟩) with g | g
  ·have:=(ybq h.cq i1 ox oa hway).2 g
   rcases h.wq i i1 with⟨w,_⟩ | ⟨w,_⟩ <;> simp only[w] at pu this <;> grind
  have:=(ybq h.cq i1 ob ox hway).2 g
  rcases h.wq i i1 with⟨w,_⟩ | ⟨w,_⟩ <;> simp only[w] at pu this <;> grind
 rcases h.wq i i1 with⟨w,_⟩ | ⟨w,_⟩ <;> simp only[w] at pu
 ·left
  exact⟨by grind,fun c hc hh=>cut c hc (.inl hh)⟩
 right
 exact⟨by grind,fun c hc hh=>cut c hc (.inr hh)⟩
theorem Fine.tq (h:Fine n p m q K X z y):tq z K=tq (fun i=>(q i).2) m:=by
 have hm2:=h.cq.lo
 have hx0:val (q 0).1=0:=by rw[h.cq.fst];exact ypm 0
 have hx1:val (q (m-1)).1=1:=by rw[h.cq.lst];exact ypm 1
 have vert:∀ j i,j<K->i<m->val (X j)=val (q i).1->z j=(q i).2:=fun j i hj hi e=>by
  have:X j=(q i).1:=yvi1 (ymd (h.u j hj)) (h.cq.xr hi) e
  have e1:=h.vz j hj;rw[this,yae1 h.cq hi] at e1;exact(Option.some.inj e1).symm
 obtain⟨i,hR,e⟩:=yen1 (z:=z) (b:=fun i=>(q i).2) (K:=K) (fun j i=>i<m/\val (X j)<=val (q i).1/\(1<=i->val (q (i-1)).1<val (X j))) ⟨by omega,by rw[h.fst,hx0];exact Rat.le_refl,fun h=>by omega⟩ (fun j i hj ⟨r1,r2,r3⟩=>by
  have hup:=h.up j hj;have u2:=h.u (j+1) hj
  have v2:=(yne (ymd u2)).1 u2
  by_cases he:val (X j)=val (q i).1
  ·left
   have hlt:i+1<m:=by
    rcases Nat.lt_or_ge (i+1) m with hh | hh
    ·exact hh
    have:i=m-1:=by omega
    subst this;grind
   refine⟨vert j i (by omega) r1 he,hlt,?_,fun _=>by rw[Nat.add_sub_cancel];grind⟩
   have:=h.cq.xlt (show i<i+1 by omega) hlt
   rcases h.gap j hj _ (.inl ⟨i+1,hlt,rfl⟩) with g | g
   ·grind
   exact g
  right
  have hi1:1<=i:=by
   rcases Nat.eq_zero_or_pos i with h0 | h0
   ·subst h0
    have u1:=h.u j (by omega)
    have v1:=(yne (ymd u1)).1 u1
    grind
   exact h0
  have r3':=r3 hi1
  have g1:val (X (j+1))<=val (q i).1:=by
   rcases h.gap j hj _ (.inl ⟨i,r1,rfl⟩) with g | g
   ·grind
   exact g
  refine⟨hi1,⟨r1,g1,fun _=>by grind⟩,?_⟩
  obtain⟨a,rfl⟩:∃ a,i=a+1:=⟨i-1,by omega⟩
  rw[Nat.add_sub_cancel] at r3' ⊢
  obtain⟨i',i1,oa,ob⟩:=h.piece hj;have ha:=yfy h.cq r1 i1 oa (by grind) (by grind)
  have hb:=yfy h.cq r1 i1 ob (by grind) (by grind)
  have hway:=yab1 h.wq r1;obtain⟨c1,c2⟩:=yaq1 h.cq r1;have p1:=(ybq h.cq r1 c1 ha hway).1 r3'
  have p2:=(ybq h.cq r1 ha hb hway).1 hup
  refine⟨((wayOf q a:Int):Rat),?_,p1,p2⟩
  rcases h.wq a r1 with⟨w,_⟩ | ⟨w,_⟩
  ·left;rw[w];rfl
  right;rw[w];rfl) (K-1) (by have:=h.k2;omega)
 have hk:=h.k2
 rw[show K-1+1=K from by omega] at e
 obtain⟨r1,r2,r3⟩:=hR
 have him:i=m-1:=by
  rcases Nat.lt_or_ge i (m-1) with hh | hh
  ·have:=h.cq.xlt hh (by omega)
   have hl:=h.lst;grind
  omega
 subst him
 rw[e,vert (K-1) (m-1) (by omega) (by omega) (by rw[h.lst,hx1])]
 show Go.PV.tq (fun i=>(q i).2) (m-1+1)=_
 rw[show m-1+1=m from by omega]
end
end Go.PV

/-
  Plain laws of what the functions answer.
  Conditions: none.
-/
import Derived.KernelRfl
import Derived.Test.YtigabkbbbpokbaaGreatPvCx
import Derived.Test.YtigabkbbbpokbaaGreatDf
set_option linter.all false
/-
 Plain laws: bounds,lists of numbers,vectors.
 Conditions: none.
-/
namespace Go.PV
def inB (a b n:Int):Bool:=decide (a<=n)&&decide (n<=b)
theorem inB_iff {a b n:Int}:inB a b n=true↔a<=n/\n<=b:=by simp[inB]
theorem yvk (v a b:Int):yoo v a b=some (inB a b v):=rfl
theorem ypl (v a b:Int):ycl v a b=some (inB a b v):=rfl
def isVec (xs:List Int):Bool:=inB 1 8 xs.length&&xs.all (inB 1 1000000)
end Go.PV

/-
 Plain laws: lists and tables by their places.
 Conditions: none.
-/
namespace Go.PV
section
variable {α β:Type}
def tab (n:Nat) (f:Nat->α):List α:=(List.range n).map f
theorem yxa (n:Nat) (f:Nat->α):(tab n f).length=n:=by simp[tab]
theorem yqx {n i:Nat} {f:Nat->α} (h:i<n):(tab n f)[i]?=some (f i):=by simp[tab,h]
theorem yfs {n i:Nat} {f:Nat->α} (h:n<=i):(tab n f)[i]?=none:=by simp[tab,h]
theorem yma {n i:Nat} {f:Nat->α} (h:i<n):idxO (tab n f) (i:Int)=some (f i):=by rw[ylt,yqx h]
theorem yjr {n:Nat} {f g:Nat->α} (h:∀ i,i<n->f i=g i):tab n f=tab n g:=List.map_congr_left fun i hi=>h i (List.mem_range.1 hi)
theorem ybw {n i:Nat} {f:Nat->α} {v:α} (h:i<n):(tab n f).set i v=tab n (fun k=>if k=i then v else f k):=by
 apply List.ext_getElem?
 intro j
 rw[List.getElem?_set]
 by_cases hij:i=j
 ·subst hij
  rw[if_pos rfl,if_pos (by rw[yxa];exact h),yqx h,if_pos rfl]
 rw[if_neg hij]
 by_cases hj:j<n
 ·rw[yqx hj,yqx hj,if_neg (Ne.symm hij)]
 rw[yfs (by omega),yfs (by omega)]
theorem ybi1 (n:Nat) (v:α):List.replicate n v=tab n (fun _=>v):=by
 apply List.ext_getElem?
 intro j
 by_cases hj:j<n
 ·rw[yqx hj];simp[hj]
 rw[yfs (by omega)];simp[hj]
theorem ygg1 (n:Nat) (f:Nat->α):tab n f++[f n]=tab (n+1) f:=by simp[tab,List.range_succ]
theorem yms1 (f:Nat->α):tab 0 f=[]:=rfl
theorem yzl1 [Inhabited α] (xs:List α):xs=tab xs.length (fun i=>xs.getD i default):=by
 apply List.ext_getElem?
 intro j
 by_cases hj:j<xs.length
 ·rw[yqx hj];simp[hj]
 rw[yfs (by omega)];simp;omega
theorem tab_mem {n:Nat} {f:Nat->α} {x:α}:x∈tab n f↔∃ i,i<n/\f i=x:=by simp[tab]
def mat (n m:Nat) (f:Nat->Nat->α):List (List α):=tab n fun i=>tab m (f i)
theorem yqu {n m:Nat} {f g:Nat->Nat->α} (h:∀ i j,i<n->j<m->f i j=g i j):mat n m f=mat n m g:=yjr fun i hi=>yjr fun j hj=>h i j hi hj
theorem ymq1 {n m i j:Nat} {f:Nat->Nat->α} {v:α} (hi:i<n) (hj:j<m):(mat n m f).set i ((tab m (f i)).set j v)=mat n m (fun a b=>if a=i/\b=j then v else f a b):=by
 unfold mat
 rw[ybw hi,ybw hj]
 refine yjr fun a _=>?_
 by_cases ha:a=i
 ·subst ha;simp
 rw[if_neg ha];exact yjr fun b _=>by simp[ha]
theorem yam1 {n m i j:Nat} {f:Nat->Nat->α} {r:Nat->α} {v:α} (hi:i<n) (hj:j<m):(mat n m f).set i ((tab m r).set j v)=mat n m (fun a b=>if a=i then(if b=j then v else r b) else f a b):=by
 unfold mat
 rw[ybw hi,ybw hj]
 refine yjr fun a _=>?_
 by_cases ha:a=i
 ·subst ha;simp
 rw[if_neg ha];exact yjr fun b _=>by simp[ha]
theorem ymt (n m:Nat) (f:Nat->Nat->α):(mat n m f).length=n:=yxa _ _
theorem ysq {n m i:Nat} {f:Nat->Nat->α} (h:i<n):idxO (mat n m f) (i:Int)=some (tab m (f i)):=yma h
def foldN (n:Nat) (g:β->Nat->β) (s:β):β:=(List.range n).foldl g s
theorem ynt (n:Nat) (g:β->Nat->β) (s:β):foldN (n+1) g s=g (foldN n g s) n:=by simp[foldN,List.range_succ]
theorem ybm1 (g:β->Nat->β) (s:β):foldN 0 g s=s:=rfl
theorem ybp1 {n:Nat} {g h:β->Nat->β} {s:β} (H:∀ b i,i<n->g b i=h b i):foldN n g s=foldN n h s:=by
 induction n with
 | zero=>rfl
 | succ n ih=>rw[ynt,ynt,ih fun b i hi=>H b i (by omega),H _ _ (by omega)]
end
end Go.PV

/-
 Plain laws: graphs,numbers of walks.
 Conditions: none.
-/
namespace Go.PV
def sized (g:List (List Int)):Prop:=g.length<=1048576/\∀ row∈g,row.length<=1048576
def isGraph (g:List (List Int)):Bool:=inB 1 8 g.length&&g.all fun row=>(row.length:Int)==g.length&&row.all (inB 0 9)
end Go.PV

/-
 Plain laws: marks on lists,and that they are held.
 Conditions: none.
-/
set_option linter.all false
namespace Go.PV
section
variable {α:Type}
def marks (w:Nat) (f:Int->α) (n:Nat) (k:Int):List α:=tab n fun i=>f (k+(w:Int)*i)
end
def markI (n:Nat) (k:Int):List Int:=marks 1 (fun c=>c) n k
def markR (n:Nat) (k:Int):List (Int×Int):=marks 2 (fun c=>(c,c+1)) n k
end Go.PV

/-
 Plain laws: powers of graphs' tables,numbers of all walks.
 Conditions: none.
-/
namespace Go.PV
def capMul (most acc w a:Int):Int:=if most<w64 (acc+w64 (w*a)) then most else w64 (acc+w64 (w*a))
def powStep (n:Nat) (G:Nat->Nat->Int) (most:Int) (F:Nat->Nat->Int):Nat->Nat->Int:=fun i j=>foldN n (fun acc k=>capMul most acc (F i k) (G k j)) 0
def idM:Nat->Nat->Int:=fun i j=>if i=j then 1 else 0
def powN (n:Nat) (G:Nat->Nat->Int) (most:Int):Nat->Nat->Nat->Int
 | 0=>idM
 | m+1=>powStep n G most (powN n G most m)
theorem yhj (n:Nat) (hn:n<=1048576):ydg (n:Int)=some (mat n n fun _ _=>0):=by
 have hx:=yrc (body:=ylg (n:Int)) n (fun i=>(tab n (fun a=>if a<i then tab n (fun _=>(0:Int)) else[]),(i:Int))) (mat n n fun _ _=>0) (fun i hi=>by
  simp only[ylg,Int.toNat_natCast,List.length_replicate,yma hi,Option.bind_some,yya (show i<9223372036854775807 by omega),show((i:Int)<(n:Int)) from by omega,decide_true,if_true]
  rw[ybw hi,ybi1];congr 3
  refine yjr fun a _=>?_
  by_cases h1:a=i
  ·subst h1;simp
  ·by_cases h2:a<i
   ·simp[h1,h2,show a<i+1 by omega]
   simp[h1,h2,show ¬ a<i+1 by omega]) (by
  simp only[ylg,Int.toNat_natCast,List.length_replicate,Int.lt_irrefl,decide_false,Bool.false_eq_true,if_false];congr 2
  exact yjr fun a ha=>by simp[ha])
 unfold ydg
 rw[yea (by omega),Int.toNat_natCast,ybi1]
 simp only[Nat.not_lt_zero,if_false] at hx
 rw[show(0:Int)=((0:Nat):Int) from rfl,hx]
 rfl
section impl
variable {n:Nat} {G:Nat->Nat->Int} {most:Int}
theorem ybw1 (hn:n<=8) {i k:Nat} (hi:i<n) (N:Nat->Nat->Int) (X:List (List Int)) (w:Int) :
  loopO (yxe most (X,(i:Int)) w (tab n (G k))) (mat n n N,0)=some (mat n n (fun a b=>if a=i then capMul most (N a b) w (G k b) else N a b)):=by
 have hx:=yrc (body:=yxe most (X,(i:Int)) w (tab n (G k))) n (fun j=>(mat n n (fun a b=>if a=i/\b<j then capMul most (N a b) w (G k b) else N a b),(j:Int))) (mat n n (fun a b=>if a=i then capMul most (N a b) w (G k b) else N a b)) (fun j hj=>by
  simp only[yxe,yxa,yma hj,ysq hi,Option.bind_some,yya (show j<9223372036854775807 by omega),show((j:Int)<(n:Int)) from by omega,decide_true,if_true,Int.toNat_natCast]
  rw[yam1 hi hj];congr 3
  refine yqu fun a b _ _=>?_
  by_cases ha:a=i
  ·subst ha
   by_cases hb:b=j
   ·subst hb;simp[capMul]
   by_cases h2:b<j
   ·simp[hb,h2,show b<j+1 by omega]
   simp[hb,h2,show ¬ b<j+1 by omega]
  ·simp[ha]) (by
  simp only[yxe,yxa,Int.lt_irrefl,decide_false,Bool.false_eq_true,if_false];congr 2
  exact yqu fun a b _ hb=>by simp[hb])
 simpa using hx
theorem ycw1 (hn:n<=8) {i:Nat} (hi:i<n) (N:Nat->Nat->Int) (X:List (List Int)) (w:Nat->Int) :
  loopO (yye (mat n n G) most (X,(i:Int)) (tab n w)) (mat n n N,0)=some (mat n n (fun a b=>if a=i then foldN n (fun acc k=>capMul most acc (w k) (G k b)) (N a b) else N a b)):=by
 have hx:=yrc (body:=yye (mat n n G) most (X,(i:Int)) (tab n w)) n (fun k=>(mat n n (fun a b=>if a=i then foldN k (fun acc k=>capMul most acc (w k) (G k b)) (N a b) else N a b),(k:Int))) (mat n n (fun a b=>if a=i then foldN n (fun acc k=>capMul most acc (w k) (G k b)) (N a b) else N a b)) (fun k hk=>by
  simp only[yye,yxa,yma hk,ysq hk,Option.bind_some,ybw1 hn hi,yqk,yya (show k<9223372036854775807 by omega),show((k:Int)<(n:Int)) from by omega,decide_true,if_true]
  congr 3
  refine yqu fun a b _ _=>?_
  by_cases ha:a=i
  ·subst ha;simp[ynt]
  simp[ha]) (by simp only[yye,yxa,Int.lt_irrefl,decide_false,Bool.false_eq_true,if_false])
 simp only[ybm1] at hx
 rw[show(fun a b=>if a=i then N a b else N a b)=N from by funext a b;split <;> rfl] at hx
 simpa using hx
theorem ydw1 (hn:n<=8) (F:Nat->Nat->Int) (t:Int) :
  loopO (yze (mat n n G) most (mat n n F,t)) (mat n n (fun _ _=>0),0)=some (mat n n (powStep n G most F)):=by
 have hx:=yrc (body:=yze (mat n n G) most (mat n n F,t)) n (fun i=>(mat n n (fun a b=>if a<i then powStep n G most F a b else 0),(i:Int))) (mat n n (powStep n G most F)) (fun i hi=>by
  simp only[yze,ymt,ysq hi,Option.bind_some,ycw1 hn hi,ypk,yya (show i<9223372036854775807 by omega),show((i:Int)<(n:Int)) from by omega,decide_true,if_true]
  congr 3
  refine yqu fun a b _ _=>?_
  by_cases ha:a=i
  ·subst ha;simp[powStep]
  ·by_cases h2:a<i
   ·simp[ha,h2,show a<i+1 by omega]
   simp[ha,h2,show ¬ a<i+1 by omega]) (by
  simp only[yze,ymt,Int.lt_irrefl,decide_false,Bool.false_eq_true,if_false];congr 2
  exact yqu fun a b ha _=>by simp[ha])
 simpa using hx
theorem yew1 (hn:n<=8) (m:Nat) (hm:m<=1048576):loopO (yaf (mat n n G) (m:Int) most) (mat n n idM,0)=some (mat n n (powN n G most m)):=by
 have hx:=yrc (body:=yaf (mat n n G) (m:Int) most) m (fun t=>(mat n n (powN n G most t),(t:Int))) (mat n n (powN n G most m)) (fun t ht=>by
  simp only[yaf,ymt,yhj n (by omega),ydw1 hn,Option.bind_some,yok,ynk,yya (show t<9223372036854775807 by omega),show((t:Int)<(m:Int)) from by omega,decide_true,if_true]
  rfl) (by simp only[yaf,Int.lt_irrefl,decide_false,Bool.false_eq_true,if_false])
 exact hx
theorem yby (hn:n<=8) (m:Nat) (hm:m<=1048576):ytl (mat n n G) (m:Int) most=some (mat n n (powN n G most m)):=by
 have hx:=yrc (body:=yvh (mat n n fun _ _=>0)) n (fun i=>(mat n n (fun a b=>if a<i then idM a b else 0),(i:Int))) (mat n n idM) (fun i hi=>by
  simp only[yvh,ymt,ysq hi,yma hi,Option.bind_some,yya (show i<9223372036854775807 by omega),show((i:Int)<(n:Int)) from by omega,decide_true,if_true,Int.toNat_natCast]
  rw[yam1 hi hi];congr 3
  refine yqu fun a b _ _=>?_
  by_cases ha:a=i
  ·subst ha
   by_cases hb:b=a
   ·subst hb;simp[idM]
   simp[hb,idM,Ne.symm hb]
  ·by_cases h2:a<i
   ·simp[ha,h2,show a<i+1 by omega]
   simp[ha,h2,show ¬ a<i+1 by omega]) (by
  simp only[yvh,ymt,Int.lt_irrefl,decide_false,Bool.false_eq_true,if_false];congr 2
  exact yqu fun a b ha _=>by simp[ha])
 unfold ytl
 rw[ymt,yhj n (by omega),Option.bind_some]
 simp only[Nat.not_lt_zero,if_false] at hx
 rw[show(0:Int)=((0:Nat):Int) from rfl,show(fun (_ _:Nat)=>((0:Nat):Int))=fun _ _=>(0:Int) from rfl,hx,Option.bind_some,yrk,yew1 hn m hm]
 rfl
end impl
section spec
variable {n:Nat} {G:Nat->Nat->Int}
end spec
def capAt (x:Int):Int:=if 1000000001<x then 1000000001 else x
def total (g:List (List Int)):Int:=(g.map List.sum).sum
def totalWalks (g:List (List Int)) (m:Int):Int×Bool :=
 if isGraph g&&inB 0 12 m then
  let t:=total (mat g.length g.length (powN g.length (fun i j=>(g.getD i []).getD j 0) 1000000001 m.toNat))
  if t>1000000000 then(0,false) else(t,true)
 else(0,false)
end Go.PV

/-
 Plain laws: characteristic polynomials.
 Conditions: none.
-/
set_option linter.all false
namespace Go.PV
def mulW (n:Nat) (A M:Nat->Nat->Int) (i j:Nat):Int:=foldN n (fun s l=>w64 (s+w64 (A i l*M l j))) 0
def trW (n:Nat) (P:Nat->Nat->Int):Int:=foldN n (fun s i=>w64 (s+P i i)) 0
def addD (M:Nat->Nat->Int) (c:Int) (i j:Nat):Int:=if i=j then w64 (M i j+c) else M i j
section
variable {n:Nat} {A:Nat->Nat->Int}
def chN (n:Nat) (A:Nat->Nat->Int):Nat->(Nat->Int)×(Nat->Nat->Int)
 | 0=>(fun i=>if i=n then 1 else 0,fun _ _=>0)
 | k+1=>(fun i=>if i=n-(k+1) then w64 (Int.tdiv (w64 (0-trW n (mulW n A (addD (chN n A k).2 ((chN n A k).1 (n-k)))))) ((k+1:Nat):Int)) else(chN n A k).1 i,mulW n A (addD (chN n A k).2 ((chN n A k).1 (n-k))))
end
def isPoly (c:List Int):Bool:=decide ((c.length:Int)<=9)&&(c.all (inB (-1000000) 1000000))
end Go.PV

/-
 Plain laws: greatest divisors,fractions,floors,fractions reduced.
 Conditions: none.
-/
namespace Go.PV
theorem ycw (a b:Nat) (hb:b≠0):Nat.gcd b (a % b)=Nat.gcd a b:=by
 rw[Nat.gcd_comm a b,Nat.gcd_rec b a,Nat.gcd_comm]
theorem yse1 (b:Nat):∀ a:Nat,loopO ycd ((a:Int),(b:Int))=some ((Nat.gcd a b:Nat):Int):=by
 induction b using Nat.strongRecOn with
 | ind b ih =>
  intro a;rw[yzf];by_cases hb:b=0
  ·subst hb;simp[ycd]
  have hb':((b:Int) != 0)=true:=by simp;omega
  simp only[ycd,hb',if_true,yea (show(b:Int)≠0 by omega)];have:Int.tmod (a:Int) (b:Int)=((a % b:Nat):Int):=rfl
  rw[this,ih (a % b) (Nat.mod_lt _ (by omega)) b,ycw a b hb]
theorem yte1 (b:Nat):∀ a:Nat,loopO ywi ((a:Int),(b:Int))=some ((Nat.gcd a b:Nat):Int):=by
 induction b using Nat.strongRecOn with
 | ind b ih =>
  intro a;rw[yzf];by_cases hb:b=0
  ·subst hb;simp[ywi]
  have hb':decide ((b:Int)>0)=true:=by simp;omega
  simp only[ywi,hb',if_true,yea (show(b:Int)≠0 by omega)];have:Int.tmod (a:Int) (b:Int)=((a % b:Nat):Int):=rfl
  rw[this,ih (a % b) (Nat.mod_lt _ (by omega)) b,ycw a b hb]
theorem yjb1 (a:Int) (h : -9223372036854775808<a) (h2:a<=9223372036854775807):yhx a=some (a.natAbs:Int):=by
 unfold yhx
 by_cases ha:a<0
 ·simp only[ha,decide_true,if_true];rw[ytb (by omega) (by omega)];congr 1;omega
 simp only[ha,decide_false,Bool.false_eq_true,if_false];congr 1;omega
theorem yot (a:Int) (h : -9223372036854775808<a) (h2:a<=9223372036854775807):yip a=some (a.natAbs:Int):=by
 unfold yip ygu
 rw[ytb (by omega) (by omega)]
 by_cases ha:a>0-a
 ·simp only[ha,decide_true,if_true,Option.bind_some];congr 1;omega
 simp only[ha,decide_false,Bool.false_eq_true,if_false,Option.bind_some];congr 1;omega
theorem yym (a b:Int) (h : -9223372036854775808<a) (h2:a<=9223372036854775807) (h3 : -9223372036854775808<b) (h4:b<=9223372036854775807) :
  yfd a b=some ((Int.gcd a b:Nat):Int):=by
 simp only[yfd,yjb1 a h h2,yjb1 b h3 h4,Option.bind_some,yse1,ype]
 rfl
theorem ypt (a b:Int) (h:0<=a) (h2:0<=b):ydl a b=some ((Int.gcd a b:Nat):Int):=by
 obtain⟨m,rfl⟩:=Int.eq_ofNat_of_zero_le h
 obtain⟨n,rfl⟩:=Int.eq_ofNat_of_zero_le h2
 simp only[ydl]
 rw[yte1]
 rfl
def isRat (r:Int×Int):Bool:=inB 1 1000000000 r.2&&(inB (-1000000000) 1000000000 r.1&&(Int.gcd r.1 r.2:Int)==1)
theorem isRat_iff {r:Int×Int}:isRat r=true↔1<=r.2/\r.2<=1000000000 /\ -1000000000<=r.1/\r.1<=1000000000/\Int.gcd r.1 r.2=1:=by
 simp only[isRat,Bool.and_eq_true,inB_iff,beq_iff_eq]
 constructor
 ·rintro⟨⟨h1,h2⟩,⟨h3,h4⟩,h5⟩;exact⟨h1,h2,h3,h4,by omega⟩
 rintro⟨h1,h2,h3,h4,h5⟩;exact⟨⟨h1,h2⟩,⟨h3,h4⟩,by omega⟩
theorem yqt (r:Int×Int):ykp r=some (isRat r):=by
 unfold ykp isRat
 simp only[ypl,Option.bind_some]
 cases h1:inB 1 1000000000 r.2
 ·rfl
 cases h2:inB (-1000000000) 1000000000 r.1
 ·rfl
 have h1':=inB_iff.1 h1
 have h2':=inB_iff.1 h2
 simp only[if_true,yym r.1 r.2 (by omega) (by omega) (by omega) (by omega),Option.bind_some,Bool.true_and]
theorem ygs (r:Int×Int):yuo r=some (isRat r):=by
 unfold yuo isRat
 simp only[yvk,Option.bind_some]
 cases h1:inB 1 1000000000 r.2
 ·rfl
 cases h2:inB (-1000000000) 1000000000 r.1
 ·rfl
 have h1':=inB_iff.1 h1
 have h2':=inB_iff.1 h2
 simp only[if_true,yot r.1 (by omega) (by omega),ypt _ r.2 (Int.natCast_nonneg _) (by omega),Option.bind_some,Bool.true_and]
 rfl
theorem ytq (l:List (Int×Int)) (hl:l.length<=4611686018427387904):ywk l=some (l.all isRat):=by
 have h:=yls1 (xs:=l) (body:=ydk l) (fun x=> !isRat x) (fun i=>(i:Int)) (.inl false) (.inr ()) (fun i x hx=>by
  have hi:=getElem?_lt hx
  simp only[ydk,ylt,hx,yqt,Option.bind_some,yya (show i<9223372036854775807 by omega),show((i:Int)<(l.length:Int)) from by omega,decide_true,if_true];cases isRat x <;> rfl) (by simp[ydk])
 unfold ywk
 rw[show(0:Int)=((0:Nat):Int) from rfl,h,List.any_eq_not_all_not]
 simp only[Bool.not_not]
 cases l.all isRat <;> rfl
def lowest (n d:Int):(Int×Int)×Bool :=
 let g:=if d<0 then -(Int.gcd n d:Int) else Int.gcd n d
 if isRat (Int.tdiv n g,Int.tdiv d g) then((Int.tdiv n g,Int.tdiv d g),true) else((0,0),false)
theorem yvc1 (n g:Int) (h : -9223372036854775808<n) (h2:n<=9223372036854775807) (hg:g≠0):w64 (Int.tdiv n g)=Int.tdiv n g:=by
 have h1:(Int.tdiv n g).natAbs<=n.natAbs:=by rw[Int.natAbs_tdiv];exact Nat.div_le_self _ _
 exact ytb (by omega) (by omega)
theorem yhs (n d:Int) (hd:d≠0) (h : -9223372036854775808<n) (h2:n<=9223372036854775807) (h3 : -9223372036854775808<d) (h4:d<=9223372036854775807):yfn n d=some (lowest n d):=by
 have hg0:Int.gcd n d≠0:=by rw[Ne,Int.gcd_eq_zero_iff];omega
 have hgl:(Int.gcd n d:Int)<=9223372036854775807:=by
  have:Int.gcd n d<=d.natAbs:=Nat.gcd_le_right _ (by omega)
  omega
 have key:∀ g:Int,g≠0->ykj n d g=some (if isRat (Int.tdiv n g,Int.tdiv d g) then((Int.tdiv n g,Int.tdiv d g),true) else((0,0),false)):=fun g hg=>by
  simp only[ykj,yea hg,yvc1 n g h h2 hg,yvc1 d g h3 h4 hg,yqt,Option.bind_some];cases isRat (Int.tdiv n g,Int.tdiv d g) <;> rfl
 unfold yfn lowest
 simp only[yym n d h h2 h3 h4,Option.bind_some]
 by_cases hneg:d<0
 ·simp only[hneg,decide_true,if_true]
  rw[show(0:Int)-(Int.gcd n d:Int) = -(Int.gcd n d:Int) by omega,ytb (by omega) (by omega),key _ (by omega)]
 simp only[hneg,decide_false,Bool.false_eq_true,if_false]
 rw[key _ (by omega)]
theorem yql {a b:Int} (ha : -1000000000<=a) (ha2:a<=1000000000) (hb : -1000000000<=b) (hb2:b<=1000000000) : -1000000000000000000<=a*b/\a*b<=1000000000000000000:=by
 have h1:(a*b).natAbs<=1000000000*1000000000:=by
  rw[Int.natAbs_mul];exact Nat.mul_le_mul (by omega) (by omega)
 omega
theorem yla1 (a b:Int×Int):yxk a b=some (if isRat a&&isRat b then lowest (a.1*b.2+b.1*a.2) (a.2*b.2) else((0,0),false)):=by
 unfold yxk
 rw[ytq _ (by simp)]
 simp only[Option.bind_some,List.all_cons,List.all_nil,Bool.and_true]
 cases ha:isRat a
 ·rfl
 cases hb:isRat b
 ·rfl
 obtain⟨a1,a2,a3,a4,_⟩:=isRat_iff.1 ha
 obtain⟨b1,b2,b3,b4,_⟩:=isRat_iff.1 hb
 have m1:=yql a3 a4 (show -1000000000<=b.2 by omega) b2
 have m2:=yql b3 b4 (show -1000000000<=a.2 by omega) a2
 have m3:=yql (show -1000000000<=a.2 by omega) a2 (show -1000000000<=b.2 by omega) b2
 have hne:a.2*b.2≠0:=Int.mul_ne_zero (by omega) (by omega)
 simp only[Bool.and_self,Bool.not_true,Bool.false_eq_true,if_false,if_true]
 rw[ytb (n:=a.1*b.2) (by omega) (by omega),ytb (n:=b.1*a.2) (by omega) (by omega),ytb (n:=a.1*b.2+b.1*a.2) (by omega) (by omega),ytb (n:=a.2*b.2) (by omega) (by omega),yhs _ _ hne (by omega) (by omega) (by omega) (by omega)]
 rfl
def near (r:Int×Int):Bool:=isRat r&&inB (-1000*r.2) (1000*r.2) r.1
def cmp (a b:Int×Int):Int:=if a.1*b.2<b.1*a.2 then -1 else if a.1*b.2>b.1*a.2 then 1 else 0
def tame (r:Int×Int):Prop := -1000000000<=r.1/\r.1<=1000000000 /\ -1000000000<=r.2/\r.2<=1000000000
theorem ylb {r:Int×Int} (h:isRat r=true):tame r:=by
 obtain⟨h1,h2,h3,h4,_⟩:=isRat_iff.1 h
 exact⟨h3,h4,by omega,h2⟩
theorem ypn (a b:Int×Int) (ha:tame a) (hb:tame b):yxi a b=some (cmp a b):=by
 obtain⟨a1,a2,a3,a4⟩:=ha
 obtain⟨b1,b2,b3,b4⟩:=hb
 have m1:=yql a1 a2 b3 b4
 have m2:=yql b1 b2 a3 a4
 unfold yxi cmp
 rw[ytb (n:=a.1*b.2) (by omega) (by omega),ytb (n:=b.1*a.2) (by omega) (by omega)]
 by_cases h1:a.1*b.2<b.1*a.2
 ·simp[h1]
 by_cases h2:a.1*b.2>b.1*a.2
 ·simp[h1,h2]
 simp[h1,h2]
def less (a b:Int×Int):Bool:=decide (a.1*b.2<b.1*a.2)
theorem ydd (a b:Int×Int) (ha:tame a) (hb:tame b):ypf a b=some (less a b):=by
 unfold ypf less
 rw[ypn a b ha hb]
 unfold cmp
 by_cases h1:a.1*b.2<b.1*a.2
 ·simp[h1]
 by_cases h2:a.1*b.2>b.1*a.2
 ·simp[h1,h2]
 simp[h1,h2]
def floorDiv (n d:Int):Int:=if Int.tmod n d<0 then Int.tdiv n d-1 else Int.tdiv n d
theorem yue1 (n d:Int):(Int.tdiv n d).natAbs<=n.natAbs:=by rw[Int.natAbs_tdiv];exact Nat.div_le_self _ _
def reduceRat (r:Int×Int):(Int×Int)×Bool:=if near r then((r.1-floorDiv r.1 r.2*r.2,r.2),true) else((0,0),false)
end Go.PV

set_option linter.all false
namespace Go.PV
abbrev Pt:=(Int×Int)×(Int×Int)
def zP:Pt:=((0,0),(0,0))
theorem ydi (xs:List Pt) (f:Pt->Option Bool) (p:Pt->Bool) (hf:∀ x,f x=some (p x)) (hl:xs.length<=4611686018427387904) :
  yha xs f=some (match xs.findIdx? p with | some i=>(i:Int) | none => -1):=by
 have h:=yir (xs:=xs) (body:=yia xs f) p (fun i=>(i:Int)) (fun i=>.inl (i:Int)) (.inr ()) (fun i x hx=>by
  have hi:=getElem?_lt hx
  simp only[yia,ylt,hx,hf,Option.bind_some,yya (show i<9223372036854775807 by omega),show((i:Int)<(xs.length:Int)) from by omega,decide_true,if_true]
  cases p x <;> rfl) (by simp[yia])
 unfold yha
 rw[show(0:Int)=((0:Nat):Int) from rfl,h]
 cases xs.findIdx? p <;> rfl
theorem yah (xs:List Pt) (f:Pt->Option Bool) (p:Pt->Bool) (hf:∀ x,f x=some (p x)) (hl:xs.length<=4611686018427387904):ywa xs f=some (xs.any p):=by
 simp only[ywa,ydi xs f p hf hl,Option.bind_some]
 cases h:xs.findIdx? p with
 | none =>
  have hn:=List.findIdx?_eq_none_iff.1 h
  have:xs.any p=false:=by simpa using hn
  simp[this]
 | some m =>
  obtain⟨hm,hp,_⟩:=List.findIdx?_eq_some_iff_getElem.1 h
  have:xs.any p=true:=List.any_eq_true.2 ⟨xs[m],List.getElem_mem hm,hp⟩
  simp[this]
theorem ymb (a b:Int×Int) (ha:tame a) (hb:tame b):yqb a b=some (cmp a b):=by
 obtain⟨a1,a2,a3,a4⟩:=ha
 obtain⟨b1,b2,b3,b4⟩:=hb
 have m1:=yql a1 a2 b3 b4
 have m2:=yql b1 b2 a3 a4
 unfold yqb yel cmp
 rw[ytb (n:=a.1*b.2) (by omega) (by omega),ytb (n:=b.1*a.2) (by omega) (by omega),ytb (n:=a.1*b.2-b.1*a.2) (by omega) (by omega)]
 by_cases h1:a.1*b.2<b.1*a.2
 ·have:¬ (a.1*b.2-b.1*a.2>0):=by omega
  have h3:a.1*b.2-b.1*a.2<0:=by omega
  simp[h1,h3];omega
 by_cases h2:a.1*b.2>b.1*a.2
 ·have:a.1*b.2-b.1*a.2>0:=by omega
  simp[h1,h2,this]
 have h3:¬ (a.1*b.2-b.1*a.2>0):=by omega
 have h4:¬ (a.1*b.2-b.1*a.2<0):=by omega
 simp[h1,h2,h3,h4]
theorem ydz1 (a b:Int×Int):decide (cmp a b>=0) = !less a b:=by
 unfold cmp less
 by_cases h1:a.1*b.2<b.1*a.2
 ·simp[h1]
 by_cases h2:a.1*b.2>b.1*a.2 <;> simp[h1,h2]
theorem ycm1 (a b:Int×Int):(cmp a b==0)=(a.1*b.2==b.1*a.2):=by
 unfold cmp
 by_cases h1:a.1*b.2<b.1*a.2
 ·have:¬ a.1*b.2=b.1*a.2:=by omega
  simp[h1,this]
 by_cases h2:a.1*b.2>b.1*a.2
 ·have:¬ a.1*b.2=b.1*a.2:=by omega
  simp[h1,h2,this]
 have:a.1*b.2=b.1*a.2:=by omega
 simp[this]
def isUnit (r:Int×Int):Bool:=isRat r&&inB 0 r.2 r.1
def coord (r:Int×Int):Bool:=isUnit r&&decide (r.2<=100)
theorem yis (r:Int×Int):ybf r=some (isUnit r):=by
 unfold ybf isUnit
 simp only[ygs,Option.bind_some,yvk]
 cases isRat r <;> simp
theorem ydw (r:Int×Int):yvo r=some (isUnit r):=by
 simp[yvo,yqt,isUnit,inB]
theorem yma1 (r:Int×Int):yin r=some (coord r):=by simp[yin,yis,coord]
theorem yna1 (r:Int×Int):yjn r=some (coord r):=by simp[yjn,ydw,coord]
theorem ynf {r:Int×Int} (h:coord r=true):isRat r=true:=by
 simp only[coord,isUnit,Bool.and_eq_true] at h
 exact h.1.1
def goodPt (p:Pt):Bool:=coord p.1&&(isRat p.2&&(decide (p.2.2<=100)&&inB (-5*p.2.2) (5*p.2.2) p.2.1))
def stepPt (a b:Pt):Bool:=less a.1 b.1 && !less b.2 a.2
def steps (xs:List Pt) (n:Nat):Prop:=∀ i a b,0<i->i<n->xs[i-1]?=some a->xs[i]?=some b->stepPt a b=true
def ends (xs:List Pt):Bool:=match xs[0]?,xs[xs.length-1]? with
 | some a,some b=>(a.1==(0,1))&&((b.1==(1,1))&&(b.2==(a.2.1+a.2.2,a.2.2)))
 | _,_=>false
open Classical in
noncomputable def isLift (xs:List Pt):Bool:=inB 2 12 xs.length&&(decide (xs.all goodPt=true/\steps xs xs.length)&&ends xs)
end Go.PV

set_option linter.all false
namespace Go.PV
theorem yhg1 {n d:Int} (h1:0<=n) (h2:n<=1000000000) (h3:1<=d) (h4:d<=1000000000):isRat (lowest n d).1=true:=by
 have hg:0<Int.gcd n d:=Int.gcd_pos_of_ne_zero_right _ (by omega)
 have key:isRat (Int.tdiv n (Int.gcd n d:Int),Int.tdiv d (Int.gcd n d:Int))=true:=by
  obtain⟨a,rfl⟩:=Int.eq_ofNat_of_zero_le h1;obtain⟨b,rfl⟩:=Int.eq_ofNat_of_zero_le (show 0<=d by omega)
  have e:Int.gcd (a:Int) (b:Int)=Nat.gcd a b:=rfl
  rw[e] at hg ⊢
  have e1:Int.tdiv (a:Int) ((Nat.gcd a b:Nat):Int)=((a / Nat.gcd a b:Nat):Int):=by rw[Int.tdiv_eq_ediv_of_nonneg (by omega)];rfl
  have e2:Int.tdiv (b:Int) ((Nat.gcd a b:Nat):Int)=((b / Nat.gcd a b:Nat):Int):=by rw[Int.tdiv_eq_ediv_of_nonneg (by omega)];rfl
  rw[e1,e2,isRat_iff];have l1:a / Nat.gcd a b<=a:=Nat.div_le_self _ _
  have l2:b / Nat.gcd a b<=b:=Nat.div_le_self _ _
  have l3:0<b / Nat.gcd a b:=Nat.div_pos (Nat.le_of_dvd (by omega) (Nat.gcd_dvd_right a b)) hg
  have l4:((a / Nat.gcd a b:Nat):Int)<=1000000000:=by omega
  have l5:((b / Nat.gcd a b:Nat):Int)<=1000000000:=by omega
  have l6:1<=((b / Nat.gcd a b:Nat):Int):=by omega
  have l7:0<=((a / Nat.gcd a b:Nat):Int):=Int.natCast_nonneg _
  generalize hA:((a / Nat.gcd a b:Nat):Int)=A at l4 l7 ⊢
  generalize hB:((b / Nat.gcd a b:Nat):Int)=B at l5 l6 ⊢
  refine⟨l6,l5,by show -1000000000<=A;omega,l4,?_⟩
  rw[← hA,← hB];exact Nat.coprime_div_gcd_div_gcd hg
 have hdn:¬ d<0:=by omega
 unfold lowest
 simp only[if_neg hdn]
 rw[if_pos key]
 exact key
theorem ydm1 {a b:Int×Int} (ha:isRat a=true) (hb:isRat b=true) (h:a.1*b.2=b.1*a.2):a=b:=by
 obtain⟨a1,a2,a3,a4,a5⟩:=isRat_iff.1 ha
 obtain⟨b1,b2,b3,b4,b5⟩:=isRat_iff.1 hb
 obtain⟨p,q⟩:=a
 obtain⟨r,s⟩:=b
 simp only at *
 have hn:p.natAbs*s.natAbs=r.natAbs*q.natAbs:=by rw[← Int.natAbs_mul,← Int.natAbs_mul,h]
 have c1:Nat.Coprime p.natAbs q.natAbs:=a5
 have c2:Nat.Coprime r.natAbs s.natAbs:=b5
 have d1:s.natAbs∣q.natAbs:=by
  have:s.natAbs∣r.natAbs*q.natAbs:=⟨p.natAbs,by rw[← hn];exact Nat.mul_comm _ _⟩
  exact c2.symm.dvd_of_dvd_mul_left this
 have d2:q.natAbs∣s.natAbs:=by
  have:q.natAbs∣p.natAbs*s.natAbs:=⟨r.natAbs,by rw[hn];exact Nat.mul_comm _ _⟩
  exact c1.symm.dvd_of_dvd_mul_left this
 have hqs:q.natAbs=s.natAbs:=Nat.dvd_antisymm d2 d1
 have hq:q=s:=by omega
 subst hq
 have:p=r:=Int.eq_of_mul_eq_mul_right (by omega) h
 rw[this]
def dotN (G:Nat->Int) (v:Nat->Int) (n:Nat):Int:=foldN n (fun s j=>s+G j*v j) 0
end Go.PV

set_option linter.all false
namespace Go.PV
def minStep (a b:Int×Int):Int×Int:=if less b a=true then b else a
def maxStep (a b:Int×Int):Int×Int:=if less a b=true then b else a
def mnN (r:Nat->Int×Int) (i:Nat):Int×Int:=foldN i (fun s j=>minStep s (r j)) (r 0)
def mxN (r:Nat->Int×Int) (i:Nat):Int×Int:=foldN i (fun s j=>maxStep s (r j)) (r 0)
theorem yem1 (a b:Int×Int):decide (cmp a b<0)=less a b:=by
 unfold cmp less
 by_cases h1:a.1*b.2<b.1*a.2
 ·simp[h1]
 by_cases h2:a.1*b.2>b.1*a.2 <;> simp[h1,h2]
def ratN (G:Nat->Nat->Int) (v:Nat->Int) (n i:Nat):Int×Int:=(lowest (dotN (G i) v n) (v i)).1
section
variable {n:Nat} {G:Nat->Nat->Int} {v:Nat->Int}
end
def asked (g:List (List Int)) (u:List Int):Bool:=isGraph g&&(isVec u&&((u.length:Int)==(g.length:Int)))
end Go.PV

/-
 Plain laws: lists turned round,ones.
 Conditions: none.
-/
set_option linter.all false
namespace Go.PV
section
variable {α:Type} [Inhabited α]
def revSt (xs:List α) (k:Nat):List α:=tab xs.length fun p=>if p<k\/xs.length<=p+k then xs.getD (xs.length-1-p) default else xs.getD p default
end
def trimZ (c:List Int):List Int:=(c.reverse.dropWhile (·==0)).reverse
end Go.PV

set_option linter.all false
namespace Go.PV
theorem yfw1 (a b:Int×Int):decide (cmp a b<=0) = !less b a:=by
 unfold cmp less
 by_cases h1:a.1*b.2<b.1*a.2
 ·have:¬ b.1*a.2<a.1*b.2:=by omega
  simp[h1,this]
 by_cases h2:a.1*b.2>b.1*a.2
 ·have h3:b.1*a.2<a.1*b.2:=h2
  simp[h1,h3]
 have:¬ b.1*a.2<a.1*b.2:=by omega
 simp[h1,this]
end Go.PV

/-
 Plain laws: vectors of walks,bounds of growth.
 Conditions: none.
-/
set_option linter.all false
namespace Go.PV
def vk (G:Nat->Nat->Int) (n:Nat):Nat->Nat->Int
 | 0=>fun _=>1
 | k+1=>fun j=>dotN (G j) (vk G n k) n+vk G n k j
def mxg (G:Nat->Nat->Int) (n:Nat):Nat->Nat
 | 0=>0
 | k+1=>if mxg G n k=k/\isVec (tab n (vk G n (k+1)))=true then k+1 else mxg G n k
section
variable {n:Nat} {G:Nat->Nat->Int}
def bestT (G:Nat->Nat->Int) (n:Nat):(Int×Int)×(Int×Int)×Int×Bool:=(mnN (ratN G (vk G n (mxg G n 20)) n) n,mxN (ratN G (vk G n (mxg G n 20)) n) n,((mxg G n 20:Nat):Int),true)
end
end Go.PV

/-
 Plain laws: what draws from bytes always comes to an end.
 Conditions: none.
-/
set_option linter.all false
namespace Go.PV
def Tot {α:Type} (o:Option α) (P:α->Prop):Prop:=∃ r,o=some r/\P r
section
variable {α β:Type} {P:α->Prop} {Q:β->Prop}
theorem Tot.bind {o:Option α} {f:α->Option β} (h:Tot o P) (k:∀ r,P r->Tot (f r) Q):Tot (o.bind f) Q:=by
 obtain⟨r,rfl,hr⟩:=h
 exact k r hr
theorem Tot.mono {P':α->Prop} {o:Option α} (h:Tot o P) (k:∀ r,P r->P' r):Tot o P':=by
 obtain⟨r,h,hr⟩:=h
 exact⟨r,h,k r hr⟩
theorem Tot.ret {r:α} (h:P r):Tot (some r) P:=⟨r,rfl,h⟩
theorem Tot.ite {c:Bool} {x y:Option α} (h1:c=true->Tot x P) (h2:c=false->Tot y P):Tot (if c=true then x else y) P:=by
 cases c
 ·exact h2 rfl
 exact h1 rfl
theorem Tot.guard {p:Prop} [Decidable p] {f:Unit->Option α} (h:p) (k:Tot (f ()) P):Tot ((guardO p).bind f) P:=by
 rw[yea h];exact k
def Lp {X Y:Type} (I:X->Prop) (R:Y->Prop):X ⊕ Y->Prop
 | .inl x=>I x
 | .inr y=>R y
theorem Tot.inl {X Y:Type} {I:X->Prop} {R:Y->Prop} {x:X} (h:I x):Tot (some (Sum.inl x)) (Lp I R):=⟨_,rfl,h⟩
theorem Tot.inr {X Y:Type} {I:X->Prop} {R:Y->Prop} {y:Y} (h:R y):Tot (some (Sum.inr y)) (Lp I R):=⟨_,rfl,h⟩
theorem Tot.loop {X Y:Type} {body:X->Option (X ⊕ Y)} {R:Y->Prop} (Inv:X->Prop) (μ:X->Nat)
  (h:∀ x,Inv x->Tot (body x) (Lp (fun x'=>Inv x'/\μ x'<μ x) R)) (x0:X) (h0:Inv x0):Tot (loopO body x0) R:=by
 obtain⟨y,h1,h2⟩:=yrq (body:=body) Inv μ R (fun x hx=>by
  obtain⟨r,e,hr⟩:=h x hx;cases r with
  | inl x'=>exact .inl ⟨x',e,hr.1,hr.2⟩
  | inr y=>exact .inr ⟨y,e,hr⟩) x0 h0
 exact⟨y,h1,h2⟩
end
theorem Tot.idx {α β:Type} {xs:List α} {i:Int} {f:α->Option β} {Q:β->Prop} (h0:0<=i) (h1:i<xs.length) (k:∀ x,x∈xs->Tot (f x) Q):Tot ((idxO xs i).bind f) Q:=by
 obtain⟨m,rfl⟩:=Int.eq_ofNat_of_zero_le h0
 have hm:m<xs.length:=by omega
 rw[ybk hm,Option.bind_some]
 exact k _ (List.getElem_mem hm)
abbrev Cur:=List Int×Int×Int
def Bytes (l:List Int):Prop:=l.length<=9223372036854775807/\∀ b∈l,0<=b/\b<=255
def Ck (B:Nat) (c:Cur):Prop:=Bytes c.1/\0<=c.2.1/\c.2.1<=B
theorem Ck.mono {B B':Nat} {c:Cur} (h:Ck B c) (hb:B<=B'):Ck B' c:=⟨h.1,h.2.1,by have:=h.2.2;omega⟩
theorem ck0 {l:List Int} (h:Bytes l):Ck 0 (l,0,0):=⟨h,by simp,by simp⟩
theorem ygw1 (n:Int):IntKind.u64.wrap n=n % 18446744073709551616:=by simp[IntKind.wrap,IntKind.bits,IntKind.signed]
theorem yfm1 (n:Int):IntKind.wrap .i64 n=w64 n:=rfl
theorem yns1 (x:Int):0<=iand .u64 x 255/\iand .u64 x 255<=255:=by
 unfold iand
 have h:((BitVec.ofInt (IntKind.bits .u64) x) &&& (BitVec.ofInt (IntKind.bits .u64) 255)).toNat<=255:=by
  rw[BitVec.toNat_and];have:(BitVec.ofInt (IntKind.bits .u64) 255).toNat=255:=by decide
  rw[this];exact Nat.and_le_right
 rw[ygw1,Int.emod_eq_of_lt (by omega) (by omega)]
 omega
theorem ynq1 {B:Nat} {c:Cur} (h:Ck B c) (hB:B<=1152921504606846976):Tot (yzh c) fun r=>(0<=r.1/\r.1<=255)/\Ck (B+1) r.2:=by
 obtain⟨⟨hl,hb⟩,h0,h1⟩:=h
 have hw:w64 (c.2.1+1)=c.2.1+1:=ytb (by omega) (by omega)
 have key:∀ x:Int,0<=x->x<=255->Tot (yae c x) fun r=>(0<=r.1/\r.1<=255)/\Ck (B+1) r.2:=by
  intro x hx0 hx1;unfold yae;rw[hw];refine Tot.ite (fun _=>Tot.ret ⟨⟨hx0,hx1⟩,⟨hl,hb⟩,by show 0<=c.2.1+1;omega,by show c.2.1+1<=_;omega⟩) (fun _=>Tot.ret ⟨?_,⟨hl,hb⟩,by show 0<=c.2.1+1;omega,by show c.2.1+1<=_;omega⟩)
  rw[yfm1];obtain⟨a,b⟩:=yns1 (ishr .u64 (IntKind.wrap .u64 ((IntKind.wrap .u64 ((IntKind.wrap .u64 (c.2.2*6364136223846793005))+(IntKind.wrap .u64 x)))+1442695040888963407)) 40)
  show 0<=w64 _/\w64 _<=255
  rw[ytb (by omega) (by omega)];exact⟨a,b⟩
 unfold yzh
 refine Tot.ite (fun hc=>?_) (fun _=>key 0 (by omega) (by omega))
 have hlt:c.2.1<(c.1.length:Int):=of_decide_eq_true hc
 refine Tot.idx h0 hlt fun x hx=>?_
 have:=hb x hx
 rw[yfm1,ytb (by omega) (by omega)]
 exact key x this.1 this.2
theorem ygm1 {x n:Int} (hx:0<=x) (hn:1<=n):0<=Int.tmod x n/\Int.tmod x n<n:=by
 obtain⟨a,rfl⟩:=Int.eq_ofNat_of_zero_le hx
 obtain⟨b,rfl⟩:=Int.eq_ofNat_of_zero_le (show 0<=n by omega)
 have:Int.tmod (a:Int) (b:Int)=((a % b:Nat):Int):=rfl
 rw[this]
 have:=Nat.mod_lt a (show b>0 by omega)
 omega
theorem yji {B:Nat} {c:Cur} (h:Ck B c) (hB:B<=1000000000000000000) (n:Int):Tot (yka c n) fun r=>(0<=r.1/\(1<=n->r.1<n))/\Ck (B+2) r.2:=by
 unfold yka
 refine Tot.ite (fun hc=>Tot.ret ⟨⟨by show(0:Int)<=0;omega,fun h=>by show(0:Int)<n;omega⟩,h.mono (by omega)⟩) (fun hc=>?_)
 have hn:¬ n<=1:=of_decide_eq_false hc
 refine(ynq1 h (by omega)).bind fun v2 ⟨⟨h1,h2⟩,h3⟩=>?_
 refine Tot.ite (fun _=>?_) (fun _=>?_)
 ·refine(ynq1 h3 (by omega)).bind fun v6 ⟨⟨h4,h5⟩,h6⟩=>?_
  unfold ybe;refine Tot.guard (by omega) (Tot.ret ?_)
  have e:w64 ((w64 (v2.1*256))+v6.1)=v2.1*256+v6.1:=by rw[ytb (n:=v2.1*256) (by omega) (by omega),ytb (by omega) (by omega)]
  have:=ygm1 (x:=v2.1*256+v6.1) (n:=n) (by omega) (by omega)
  simp only[e];exact⟨⟨this.1,fun _=>this.2⟩,h6⟩
 unfold ybe
 refine Tot.guard (by omega) (Tot.ret ?_)
 have:=ygm1 (x:=v2.1) (n:=n) (by omega) (by omega)
 exact⟨⟨this.1,fun _=>this.2⟩,h3.mono (by omega)⟩
theorem yew {B:Nat} {c:Cur} (h:Ck B c) (hB:B<=1000000000000000000) (n:Int):Tot (yfb c n) fun r=>Ck (B+2) r.2:=by
 unfold yfb
 exact(yji h hB n).bind fun v h=>Tot.ret h.2
theorem ytj {B:Nat} {c:Cur} (h:Ck B c) (hB:B<=1000000000000000000) (l:List Int) (hl:l≠[]):Tot (yqa c l) fun r=>r.1∈l/\Ck (B+2) r.2:=by
 unfold yqa
 refine(yji h hB _).bind fun v ⟨⟨h1,h2⟩,h3⟩=>?_
 have:0<l.length:=List.length_pos_iff.2 hl
 refine Tot.idx h1 (h2 (by omega)) fun x hx=>Tot.ret ⟨hx,h3⟩
end Go.PV
namespace Go.PV
def cur4 {α:Type} (x:List Int×Int×Int×α):Cur:=(x.1,x.2.1,x.2.2.1)
def En (l:List Int):Prop:=∀ x∈l,0<=x/\x<=9
def Sq (n:Int) (g:List (List Int)):Prop:=(g.length:Int)=n/\∀ row∈g,(row.length:Int)=n/\En row
def Sm (g:List (List Int)):Prop:=g.length<=9/\∀ row∈g,row.length<=9
end Go.PV

/-
 Plain laws: sums,products and quotients of fractions,with what is too large told.
 Conditions: none.
-/
set_option linter.all false
namespace Go.PV
abbrev Rt:=Int×Int
def unO:Option Rt->Rt×Bool
 | some r=>(r,true)
 | none=>((0,0),false)
def lowQ (n d:Int):Option Rt:=if(lowest n d).2=true then some (lowest n d).1 else none
theorem ykb1 (n d:Int):∃ x:Rt,lowest n d=if isRat x=true then(x,true) else((0,0),false):=⟨_,rfl⟩
theorem ycp1 {n d:Int} (h:(lowest n d).2=false):lowest n d=((0,0),false):=by
 obtain⟨x,e⟩:=ykb1 n d
 rw[e] at h ⊢
 by_cases h2:isRat x=true
 ·rw[if_pos h2] at h;cases h
 rw[if_neg h2]
theorem yfw (n d:Int):lowest n d=unO (lowQ n d):=by
 unfold lowQ
 cases h:(lowest n d).2
 ·rw[ycp1 h];rfl
 have:lowest n d=((lowest n d).1,(lowest n d).2):=rfl
 rw[this,h];rfl
theorem yhm1 {n d:Int} (h:(lowest n d).2=true):isRat (lowest n d).1=true:=by
 obtain⟨x,e⟩:=ykb1 n d
 rw[e] at h ⊢
 by_cases h2:isRat x=true
 ·rw[if_pos h2];exact h2
 rw[if_neg h2] at h;cases h
theorem yax {n d:Int} {r:Rt} (h:lowQ n d=some r):isRat r=true:=by
 unfold lowQ at h
 split at h
 ·rename_i h2;obtain rfl:=Option.some.inj h;exact yhm1 h2
 cases h
theorem ybg (n d:Int) (hd:d≠0) (h1 : -4000000000000000000<=n) (h2:n<=4000000000000000000) (h3 : -4000000000000000000<=d) (h4:d<=4000000000000000000):yob n d=some (unO (lowQ n d)):=by
 have hg:0<Int.gcd n d:=Int.gcd_pos_of_ne_zero_right _ hd
 have hd0:(d==0)=false:=by simpa using hd
 have hgl:(Int.gcd n d:Int)<=4000000000000000000:=by
  have:Int.gcd n d<=d.natAbs:=Nat.gcd_le_right _ (by omega)
  omega
 have e:Int.gcd (n.natAbs:Int) (d.natAbs:Int)=Int.gcd n d:=rfl
 have key:∀ g:Int,g≠0->ylj n d g=some (if isRat (Int.tdiv n g,Int.tdiv d g) then((Int.tdiv n g,Int.tdiv d g),true) else((0,0),false)):=fun g hg=>by
  simp only[ylj,yea hg,yvc1 n g (by omega) (by omega) hg,yvc1 d g (by omega) (by omega) hg,ygs,Option.bind_some];cases isRat (Int.tdiv n g,Int.tdiv d g) <;> rfl
 rw[← yfw]
 unfold yob lowest
 simp only[hd0,Bool.false_eq_true,if_false,yot n (by omega) (by omega),yot d (by omega) (by omega),Option.bind_some,ypt (n.natAbs:Int) (d.natAbs:Int) (by omega) (by omega),e]
 by_cases hneg:d<0
 ·simp only[hneg,decide_true,if_true]
  rw[show(0:Int)-(Int.gcd n d:Int) = -(Int.gcd n d:Int) by omega,ytb (by omega) (by omega),key _ (by omega)]
 simp only[hneg,decide_false,Bool.false_eq_true,if_false]
 rw[key _ (by omega)]
def addQ (a b:Rt):Option Rt:=lowQ (a.1*b.2+b.1*a.2) (a.2*b.2)
def subQ (a b:Rt):Option Rt:=lowQ (a.1*b.2-b.1*a.2) (a.2*b.2)
def mulQ (a b:Rt):Option Rt:=lowQ (a.1*b.1) (a.2*b.2)
def divQ (a b:Rt):Option Rt:=if b.1=0 then none else lowQ (a.1*b.2) (a.2*b.1)
theorem ywc1 {a b r:Rt} (h:addQ a b=some r):isRat r=true:=yax h
theorem yjs {a b r:Rt} (h:subQ a b=some r):isRat r=true:=yax h
theorem yig1 {a b r:Rt} (h:mulQ a b=some r):isRat r=true:=yax h
theorem yxc1 {a b r:Rt} (h:divQ a b=some r):isRat r=true:=by
 unfold divQ at h
 split at h
 ·cases h
 exact yax h
structure RB (a b:Rt):Prop where
 m1 : -1000000000000000000<=a.1*b.2/\a.1*b.2<=1000000000000000000
 m2 : -1000000000000000000<=b.1*a.2/\b.1*a.2<=1000000000000000000
 m3 : -1000000000000000000<=a.2*b.2/\a.2*b.2<=1000000000000000000
 m4 : -1000000000000000000<=a.1*b.1/\a.1*b.1<=1000000000000000000
 ne:a.2*b.2≠0
 m5 : -1000000000000000000<=a.2*b.1/\a.2*b.1<=1000000000000000000
theorem rb {a b:Rt} (ha:isRat a=true) (hb:isRat b=true):RB a b:=by
 obtain⟨a1,a2,a3,a4,_⟩:=isRat_iff.1 ha
 obtain⟨b1,b2,b3,b4,_⟩:=isRat_iff.1 hb
 exact⟨yql a3 a4 (by omega) b2,yql b3 b4 (by omega) a2,yql (by omega) a2 (by omega) b2,yql a3 a4 b3 b4,Int.mul_ne_zero (by omega) (by omega),yql (by omega) a2 b3 b4⟩
section spec
variable {a b:Rt} (ha:isRat a=true) (hb:isRat b=true)
include ha hb
theorem yrx:ynr a b=some (unO (addQ a b)):=by
 obtain⟨m1,m2,m3,m4,ne,m5⟩:=rb ha hb
 unfold ynr addQ
 rw[ytb (n:=a.1*b.2) (by omega) (by omega),ytb (n:=b.1*a.2) (by omega) (by omega),ytb (n:=a.2*b.2) (by omega) (by omega),ytb (by omega) (by omega),ybg _ _ ne (by omega) (by omega) (by omega) (by omega)]
 rfl
theorem yhq:yun a b=some (unO (subQ a b)):=by
 obtain⟨m1,m2,m3,m4,ne,m5⟩:=rb ha hb
 unfold yun subQ
 rw[ytb (n:=a.1*b.2) (by omega) (by omega),ytb (n:=b.1*a.2) (by omega) (by omega),ytb (n:=a.2*b.2) (by omega) (by omega),ytb (by omega) (by omega),ybg _ _ ne (by omega) (by omega) (by omega) (by omega)]
 rfl
theorem yve1:ymp a b=some (unO (mulQ a b)):=by
 obtain⟨m1,m2,m3,m4,ne,m5⟩:=rb ha hb
 unfold ymp mulQ
 rw[ytb (n:=a.1*b.1) (by omega) (by omega),ytb (n:=a.2*b.2) (by omega) (by omega),ybg _ _ ne (by omega) (by omega) (by omega) (by omega)]
 rfl
theorem ysx:ymr a b=some (unO (divQ a b)):=by
 obtain⟨m1,m2,m3,m4,ne,m5⟩:=rb ha hb
 obtain⟨a1,_⟩:=isRat_iff.1 ha
 unfold ymr divQ
 by_cases h:b.1=0
 ·simp[h,unO]
 have h':(b.1==0)=false:=by simpa using h
 simp only[h',Bool.false_eq_true,if_false,h]
 rw[ytb (n:=a.1*b.2) (by omega) (by omega),ytb (n:=a.2*b.1) (by omega) (by omega),ybg _ _ (Int.mul_ne_zero (by omega) h) (by omega) (by omega) (by omega) (by omega)]
 rfl
end spec
def cK (bad:Bool):Option Rt->Rt×Bool
 | some r=>(r,bad)
 | none=>((0,1),true)
theorem yks (bad:Bool) (o:Option Rt):yqf bad (unO o).1 (unO o).2=some (cK bad o):=by
 cases o <;> simp[yqf,unO,cK,yjq]
theorem yez1 {bad:Bool} {o:Option Rt} (h:∀ r,o=some r->isRat r=true):isRat (cK bad o).1=true:=by
 cases o with
 | some r=>exact h r rfl
 | none=>exact(by decide:isRat (0,1)=true)
theorem yrt:isRat (0,1)=true:=by decide
theorem yny:isRat (1,1)=true:=by decide
theorem yoy {a:Rt} (h:isRat a=true):isRat (0-a.1,a.2)=true:=by
 obtain⟨h1,h2,h3,h4,h5⟩:=isRat_iff.1 h
 refine isRat_iff.2 ⟨h1,h2,by show -1000000000<=0-a.1;omega,by show 0-a.1<=_;omega,?_⟩
 show Int.gcd (0-a.1) a.2=1
 rw[Int.zero_sub,Int.neg_gcd];exact h5
section impl
variable {a b:Rt} (bad:Bool) (ha:isRat a=true) (hb:isRat b=true)
include ha hb
theorem ygw:yxk a b=some (unO (addQ a b)):=by
 rw[yla1,ha,hb]
 simp only[Bool.and_self,if_true]
 rw[yfw];rfl
theorem yhw:yuh a b=some (unO (subQ a b)):=by
 obtain⟨b1,b2,b3,b4,_⟩:=isRat_iff.1 hb
 unfold yuh yms
 rw[ytb (by omega) (by omega),Option.bind_some,ygw ha (yoy hb),Option.bind_some]
 congr 2
 unfold addQ subQ
 simp only
 congr 1
 rw[Int.sub_mul];omega
theorem yiw:ywh a b=some (unO (mulQ a b)):=by
 obtain⟨m1,m2,m3,m4,ne,m5⟩:=rb ha hb
 unfold ywh mulQ
 rw[ytq _ (by simp)]
 simp only[Option.bind_some,List.all_cons,List.all_nil,Bool.and_true,ha,hb,Bool.and_self,Bool.not_true,Bool.false_eq_true,if_false]
 rw[ytb (n:=a.1*b.1) (by omega) (by omega),ytb (n:=a.2*b.2) (by omega) (by omega),yhs _ _ ne (by omega) (by omega) (by omega) (by omega),yfw]
 rfl
theorem ycy:yfk a b=some (unO (divQ a b)):=by
 obtain⟨m1,m2,m3,m4,ne,m5⟩:=rb ha hb
 obtain⟨a1,_⟩:=isRat_iff.1 ha
 unfold yfk divQ
 rw[ytq _ (by simp)]
 simp only[Option.bind_some,List.all_cons,List.all_nil,Bool.and_true,ha,hb,Bool.and_self,Bool.not_true,Bool.false_or]
 by_cases h:b.1=0
 ·simp[h,unO]
 have h':(b.1==0)=false:=by simpa using h
 simp only[h',Bool.false_eq_true,if_false,h]
 rw[ytb (n:=a.1*b.2) (by omega) (by omega),ytb (n:=a.2*b.1) (by omega) (by omega),yhs _ _ (Int.mul_ne_zero (by omega) h) (by omega) (by omega) (by omega) (by omega),yfw]
 rfl
theorem ylb1:ygl bad a b=some (cK bad (addQ a b)):=by
 unfold ygl;rw[ygw ha hb,Option.bind_some,yks];rfl
theorem yfu:ych bad a b=some (cK bad (subQ a b)):=by
 unfold ych;rw[yhw ha hb,Option.bind_some,yks];rfl
theorem yfj1:yvn bad a b=some (cK bad (mulQ a b)):=by
 unfold yvn;rw[yiw ha hb,Option.bind_some,yks];rfl
theorem ymb1:yfl bad a b=some (cK bad (divQ a b)):=by
 unfold yfl;rw[ycy ha hb,Option.bind_some,yks];rfl
end impl
def absR (r:Rt):Rt:=((r.1.natAbs:Int),r.2)
def distQ (a b:Rt):Option Rt:=if less a b then subQ b a else subQ a b
theorem yos1 {n d:Int} (hd:0<d):lowQ (-n) d=(lowQ n d).map fun r=>(-r.1,r.2):=by
 have hn:¬ d<0:=by omega
 have e:isRat (Int.tdiv (-n) (Int.gcd n d:Int),Int.tdiv d (Int.gcd n d:Int))=isRat (Int.tdiv n (Int.gcd n d:Int),Int.tdiv d (Int.gcd n d:Int)):=by
  rw[Int.neg_tdiv];cases h:isRat (Int.tdiv n (Int.gcd n d:Int),Int.tdiv d (Int.gcd n d:Int))
  ·cases h2:isRat (-Int.tdiv n (Int.gcd n d:Int),Int.tdiv d (Int.gcd n d:Int))
   ·rfl
   have:=yoy h2
   simp only[Int.zero_sub,Int.neg_neg] at this;rw[h] at this;cases this
  have:=yoy h
  simp only[Int.zero_sub] at this;exact this
 unfold lowQ lowest
 simp only[Int.neg_gcd,if_neg hn,e]
 cases isRat (Int.tdiv n (Int.gcd n d:Int),Int.tdiv d (Int.gcd n d:Int))
 ·rfl
 simp[Int.neg_tdiv]
theorem ynb1 {a b:Rt} (ha:isRat a=true) (hb:isRat b=true):0<a.2*b.2:=Int.mul_pos (by have:=(isRat_iff.1 ha).1;omega) (by have:=(isRat_iff.1 hb).1;omega)
end Go.PV

/-
 Plain laws: what draws fractions and vectors always comes to an end.
 Conditions: none.
-/
set_option linter.all false
namespace Go.PV
theorem yfz1 {B:Nat} (hB:B<=100000000) {c:Cur} (hc:Ck B c):Tot (ybm c) fun r=>isRat r.1=true/\Ck (B+12) r.2:=by
 unfold ybm
 refine(yji hc (by omega) _).bind fun v1 ⟨⟨a1,a2⟩,h1⟩=>?_
 refine(yji h1 (by omega) _).bind fun v2 ⟨⟨b1,b2⟩,h2⟩=>?_
 refine(ytj h2 (by omega) _ (by simp)).bind fun v3 ⟨m3,h3⟩=>?_
 refine(yji h3 (by omega) _).bind fun v4 ⟨⟨d1,d2⟩,h4⟩=>?_
 refine(yji h4 (by omega) _).bind fun v5 ⟨⟨e1,e2⟩,h5⟩=>?_
 refine(ytj h5 (by omega) _ (by simp)).bind fun v6 ⟨m6,h6⟩=>?_
 have a3:=a2 (by omega);have b3:=b2 (by omega);have d3:=d2 (by omega);have e3:=e2 (by omega)
 rw[ytb (by omega) (by omega),ytb (by omega) (by omega)] at m3 m6
 simp only[List.mem_cons,List.not_mem_nil,or_false] at m3 m6
 rw[ybg v3.1 v6.1 (by omega) (by omega) (by omega) (by omega) (by omega),Option.bind_some]
 unfold ypb
 cases hq:lowQ v3.1 v6.1 with
 | none=>exact Tot.ret ⟨yny,h6⟩
 | some q=>exact Tot.ret ⟨yax hq,h6⟩
theorem yjw {B:Nat} (hB:B<=100000000) {c:Cur} (hc:Ck B c):Tot (yqc c) fun r=>Ck (B+18) r.2:=by
 unfold yqc
 refine(yfz1 hB hc).bind fun v1 ⟨_,h1⟩=>?_
 refine(yji h1 (by omega) _).bind fun v2 ⟨_,h2⟩=>?_
 refine Tot.ite (fun _=>?_) (fun _=>Tot.ite (fun _=>?_) (fun _=>Tot.ite (fun _=>?_) (fun _=>Tot.ret (h2.mono (by omega)))))
 ·exact(ytj h2 (by omega) _ (by simp)).bind fun v ⟨_,h⟩=>Tot.ret (h.mono (by omega))
 ·exact(ytj h2 (by omega) _ (by simp)).bind fun v ⟨_,h⟩=>Tot.ret (h.mono (by omega))
 exact(ytj h2 (by omega) _ (by simp)).bind fun v ⟨_,h⟩=>(ytj h (by omega) _ (by simp)).bind fun w ⟨_,h'⟩=>Tot.ret (h'.mono (by omega))
end Go.PV

set_option linter.all false
namespace Go.PV
theorem yps1 {r:Int×Int} (h:isRat r=true):(r.1*1==0*r.2)=(r==(0,1)):=by
 obtain⟨h1,h2,h3,h4,h5⟩:=isRat_iff.1 h
 obtain⟨n,d⟩:=r
 simp only[Int.mul_one,Int.zero_mul]
 by_cases hn:n=0
 ·subst hn
  have h6:d.natAbs=1:=by simpa using h5
  have h7:d=1:=by omega
  subst h7;rfl
 have e1:(n==0)=false:=by simpa using hn
 have e2:((n,d)==((0,1):Int×Int))=false:=by simp[hn]
 rw[e1,e2]
theorem yhw1 {r:Int×Int} (h:isRat r=true):(r.1*1==1*r.2)=(r==(1,1)):=by
 obtain⟨h1,h2,h3,h4,h5⟩:=isRat_iff.1 h
 obtain⟨n,d⟩:=r
 simp only[Int.mul_one,Int.one_mul]
 by_cases hn:n=d
 ·subst hn
  have h6:n.natAbs=1:=by simpa using h5
  have h7:n=1:=by omega
  subst h7;rfl
 by_cases h6:n=1
 ·subst h6;have:¬ d=1:=fun e=>hn e.symm
  have e1:((1:Int)==d)=false:=by simpa using hn
  have e2:(((1:Int),d)==((1,1):Int×Int))=false:=by simp[this]
  rw[e1,e2]
 have e1:(n==d)=false:=by simpa using hn
 have e2:((n,d)==((1,1):Int×Int))=false:=by simp[h6]
 rw[e1,e2]
theorem yim1 (a b:Int×Int):((a.1==b.1)&&(a.2==b.2))=(a==b):=by
 obtain⟨a1,a2⟩:=a;obtain⟨b1,b2⟩:=b;rfl
end Go.PV

/-
 Plain laws: maps of the interval.
 Conditions: none.
-/
set_option linter.all false
namespace Go.PV
section
variable {α β:Type}
theorem yjg1 {X Y:Type} {body:X->Option (X ⊕ Y)} (n:Nat) (S:List β->Nat->X) (f:Nat->β) (y:Y) (h1:∀ i,i<n->body (S (tab i f) i)=some (.inl (S (tab i f++[f i]) (i+1)))) (h2:body (S (tab n f) n)=some (.inr y)):loopO body (S [] 0)=some y:=by
 have:=yrc (body:=body) n (fun i=>S (tab i f) i) y (fun i hi=>by rw[h1 i hi,ygg1]) h2
 rw[yms1] at this
 exact this
theorem yyc1 (i:Nat) (f:Nat->β) (x:β) (h:i<=1048576):(tab i f).length+[x].length<=1099511627776:=by rw[yxa];simp;omega
end
def isMapT (n:Nat) (p:Nat->Pt):Prop:=(∀ i,i<n->coord (p i).1=true/\coord (p i).2=true)/\(∀ i,0<i->i<n->less (p (i-1)).1 (p i).1=true)/\(p 0).1=(0,1)/\(p (n-1)).1=(1,1)
theorem yho {i:Nat} (h:0<i) (h2:i<4611686018427387904):w64 ((i:Int)-1)=((i-1:Nat):Int):=by rw[ytb (by omega) (by omega)];omega
theorem yfp {r:Rt} (h:coord r=true):tame r:=ylb (ynf h)
theorem ypy {α:Type} {n:Nat} {p:Nat->α} (h:0<n):idxO (tab n p) 0=some (p 0):=yma (n:=n) (f:=p) (i:=0) h
theorem yoa1 (n:Nat) (p:Nat->Pt) (h2:2<=n) (hn:n<=12):∃ c,ycf (tab n p)=some c/\(c=true↔isMapT n p):=by
 obtain⟨y,h3,h4⟩:=yrq (body:=yyl (tab n p)) (fun x=>∃ i:Nat,x=(i:Int)/\i<=n/\(∀ j,j<i->coord (p j).1=true/\coord (p j).2=true)/\(∀ j,0<j->j<i->less (p (j-1)).1 (p j).1=true)) (fun x=>n-x.toNat)
  (fun y=>(y=.inl false/\¬ isMapT n p)\/(y=.inr ()/\(∀ j,j<n->coord (p j).1=true/\coord (p j).2=true)/\(∀ j,0<j->j<n->less (p (j-1)).1 (p j).1=true))) (fun x ⟨i,e,hi,hc,hl⟩=>by
   subst e;by_cases hlt:i<n
   ·simp only[yyl,yxa,yma hlt,show((i:Int)<(n:Int)) from by omega,decide_true,if_true,Option.bind_some,yma1]
    cases h5:coord (p i).1
    ·right;exact⟨.inl false,by simp,.inl ⟨rfl,fun h=>by have:=(h.1 i hlt).1;rw[h5] at this;cases this⟩⟩
    cases h6:coord (p i).2
    ·right;exact⟨.inl false,by simp,.inl ⟨rfl,fun h=>by have:=(h.1 i hlt).2;rw[h6] at this;cases this⟩⟩
    have hc':∀ j,j<i+1->coord (p j).1=true/\coord (p j).2=true:=fun j hj=>by
     by_cases hji:j<i
     ·exact hc j hji
     have:j=i:=by omega
     subst this;exact⟨h5,h6⟩
    by_cases hi0:i=0
    ·left
     subst hi0;exact⟨((1:Nat):Int),by simp[ytb],⟨1,rfl,by omega,hc',fun j h1 h2=>by omega⟩,by simp;omega⟩
    have hlt2:i-1<n:=by omega
    have hpos:((i:Int)>0):=by omega
    have ht1:=yfp (hc (i-1) (by omega)).1
    simp only[hpos,decide_true,if_true,Bool.not_true,Bool.false_eq_true,if_false,yho (show 0<i by omega) (by omega),yma hlt2,Option.bind_some,ymb _ _ ht1 (yfp h5),ydz1]
    cases h7:less (p (i-1)).1 (p i).1
    ·right;exact⟨.inl false,by simp,.inl ⟨rfl,fun h=>by have:=h.2.1 i (by omega) hlt;rw[h7] at this;cases this⟩⟩
    left
    refine⟨((i+1:Nat):Int),by simp[yya (show i<9223372036854775807 by omega)],⟨i+1,rfl,hlt,hc',fun j h1 h2=>?_⟩,by simp;omega⟩
    by_cases hji:j<i
    ·exact hl j h1 hji
    have:j=i:=by omega
    subst this;exact h7
   have:i=n:=by omega
   subst this;right
   exact⟨.inr (),by simp[yyl,yxa],.inr ⟨rfl,hc,hl⟩⟩) 0 ⟨0,rfl,by omega,fun j h=>by omega,fun j _ h=>by omega⟩
 have hin:inB 2 12 ((tab n p).length:Int)=true:=by rw[yxa,inB_iff];omega
 unfold ycf
 rw[yvk,Option.bind_some,hin]
 rw[h3]
 rcases h4 with⟨rfl,h4⟩ | ⟨rfl,h4,h5⟩
 ·exact⟨false,by simp,by simp[h4]⟩
 have hc0:=(h4 0 (by omega)).1
 have hc1:=(h4 (n-1) (by omega)).1
 have hw:w64 ((n:Int)-1)=((n-1:Nat):Int):=yho (by omega) (by omega)
 have t0:tame (0,1):=⟨by decide,by decide,by decide,by decide⟩
 have t1:tame (1,1):=⟨by decide,by decide,by decide,by decide⟩
 simp only[Bool.not_true,Bool.false_eq_true,if_false,Option.bind_some,Sum.elim_inr,yqo,ypy (show 0<n by omega),ypb,yxa,hw,yma (show n-1<n by omega),ymb _ _ (yfp hc0) t0,ymb _ _ (yfp hc1) t1,ycm1,yps1 (ynf hc0),yhw1 (ynf hc1)]
 refine⟨((p 0).1==(0,1))&&((p (n-1)).1==(1,1)),?_,?_⟩
 ·cases ((p 0).1==((0,1):Rt)) <;> simp
 simp only[Bool.and_eq_true,beq_iff_eq]
 exact⟨fun h=>⟨h4,h5,h.1,h.2⟩,fun h=>⟨h.2.2.1,h.2.2.2⟩⟩
theorem ypa1 (p:Pt):ykn p=some (!(coord p.1&&coord p.2)):=by
 unfold ykn
 simp only[yna1,Option.bind_some]
 cases coord p.1 <;> cases coord p.2 <;> rfl
theorem ywe1 (n:Nat) (p:Nat->Pt) (hn:n<=1048576):ymw (tab n p)=some (tab n fun i=>(p i).1):=by
 have hx:=yjg1 (body:=yqp (tab n p)) n (fun l i=>(l,(i:Int))) (fun i=>(p i).1) (tab n fun i=>(p i).1) (fun i hi=>by
  simp only[yqp,yxa,yma hi,show((i:Int)<(n:Int)) from by omega,decide_true,if_true,Option.bind_some,yea (yyc1 i (fun i=>(p i).1) (p i).1 (by omega)),yya (show i<9223372036854775807 by omega)]
  rw[yea (by simp;omega)]) (by simp[yqp,yxa])
 unfold ymw
 rw[show(0:Int)=((0:Nat):Int) from rfl,hx];rfl
theorem ydy (n:Nat) (r:Nat->Rt) (hn:n<=1048576) (h1:1<=n) (hr:∀ i,i<n->isRat (r i)=true):∃ c,yxn (tab n r)=some c/\(c=true↔∀ i,0<i->i<n->less (r (i-1)) (r i)=true):=by
 obtain⟨y,h3,h4⟩:=yrq (body:=yzi (tab n r)) (fun x=>∃ i:Nat,x=(i:Int)/\1<=i/\i<=n/\(∀ j,0<j->j<i->less (r (j-1)) (r j)=true)) (fun x=>n-x.toNat)
  (fun y=>(y=.inl false/\¬ ∀ i,0<i->i<n->less (r (i-1)) (r i)=true)\/(y=.inr ()/\∀ i,0<i->i<n->less (r (i-1)) (r i)=true)) (fun x ⟨i,e,hi0,hi,hl⟩=>by
   subst e;by_cases hlt:i<n
   ·simp only[yzi,yxa,yma hlt,yho (show 0<i by omega) (by omega),yma (show i-1<n by omega),show((i:Int)<(n:Int)) from by omega,decide_true,if_true,Option.bind_some,ydd _ _ (ylb (hr (i-1) (by omega))) (ylb (hr i hlt))]
    cases h7:less (r (i-1)) (r i)
    ·right;exact⟨.inl false,by simp,.inl ⟨rfl,fun h=>by have:=h i (by omega) hlt;rw[h7] at this;cases this⟩⟩
    left
    refine⟨((i+1:Nat):Int),by simp[yya (show i<9223372036854775807 by omega)],⟨i+1,rfl,by omega,hlt,fun j h1 h2=>?_⟩,by simp;omega⟩
    by_cases hji:j<i
    ·exact hl j h1 hji
    have:j=i:=by omega
    subst this;exact h7
   have:i=n:=by omega
   subst this;right
   exact⟨.inr (),by simp[yzi,yxa],.inr ⟨rfl,hl⟩⟩) 1 ⟨1,rfl,by omega,by omega,fun j _ h=>by omega⟩
 unfold yxn
 rw[h3]
 rcases h4 with⟨rfl,h4⟩ | ⟨rfl,h4⟩
 ·exact⟨false,by simp,by simp[h4]⟩
 exact⟨true,by simp[yzl],fun _=>h4,fun _=>rfl⟩
theorem yzc1 (n:Nat) (p:Nat->Pt) (h2:2<=n) (hn:n<=12):∃ c,ymg (tab n p)=some c/\(c=true↔isMapT n p):=by
 have hin:inB 2 12 ((tab n p).length:Int)=true:=by rw[yxa,inB_iff];omega
 unfold ymg
 rw[ypl,Option.bind_some,hin,yah (tab n p) (fun x0=>ykn x0) _ ypa1 (by rw[yxa];omega)]
 simp only[Bool.not_true,Bool.false_eq_true,if_false,Option.bind_some]
 by_cases hc:∀ i,i<n->coord (p i).1=true/\coord (p i).2=true
 ·have hany:((tab n p).any fun q=> !(coord q.1&&coord q.2))=false:=by
   rw[List.any_eq_false];intro q hq;obtain⟨i,hi,rfl⟩:=tab_mem.1 hq;simp[(hc i hi).1,(hc i hi).2]
  obtain⟨c,h3,h4⟩:=ydy n (fun i=>(p i).1) (by omega) (by omega) (fun i hi=>ynf (hc i hi).1)
  have hw:w64 ((n:Int)-1)=((n-1:Nat):Int):=yho (by omega) (by omega)
  simp only[hany,Bool.false_eq_true,if_false,ypy (show 0<n by omega),yjq,yiu,Option.bind_some,yxa,hw,yma (show n-1<n by omega),ywe1 n p (by omega),h3,yim1 (p 0).1 (0,1),yim1 (p (n-1)).1 (1,1)]
  refine⟨((p 0).1==(0,1))&&(((p (n-1)).1==(1,1))&&c),?_,?_⟩
  ·cases ((p 0).1==((0,1):Rt)) <;> cases ((p (n-1)).1==((1,1):Rt)) <;> simp
  simp only[Bool.and_eq_true,beq_iff_eq,h4];exact⟨fun h=>⟨hc,h.2.2,h.1,h.2.1⟩,fun h=>⟨h.2.2.1,h.2.2.2,h.2.1⟩⟩
 have hany:((tab n p).any fun q=> !(coord q.1&&coord q.2))=true:=by
  refine Classical.byContradiction fun hno=>hc fun i hi=>?_
  have:((tab n p).any fun q=> !(coord q.1&&coord q.2))=false:=by simpa using hno
  have:=List.any_eq_false.1 this (p i) (tab_mem.2 ⟨i,hi,rfl⟩)
  simpa using this
 exact⟨false,by rw[hany];rfl,⟨fun h=>(by cases h),fun h=>absurd h.1 hc⟩⟩
theorem ykr (f:List Pt) (hl:f.length<=4611686018427387904):∃ c,ycf f=some c/\ymg f=some c/\(c=true->∃ n p,f=tab n p/\2<=n/\n<=12/\isMapT n p):=by
 cases h:inB 2 12 (f.length:Int)
 ·exact⟨false,by simp[ycf,yvk,h],by simp[ymg,ypl,h],by simp⟩
 have hb:=inB_iff.1 h
 have e:f=tab f.length (fun i=>f.getD i ((0,0),(0,0))):=yzl1 f
 obtain⟨c,h1,h2⟩:=yoa1 f.length (fun i=>f.getD i ((0,0),(0,0))) (by omega) (by omega)
 obtain⟨d,h3,h4⟩:=yzc1 f.length (fun i=>f.getD i ((0,0),(0,0))) (by omega) (by omega)
 rw[← e] at h1 h3
 have hcd:d=c:=by
  have h5:d=true↔c=true:=h4.trans h2.symm
  cases c <;> cases d
  ·rfl
  ·have:=h5.1 rfl;cases this
  ·have:=h5.2 rfl;cases this
  rfl
 subst hcd
 exact⟨d,h1,h3,fun hd=>⟨f.length,_,e,by omega,by omega,h2.1 hd⟩⟩
end Go.PV

/-
 Plain laws: the variation of a map.
 Conditions: none.
-/
set_option linter.all false
namespace Go.PV
def sumD (r:Nat->Rt):Nat->Option Rt
 | 0=>some (0,1)
 | k+1=>(sumD r k).bind fun s=>(distQ (r k) (r (k+1))).bind fun d=>addQ s d
end Go.PV

/-
 Plain laws: slopes and laps of a map.
 Conditions: none.
-/
set_option linter.all false
namespace Go.PV
structure LowOk (n d:Int) (r:Rt):Prop where
 eq:lowQ n d=some r
 rat:isRat r=true
 num:r.1.natAbs<=n.natAbs
 den:1<=r.2/\r.2<=d
 pos:0<n->0<r.1
 neg:n<0->r.1<0
 zer:n=0->r.1=0
theorem ygp {n d:Int} (h1:0<=n) (h2:n<=1000000000) (h3:1<=d) (h4:d<=1000000000):∃ r,LowOk n d r:=by
 have hg:0<Int.gcd n d:=Int.gcd_pos_of_ne_zero_right _ (by omega)
 have hdn:¬ d<0:=by omega
 have hr:=yhg1 h1 h2 h3 h4
 have e:lowest n d=if isRat (Int.tdiv n (Int.gcd n d:Int),Int.tdiv d (Int.gcd n d:Int))=true then((Int.tdiv n (Int.gcd n d:Int),Int.tdiv d (Int.gcd n d:Int)),true) else((0,0),false):=by
  unfold lowest;simp only[if_neg hdn]
 have hrat:isRat (Int.tdiv n (Int.gcd n d:Int),Int.tdiv d (Int.gcd n d:Int))=true:=by
  refine Classical.byContradiction fun hno=>?_
  rw[e,if_neg hno] at hr;exact absurd hr (by decide)
 rw[if_pos hrat] at e
 have e1:Int.tdiv n (Int.gcd n d:Int)=n / (Int.gcd n d:Int):=Int.tdiv_eq_ediv_of_nonneg h1
 have e2:Int.tdiv d (Int.gcd n d:Int)=d / (Int.gcd n d:Int):=Int.tdiv_eq_ediv_of_nonneg (by omega)
 have hgn:0<n->(Int.gcd n d:Int)<=n:=fun h=>by
  have:=Nat.gcd_le_left d.natAbs (show 0<n.natAbs by omega)
  have e:Int.gcd n d=Nat.gcd n.natAbs d.natAbs:=rfl
  omega
 refine⟨_,⟨by unfold lowQ;rw[e];rfl,hrat,?_,⟨(isRat_iff.1 hrat).1,?_⟩,fun h=>?_,fun h=>by omega,fun h=>by subst h;simp⟩⟩
 ·exact yue1 _ _
 ·show Int.tdiv d _<=d
  have:=yue1 d (Int.gcd n d:Int)
  have h5:=(isRat_iff.1 hrat).1
  simp only at h5
  omega
 show 0<Int.tdiv n _
 rw[e1]
 exact Int.ediv_pos_of_pos_of_dvd h (by omega) (Int.gcd_dvd_left ..)
theorem yci1 {n d:Int} (h1 : -1000000000<=n) (h2:n<=1000000000) (h3:1<=d) (h4:d<=1000000000):∃ r,LowOk n d r:=by
 by_cases hn:0<=n
 ·exact ygp hn h2 h3 h4
 obtain⟨r,h⟩:=ygp (n := -n) (d:=d) (by omega) (by omega) h3 h4
 have e:=yos1 (n := -n) (d:=d) (by omega)
 rw[Int.neg_neg,h.eq] at e
 have hr:=yoy h.rat
 have:=h.pos (by omega)
 have:=h.num
 exact⟨(-r.1,r.2),⟨e,by rw[Int.zero_sub] at hr;exact hr,by show(-r.1).natAbs<=_;omega,h.den,fun h=>by omega,fun h=>by show -r.1<0;omega,fun h=>by omega⟩⟩
theorem ymz {r:Rt} (h:coord r=true):0<=r.1/\r.1<=r.2/\1<=r.2/\r.2<=100:=by
 simp only[coord,isUnit,Bool.and_eq_true,inB_iff,decide_eq_true_eq] at h
 have:=isRat_iff.1 h.1.1
 omega
theorem ykg1 {a b A B:Int} (h1 : -A<=a) (h2:a<=A) (h3 : -B<=b) (h4:b<=B) (hA:0<=A) (hB:0<=B) : -(A*B)<=a*b/\a*b<=A*B:=by
 have h5:(a*b).natAbs<=A.natAbs*B.natAbs:=by rw[Int.natAbs_mul];exact Nat.mul_le_mul (by omega) (by omega)
 have h6:((A.natAbs*B.natAbs:Nat):Int)=A*B:=by rw[Int.natCast_mul];rw[Int.natAbs_of_nonneg hA,Int.natAbs_of_nonneg hB]
 omega
def small (r:Rt):Prop:=isRat r=true /\ -500<=r.1/\r.1<=500/\1<=r.2/\r.2<=100
theorem yij {r:Rt} (h:coord r=true):small r:=by
 have:=ymz h
 exact⟨ynf h,by omega,by omega,by omega,by omega⟩
theorem ydi1 {a b:Rt} (ha:small a) (hb:small b):∃ r,LowOk (a.1*b.2-b.1*a.2) (a.2*b.2) r/\subQ a b=some r/\r.1.natAbs<=100000/\r.2<=10000:=by
 obtain⟨_,a1,a2,a3,a4⟩:=ha
 obtain⟨_,b1,b2,b3,b4⟩:=hb
 have m1:=ykg1 (a:=a.1) (b:=b.2) (A:=500) (B:=100) (by omega) (by omega) (by omega) (by omega) (by omega) (by omega)
 have m2:=ykg1 (a:=b.1) (b:=a.2) (A:=500) (B:=100) (by omega) (by omega) (by omega) (by omega) (by omega) (by omega)
 have m3:=ykg1 (a:=a.2) (b:=b.2) (A:=100) (B:=100) (by omega) (by omega) (by omega) (by omega) (by omega) (by omega)
 have p3:0<a.2*b.2:=Int.mul_pos (by omega) (by omega)
 obtain⟨r,hr⟩:=yci1 (n:=a.1*b.2-b.1*a.2) (d:=a.2*b.2) (by omega) (by omega) (by omega) (by omega)
 have h5:=hr.num
 have h6:=hr.den
 exact⟨r,hr,hr.eq,by omega,by omega⟩
def slopeQ (p q:Pt):Rt:=(((subQ q.2 p.2).bind fun u=>(subQ q.1 p.1).bind fun v=>divQ u v)).getD (0,0)
structure SlopeOk (p q:Pt) (u v:Rt):Prop where
 up:subQ q.2 p.2=some u
 far:subQ q.1 p.1=some v
 ru:isRat u=true
 rv:isRat v=true
 div:divQ u v=some (slopeQ p q)
 rs:isRat (slopeQ p q)=true
 ub:u.1.natAbs<=100000/\u.2<=10000
 vb:v.1.natAbs<=10000/\v.2<=10000
 vp:0<v.1
 sg:(0<(slopeQ p q).1↔0<u.1)/\((slopeQ p q).1<0↔u.1<0)
theorem yjm1 {p q:Pt} (hp1:coord p.1=true) (hp2:small p.2) (hq1:coord q.1=true) (hq2:small q.2) (hl:less p.1 q.1=true):∃ u v,SlopeOk p q u v:=by
 obtain⟨u,hu,e1,u1,u2⟩:=ydi1 hq2 hp2
 obtain⟨v,hv,e2,v1',v2⟩:=ydi1 (yij hq1) (yij hp1)
 have v1:v.1.natAbs<=10000:=by
  have h1:=hv.num;obtain⟨a1,a2,a3,a4⟩:=ymz hq1;obtain⟨b1,b2,b3,b4⟩:=ymz hp1;have m1:=ykg1 (a:=q.1.1) (b:=p.1.2) (A:=100) (B:=100) (by omega) (by omega) (by omega) (by omega) (by omega) (by omega)
  have m2:=ykg1 (a:=p.1.1) (b:=q.1.2) (A:=100) (B:=100) (by omega) (by omega) (by omega) (by omega) (by omega) (by omega)
  have p1:0<=q.1.1*p.1.2:=Int.mul_nonneg a1 (by omega)
  have p2:0<=p.1.1*q.1.2:=Int.mul_nonneg b1 (by omega)
  omega
 have hlt:p.1.1*q.1.2<q.1.1*p.1.2:=by simpa [less] using hl
 have hvp:=hv.pos (by omega)
 have hud:=hu.den
 have hvd:=hv.den
 have m1:=ykg1 (a:=u.1) (b:=v.2) (A:=100000) (B:=10000) (by omega) (by omega) (by omega) (by omega) (by omega) (by omega)
 have m2:=ykg1 (a:=u.2) (b:=v.1) (A:=10000) (B:=10000) (by omega) (by omega) (by omega) (by omega) (by omega) (by omega)
 have m3:0<u.2*v.1:=Int.mul_pos (by omega) hvp
 obtain⟨s,hs⟩:=yci1 (n:=u.1*v.2) (d:=u.2*v.1) (by omega) (by omega) (by omega) (by omega)
 have e3:divQ u v=some s:=by unfold divQ;rw[if_neg (by omega)];exact hs.eq
 have e4:slopeQ p q=s:=by unfold slopeQ;rw[e1,e2];simp[e3]
 refine⟨u,v,⟨e1,e2,hu.rat,hv.rat,by rw[e4];exact e3,by rw[e4];exact hs.rat,⟨u1,u2⟩,⟨v1,v2⟩,hvp,?_⟩⟩
 rw[e4]
 have hv2:0<v.2:=by omega
 rcases Int.lt_trichotomy u.1 0 with h | h | h
 ·have h1:u.1*v.2<0:=Int.mul_neg_of_neg_of_pos h hv2
  have:=hs.neg h1
  constructor <;> constructor <;> omega
 ·have h1:u.1*v.2=0:=by rw[h,Int.zero_mul]
  have:=hs.zer h1
  constructor <;> constructor <;> omega
 have h1:0<u.1*v.2:=Int.mul_pos h hv2
 have:=hs.pos h1
 constructor <;> constructor <;> omega
theorem yst {p q:Pt} {u v:Rt} (hp1:coord p.1=true) (hp2:small p.2) (hq1:coord q.1=true) (hq2:small q.2) (h:SlopeOk p q u v) (bad:Bool):yeg bad p q=some (slopeQ p q,bad):=by
 unfold yeg
 rw[yfu bad hq2.1 hp2.1,Option.bind_some,h.up]
 simp only[cK]
 rw[yfu bad (ynf hq1) (ynf hp1),Option.bind_some,h.far]
 simp only[cK]
 rw[ymb1 bad h.ru h.rv,Option.bind_some,h.div]
 rfl
theorem yck {p q:Pt} {u v:Rt} (hp1:coord p.1=true) (hp2:small p.2) (hq1:coord q.1=true) (hq2:small q.2) (h:SlopeOk p q u v):ynh p q=some (slopeQ p q):=by
 unfold ynh
 rw[yhq hq2.1 hp2.1,Option.bind_some,h.up]
 simp only[unO]
 rw[yhq (ynf hq1) (ynf hp1),Option.bind_some,h.far]
 simp only[unO]
 rw[ysx h.ru h.rv,Option.bind_some,h.div]
 rfl
section
variable {n:Nat} {p:Nat->Pt}
theorem ylg1 (h:isMapT n p) {i:Nat} (hi:i+1<n):∃ u v,SlopeOk (p i) (p (i+1)) u v :=
 yjm1 (h.1 i (by omega)).1 (yij (h.1 i (by omega)).2) (h.1 (i+1) hi).1 (yij (h.1 (i+1) hi).2) (h.2.1 (i+1) (by omega) hi)
def slopesT (n:Nat) (p:Nat->Pt):List Rt:=tab (n-1) fun i=>slopeQ (p i) (p (i+1))
theorem yqa1 (h:isMapT n p) (h2:2<=n) (hn:n<=12):yix (tab n p)=some (slopesT n p):=by
 have hx:=yjg1 (body:=yro (tab n p)) (n-1) (fun l i=>(false,l,((i+1:Nat):Int))) (fun i=>slopeQ (p i) (p (i+1))) (slopesT n p) (fun i hi=>by
  obtain⟨u,v,hs⟩:=ylg1 h (i:=i) (by omega)
  have a:=h.1 i (by omega)
  have b:=h.1 (i+1) (by omega)
  simp only[yro,yxa,yho (show 0<i+1 by omega) (by omega),Nat.add_sub_cancel,yma (show i<n by omega),yma (show i+1<n by omega),show(((i+1:Nat):Int)<(n:Int)) from by omega,decide_true,if_true,Option.bind_some,yst a.1 (yij a.2) b.1 (yij b.2) hs false,yya (show i+1<9223372036854775807 by omega)]
  rw[yea (by simp;omega)]) (by
  simp only[yro,yxa,show ¬ (((n-1+1:Nat):Int)<(n:Int)) from by omega,decide_false,Bool.false_eq_true,if_false];rfl)
 unfold yix
 rw[show(1:Int)=((0+1:Nat):Int) from rfl,hx];rfl
theorem yey (h:isMapT n p) (h2:2<=n) (hn:n<=12):ywn (tab n p)=some (slopesT n p):=by
 have hx:=yjg1 (body:=yyi (tab n p)) (n-1) (fun l i=>(l,((i+1:Nat):Int))) (fun i=>slopeQ (p i) (p (i+1))) (slopesT n p) (fun i hi=>by
  obtain⟨u,v,hs⟩:=ylg1 h (i:=i) (by omega)
  have a:=h.1 i (by omega)
  have b:=h.1 (i+1) (by omega)
  simp only[yyi,yxa,yho (show 0<i+1 by omega) (by omega),Nat.add_sub_cancel,yma (show i<n by omega),yma (show i+1<n by omega),show(((i+1:Nat):Int)<(n:Int)) from by omega,decide_true,if_true,Option.bind_some,yck a.1 (yij a.2) b.1 (yij b.2) hs,yya (show i+1<9223372036854775807 by omega)]
  rw[yea (by simp;omega)]) (by
  simp only[yyi,yxa,show ¬ (((n-1+1:Nat):Int)<(n:Int)) from by omega,decide_false,Bool.false_eq_true,if_false];rfl)
 unfold ywn
 rw[show(1:Int)=((0+1:Nat):Int) from rfl,hx];rfl
def strictB (n:Nat) (p:Nat->Pt):Bool:=(slopesT n p).all fun s=> !(s.1==0)
end
end Go.PV

/-
 Plain laws: values of maps and lifts.
 Conditions: none.
-/
set_option linter.all false
namespace Go.PV
structure Curve (n:Nat) (p:Nat->Pt):Prop where
 lo:2<=n
 hi:n<=12
 x:∀ i,i<n->coord (p i).1=true
 y:∀ i,i<n->small (p i).2
 up:∀ i,0<i->i<n->less (p (i-1)).1 (p i).1=true
 fst:(p 0).1=(0,1)
 lst:(p (n-1)).1=(1,1)
theorem Curve.of_map {n:Nat} {p:Nat->Pt} (h:isMapT n p) (h2:2<=n) (hn:n<=12):Curve n p :=
 ⟨h2,hn,fun i hi=>(h.1 i hi).1,fun i hi=>yij (h.1 i hi).2,h.2.1,h.2.2.1,h.2.2.2⟩
def CR (bad:Bool) (o:Option Rt) (v:Rt×Bool):Prop:=isRat v.1=true/\match o with
 | some r=>v=(r,bad)
 | none=>v.2=true
theorem ypt1 {bad:Bool} {o:Option Rt} (h:∀ r,o=some r->isRat r=true):CR bad o (cK bad o):=by
 refine⟨yez1 h,?_⟩
 cases o <;> rfl
theorem ykm1 {o:Option Rt} {v:Rt×Bool} (h:CR true o v):v.2=true:=by
 obtain⟨_,h⟩:=h
 cases o with
 | some r=>rw[h]
 | none=>exact h
theorem yei1 {bad:Bool} {o:Option Rt} {v v':Rt×Bool} {g:Rt->Option Rt} (h:CR bad o v) (h':CR v.2 (g v.1) v'):CR bad (o.bind g) v':=by
 obtain⟨h1,h2⟩:=h
 refine⟨h'.1,?_⟩
 cases o with
 | some r =>
  simp only at h2
  subst h2;exact h'.2
 | none =>
  simp only at h2
  simp only[Option.bind_none];have:=h'
  rw[h2] at this;exact ykm1 this
section
variable {n:Nat} {p:Nat->Pt}
theorem Curve.piece (h:Curve n p) {i:Nat} (hi:i+1<n):∃ u v,SlopeOk (p i) (p (i+1)) u v :=
 yjm1 (h.x i (by omega)) (h.y i (by omega)) (h.x (i+1) hi) (h.y (i+1) hi) (h.up (i+1) (by omega) hi)
structure AtJ (n:Nat) (p:Nat->Pt) (x:Rt) (j:Nat):Prop where
 lt:j<n
 bef:∀ k,k<j->less (p k).1 x=true
 at':less (p j).1 x=false
theorem ygz1 (h:Curve n p) {x:Rt} (hx:isUnit x=true):∃ j,AtJ n p x j:=by
 have hr:isRat x=true:=by simp only[isUnit,Bool.and_eq_true] at hx;exact hx.1
 have hle:less (p (n-1)).1 x=false:=by
  rw[h.lst];simp only[isUnit,Bool.and_eq_true,inB_iff] at hx;have:=isRat_iff.1 hr
  simp only[less,decide_eq_false_iff_not];omega
 have:∀ k,k<n->(∃ j,AtJ n p x j)\/∀ i,i<=k->less (p i).1 x=true:=by
  intro k;induction k with
  | zero =>
   intro hk;cases h0:less (p 0).1 x
   ·exact .inl ⟨0,hk,fun k hk=>by omega,h0⟩
   exact .inr fun i hi=>by have:i=0:=(by omega);subst this;exact h0
  | succ k ih =>
   intro hk;rcases ih (by omega) with h1 | h1
   ·exact .inl h1
   cases h0:less (p (k+1)).1 x
   ·exact .inl ⟨k+1,hk,fun i hi=>h1 i (by omega),h0⟩
   refine .inr fun i hi=>?_
   by_cases hik:i<=k
   ·exact h1 i hik
   have:i=k+1:=by omega
   subst this;exact h0
 have h2:=h.lo
 rcases this (n-1) (by omega) with h1 | h1
 ·exact h1
 have:=h1 (n-1) (Nat.le_refl _)
 rw[hle] at this;cases this
theorem AtJ.uniq {x:Rt} {j k:Nat} (h:AtJ n p x j) (h':AtJ n p x k):j=k:=by
 rcases Nat.lt_trichotomy j k with h1 | h1 | h1
 ·have:=h'.bef j h1;rw[h.at'] at this;cases this
 ·exact h1
 have:=h.bef k h1;rw[h'.at'] at this;cases this
theorem yqs1 (f:Pt->Option Bool) (q:Nat->Bool) (hf:∀ i,i<n->f (p i)=some (q i)) (j:Nat) (hj:j<n) (hn:n<=1048576) (h1:∀ k,k<j->q k=false) (h2:q j=true):yha (tab n p) f=some (j:Int):=by
 have hx:=yrc (body:=yia (tab n p) f) j (fun i=>(i:Int)) (.inl (j:Int)) (fun i hi=>by
  simp only[yia,yxa,yma (show i<n by omega),hf i (by omega),h1 i hi,Option.bind_some,show((i:Int)<(n:Int)) from by omega,decide_true,if_true,yya (show i<9223372036854775807 by omega)]
  simp) (by
  simp only[yia,yxa,yma hj,hf j hj,h2,Option.bind_some,show((j:Int)<(n:Int)) from by omega,decide_true,if_true])
 unfold yha
 rw[show(0:Int)=((0:Nat):Int) from rfl,hx]
 rfl
theorem yra1 (h:Curve n p) {x:Rt} (hx:isRat x=true) {j:Nat} (hj:AtJ n p x j):ynp (tab n p) x=some ((j-1:Nat):Int):=by
 have h1:=h.hi
 have hlt:=hj.lt
 unfold ynp
 rw[yqs1 (fun x0=>yvl x0 x) (fun i=> !less (p i).1 x) (fun i hi=>by simp[yvl,ydd _ _ (yfp (h.x i hi)) (ylb hx)]) j hlt (by omega) (fun k hk=>by simp[hj.bef k hk]) (by simp[hj.at'])]
 rw[Option.bind_some,ytb (by omega) (by omega)]
 congr 1
 split <;> omega
theorem ysa1 (h:Curve n p) {x:Rt} (hx:isRat x=true) {j:Nat} (hj:AtJ n p x j):ylp (tab n p) x=some ((j-1:Nat):Int):=by
 have h1:=h.hi
 have h2:=h.lo
 have hlt:=hj.lt
 have hx:=yrc (body:=yek (tab n p) x) (j-1) (fun i=>(i:Int)) ((j-1:Nat):Int) (fun i hi=>by
  have e2:w64 ((i:Int)+2)=((i+2:Nat):Int):=by rw[ytb (by omega) (by omega)];omega
  simp only[yek,yxa,e2,yya (show i<9223372036854775807 by omega),yma (show i+1<n by omega),Option.bind_some,ymb _ _ (yfp (h.x (i+1) (by omega))) (ylb hx),show(((i+2:Nat):Int)<(n:Int)) from by omega,decide_true,if_true]
  have:decide (cmp (p (i+1)).1 x<0)=true:=by
   have:=hj.bef (i+1) (by omega)
   simp only[less,decide_eq_true_eq] at this;simp[cmp,this]
  rw[this];rfl) (by
  have e2:w64 (((j-1:Nat):Int)+2)=((j-1+2:Nat):Int):=by rw[ytb (by omega) (by omega)];omega
  simp only[yek,yxa,e2];by_cases hc:j-1+2<n
  ·simp only[show(((j-1+2:Nat):Int)<(n:Int)) from by omega,decide_true,if_true,yya (show j-1<9223372036854775807 by omega),yma (show j-1+1<n by omega),Option.bind_some,ymb _ _ (yfp (h.x (j-1+1) (by omega))) (ylb hx)]
   have hno:less (p (j-1+1)).1 x=false:=by
    by_cases hj0:j=0
    ·subst hj0
     -- x is not behind the first point,so not behind the second
     have h3:=hj.at'
     have h4:=h.up 1 (by omega) (by omega)
     rw[h.fst] at h3 h4
     obtain⟨x1,x2,x3,x4,_⟩:=isRat_iff.1 hx;have c:=ymz (h.x 1 (by omega))
     simp only[less,decide_eq_false_iff_not,decide_eq_true_eq] at h3 h4 ⊢;simp only[Nat.zero_sub,Nat.zero_add,Nat.sub_self] at h4 ⊢;have p1:0<=(p 1).1.1*x.2:=Int.mul_nonneg c.1 (by omega)
     have p2:x.1*(p 1).1.2<=0:=Int.mul_nonpos_of_nonpos_of_nonneg (by omega) (by omega)
     omega
    rw[show j-1+1=j by omega];exact hj.at'
   have:decide (cmp (p (j-1+1)).1 x<0)=false:=by
    simp only[less,decide_eq_false_iff_not] at hno;simp only[cmp,hno,if_false];split <;> rfl
   rw[this];rfl
  simp only[show ¬ (((j-1+2:Nat):Int)<(n:Int)) from by omega,decide_false,Bool.false_eq_true,if_false,Option.bind_some])
 unfold ylp
 rw[show(0:Int)=((0:Nat):Int) from rfl,hx]
 rfl
def onQ (p q:Pt) (x:Rt):Option Rt:=(subQ x p.1).bind fun far=>(mulQ (slopeQ p q) far).bind fun up=>addQ p.2 up
theorem ydp1 (a b:Rt):mulQ a b=mulQ b a:=by unfold mulQ;rw[Int.mul_comm,Int.mul_comm a.2]
theorem ymg1 {q:Pt} {s x:Rt} (hq1:isRat q.1=true) (hq2:isRat q.2=true) (hs:isRat s=true) (hx:isRat x=true) (bad:Bool):∃ v,ywl bad q s x=some v/\CR bad ((subQ x q.1).bind fun far=>(mulQ s far).bind fun up=>addQ q.2 up) v:=by
 have c1:CR bad (subQ x q.1) (cK bad (subQ x q.1)):=ypt1 fun _=>yjs
 have c2:=ypt1 (bad:=(cK bad (subQ x q.1)).2) (o:=mulQ s (cK bad (subQ x q.1)).1) fun _=>yig1
 have c3:=ypt1 (bad:=(cK (cK bad (subQ x q.1)).2 (mulQ s (cK bad (subQ x q.1)).1)).2) (o:=addQ q.2 (cK (cK bad (subQ x q.1)).2 (mulQ s (cK bad (subQ x q.1)).1)).1) fun _=>ywc1
 refine⟨_,?_,yei1 c1 (yei1 (g:=fun up=>addQ q.2 up) c2 c3)⟩
 unfold ywl
 rw[yfu bad hx hq1,Option.bind_some,yfj1 _ hs c1.1,Option.bind_some,ylb1 _ hq2 c2.1]
 rfl
theorem yxe1 (h:Curve n p) {x:Rt} (hx:isRat x=true) {j:Nat} (hj:AtJ n p x j) (bad:Bool):∃ v,yoc bad (tab n p) x=some v/\CR bad (onQ (p (j-1)) (p (j-1+1)) x) v:=by
 have h1:=h.hi
 have h2:=h.lo
 have hlt:=hj.lt
 have hj1:j-1+1<n:=by omega
 obtain⟨u,v,hs⟩:=h.piece hj1
 obtain⟨w,e1,e2⟩:=ymg1 (q:=p (j-1)) (s:=slopeQ (p (j-1)) (p (j-1+1))) (x:=x) (ynf (h.x (j-1) (by omega))) (h.y (j-1) (by omega)).1 hs.rs hx bad
 refine⟨w,?_,e2⟩
 unfold yoc
 rw[yra1 h hx hj]
 simp only[Option.bind_some,yya (show j-1<9223372036854775807 by omega),yma (show j-1<n by omega),yma hj1,yst (h.x (j-1) (by omega)) (h.y (j-1) (by omega)) (h.x (j-1+1) hj1) (h.y (j-1+1) hj1) hs bad,e1]
theorem yta1 (s:Rt):ymp (0,0) s=some ((0,0),false):=by
 unfold ymp yob
 have:w64 (0*s.2)=0:=by rw[Int.zero_mul];rfl
 simp only[this]
 rfl
theorem yng1 (h:Curve n p) {x:Rt} (hx:isRat x=true) {j:Nat} (hj:AtJ n p x j):yul (tab n p) x=some (unO (onQ (p (j-1)) (p (j-1+1)) x)):=by
 have h1:=h.hi
 have h2:=h.lo
 have hlt:=hj.lt
 have hj1:j-1+1<n:=by omega
 obtain⟨u,v,hs⟩:=h.piece hj1
 have rx:=ynf (h.x (j-1) (by omega))
 unfold yul
 rw[ysa1 h hx hj]
 simp only[Option.bind_some,yya (show j-1<9223372036854775807 by omega),yma (show j-1<n by omega),yma hj1,yry,yhq hx rx,yck (h.x (j-1) (by omega)) (h.y (j-1) (by omega)) (h.x (j-1+1) hj1) (h.y (j-1+1) hj1) hs,onQ]
 cases hsq:subQ x (p (j-1)).1 with
 | none =>
  simp only[unO,yta1,Option.bind_some,Option.bind_none];rfl
 | some far =>
  have hf:=yjs hsq;simp only[unO,yve1 hf hs.rs,Option.bind_some,ydp1 far];cases hmq:mulQ (slopeQ (p (j-1)) (p (j-1+1))) far with
  | none=>rfl
  | some up =>
   simp only[unO,Option.bind_some,yrx (h.y (j-1) (by omega)).1 (yig1 hmq)];rfl
end
end Go.PV

/-
 Plain laws: values of lifts.
 Conditions: none.
-/
set_option linter.all false
namespace Go.PV
structure LiftT (n:Nat) (p:Nat->Pt):Prop where
 cur:Curve n p
 mono:∀ i,0<i->i<n->less (p i).2 (p (i-1)).2=false
 lstY:(p (n-1)).2=((p 0).2.1+(p 0).2.2,(p 0).2.2)
 by5:∀ i,i<n -> -5*(p i).2.2<=(p i).2.1/\(p i).2.1<=5*(p i).2.2
def flr (x:Rt):Int:=floorDiv x.1 x.2
def part (x:Rt):Rt:=(x.1-flr x*x.2,x.2)
structure PartOk (x:Rt):Prop where
 rat:isRat (part x)=true
 lo:0<=(part x).1
 hi:(part x).1<(part x).2
 spec:ybh1 x=some (flr x)
 impl:yln1 x=some (flr x)
 bd:flr x*x.2<=x.1/\x.1<flr x*x.2+x.2
section
variable {n:Nat} {p:Nat->Pt}
open Classical in
noncomputable def atQ (n:Nat) (p:Nat->Pt) (x:Rt):Option Rt:=if h:∃ j,AtJ n p x j then onQ (p (Classical.choose h-1)) (p (Classical.choose h-1+1)) x else none
theorem ylm1 {x:Rt} {j:Nat} (h:AtJ n p x j):atQ n p x=onQ (p (j-1)) (p (j-1+1)) x:=by
 have hx:∃ j,AtJ n p x j:=⟨j,h⟩
 unfold atQ
 rw[dif_pos hx,AtJ.uniq (Classical.choose_spec hx) h]
theorem yiw1 {q r:Pt} {x y:Rt} (h:onQ q r x=some y):isRat y=true:=by
 unfold onQ at h
 obtain⟨a,_,h⟩:=Option.bind_eq_some_iff.1 h
 obtain⟨b,_,h⟩:=Option.bind_eq_some_iff.1 h
 exact ywc1 h
theorem ynz {x y:Rt} (h:atQ n p x=some y):isRat y=true:=by
 unfold atQ at h
 split at h
 ·exact yiw1 h
 cases h
theorem yob1 (h:Curve n p) {x:Rt} (hx:isUnit x=true):yul (tab n p) x=some (unO (atQ n p x)):=by
 have hr:isRat x=true:=by simp only[isUnit,Bool.and_eq_true] at hx;exact hx.1
 obtain⟨j,hj⟩:=ygz1 h hx
 rw[yng1 h hr hj,ylm1 hj]
theorem yfi1 (h:Curve n p) {x:Rt} (hx:isUnit x=true) (bad:Bool):∃ v,yoc bad (tab n p) x=some v/\CR bad (atQ n p x) v:=by
 have hr:isRat x=true:=by simp only[isUnit,Bool.and_eq_true] at hx;exact hx.1
 obtain⟨j,hj⟩:=ygz1 h hx
 rw[ylm1 hj]
 exact yxe1 h hr hj bad
noncomputable def liftQ (n:Nat) (p:Nat->Pt) (x:Rt):Option Rt:=(atQ n p (part x)).bind fun y=>addQ y (flr x,1)
end
end Go.PV

/-
 Plain laws: what draws lifts always comes to an end.
 Conditions: none.
-/
set_option linter.all false
namespace Go.PV
def Gr (r:Rt):Prop:=isRat r=true/\0<=r.1/\r.1<=100/\1<=r.2/\r.2<=100
theorem yep1 {v a:Int} (h0:0<=v) (h1:v<=a) (a1:1<=a) (a2:a<=100):Tot (yob v a) fun r=>Gr r.1:=by
 obtain⟨r,h⟩:=ygp (n:=v) (d:=a) h0 (by omega) a1 (by omega)
 rw[ybg v a (by omega) (by omega) (by omega) (by omega) (by omega),h.eq]
 have:=h.num
 have:=h.den
 have h2:0<=r.1:=by
  by_cases hv:v=0
  ·rw[h.zer hv];omega
  have:=h.pos (by omega);omega
 exact Tot.ret ⟨h.rat,h2,by show r.1<=100;omega,by show 1<=r.2;omega,by show r.2<=100;omega⟩
theorem ytt {B:Nat} (hB:B<=100000000) {c:Cur} (hc:Ck B c) {a:Int} (a1:1<=a) (a2:a<=100):Tot (yhc c a) fun r=>Gr r.1/\Ck (B+2) r.2:=by
 unfold yhc
 rw[ytb (by omega) (by omega)]
 refine(yji hc (by omega) _).bind fun v1 ⟨⟨b1,b2⟩,h1⟩=>?_
 have:=b2 (by omega)
 exact(yep1 b1 (by omega) a1 a2).bind fun v2 h2=>Tot.ret ⟨h2,h1⟩
theorem ygi1 (a b:Rt):∃ r,yqb a b=some r:=by
 unfold yqb yel
 by_cases h1:w64 (w64 (a.1*b.2)-w64 (b.1*a.2))>0
 ·simp[h1]
 by_cases h2:w64 (w64 (a.1*b.2)-w64 (b.1*a.2))<0 <;> simp[h1,h2]
theorem ymm1 (xs:List Rt) (x:Rt) (hl:xs.length<=1048576):Tot (ytc xs x) fun r=>xs.length<=r.length/\r.length<=xs.length+1:=by
 unfold ytc
 refine Tot.bind (P:=fun y:Int=>0<=y/\y<=xs.length) ?_ fun y ⟨y0,y1⟩=>?_
 ·refine Tot.loop (fun x=>0<=x/\x<=(xs.length:Int)) (fun x=>((xs.length:Int)-x).toNat) (fun i ⟨i0,i1⟩=>?_) _ ⟨by decide,by omega⟩
  unfold yao;refine Tot.bind (P:=fun b=>b=true->i<(xs.length:Int)) ?_ fun b hb=>?_
  ·refine Tot.ite (fun hi=>?_) (fun _=>Tot.ret fun h=>by cases h)
   have hi':i<(xs.length:Int):=of_decide_eq_true hi
   refine Tot.idx i0 hi' fun v _=>?_
   obtain⟨r,hr⟩:=ygi1 v x;rw[hr,Option.bind_some];exact Tot.ret fun _=>hi'
  refine Tot.ite (fun h=>?_) (fun _=>Tot.inr ⟨i0,i1⟩)
  have:=hb h
  have hw:w64 (i+1)=i+1:=ytb (by omega) (by omega)
  rw[hw];exact Tot.inl ⟨⟨by omega,by omega⟩,by omega⟩
 unfold yzn
 refine Tot.bind (P:=fun _=>True) ?_ fun b _=>?_
 ·exact Tot.ite (fun hi=>Tot.idx y0 (of_decide_eq_true hi) fun v _=>Tot.ret trivial) (fun _=>Tot.ret trivial)
 refine Tot.ite (fun _=>Tot.ret ⟨Nat.le_refl _,by omega⟩) (fun _=>?_)
 refine Tot.guard ⟨y0,y1⟩ (Tot.guard (by simp;omega) (Tot.guard (by simp;omega) (Tot.guard (by simp;omega) (Tot.ret ⟨by simp;omega,by simp;omega⟩))))
def Gm (r:Rt):Prop := -1000<=r.1/\r.1<=1000/\1<=r.2/\r.2<=100
end Go.PV

/-
 Plain laws: what draws maps and counts of steps always comes to an end.
 Conditions: none.
-/
set_option linter.all false
namespace Go.PV
theorem yhp {n d:Int} (h1 : -1000<=n) (h2:n<=1000) (h3:1<=d) (h4:d<=1000):Tot (yob n d) fun _=>True:=by
 rw[ybg n d (by omega) (by omega) (by omega) (by omega) (by omega)]
 exact Tot.ret trivial
theorem yls (n:Int):Tot (ypb n) fun _=>True:=⟨_,rfl,trivial⟩
theorem yfp1 {B:Nat} (hB:B<=1000000) {c:Cur} (hc:Ck B c) {a:Int} (a1:1<=a) (a2:a<=100):Tot (yxh c a) fun r=>(2<=r.1.length/\r.1.length<=12)/\Ck (B+300) r.2:=by
 have k1:∀ (B':Nat) (x2:List Int×Int×Int×Int),B'+250<=B+300->x2.2.2.2<=10->0<=x2.2.2.2->Ck B' (cur4 x2)->Tot (ygd a x2) fun r=>(2<=r.1.length/\r.1.length<=12)/\Ck (B+300) r.2:=by
  intro B' x2 hB' h10 h0 hc
  unfold ygd ypb
  simp only[Option.bind_some];refine Tot.bind (P:=fun y:List Int×Int×Int×List Rt=>(2<=y.2.2.2.length/\y.2.2.2.length<=12)/\Ck (B'+120) (cur4 y)) ?_ fun y ⟨⟨y2,y12⟩,yc⟩=>?_
  ·refine Tot.loop (fun x=>(2<=x.2.2.2.1.length/\x.2.2.2.1.length<=12)/\(0<=x.2.2.2.2/\x.2.2.2.2<=60)/\Ck (B'+2*x.2.2.2.2.toNat) (cur4 x)) (fun x=>(60-x.2.2.2.2).toNat) (fun x ⟨⟨xl,xh⟩,⟨t0,t1⟩,xc⟩=>?_) _ ⟨⟨by simp,by simp⟩,⟨by simp,by simp⟩,by simpa [cur4] using hc⟩
   obtain⟨c1,c2,c3,l,tr⟩:=x;simp only[cur4] at xl xh t0 t1 xc ⊢;unfold yal;rw[ytb (n:=x2.2.2.2+2) (by omega) (by omega)];refine Tot.ite (fun hk=>?_) (fun hk=>Tot.inr ⟨⟨xl,xh⟩,xc.mono (by omega)⟩)
   simp only[Bool.and_eq_true,decide_eq_true_eq] at hk;refine(ytt (by omega) xc a1 a2).bind fun v36 ⟨_,h36⟩=>?_
   refine(ymm1 l v36.1 (by omega)).bind fun v37 ⟨m1,m2⟩=>Tot.inl ?_
   have hw:w64 (tr+1)=tr+1:=ytb (by omega) (by omega)
   simp only[hw];exact⟨⟨⟨by omega,by omega⟩,⟨by omega,by omega⟩,Ck.mono (c:=v36.2) h36 (by omega)⟩,by omega⟩
  unfold yoh;refine Tot.bind (P:=fun z:List Int×Int×Int×List Pt=>(2<=z.2.2.2.length/\z.2.2.2.length<=12)/\Ck (B'+145) (cur4 z)) ?_ fun z ⟨z1,zc⟩=>Tot.ret ⟨z1,zc.mono (by omega)⟩
  refine Tot.loop (fun x=>((x.2.2.2.1.length:Int)=x.2.2.2.2/\x.2.2.2.2<=(y.2.2.2.length:Int))/\Ck (B'+120+2*x.2.2.2.1.length) (cur4 x)) (fun x=>((y.2.2.2.length:Int)-x.2.2.2.2).toNat) (fun x ⟨⟨xl,xh⟩,xc⟩=>?_) _ ⟨⟨by simp,by simp⟩,Ck.mono (c:=cur4 y) yc (by simp)⟩
  obtain⟨c1,c2,c3,l,i⟩:=x;simp only[cur4] at xl xh xc ⊢;unfold yzk;refine Tot.ite (fun hi=>?_) (fun hi=>Tot.inr ?_)
  ·have hi':i<(y.2.2.2.length:Int):=of_decide_eq_true hi
   refine Tot.idx (by omega) hi' fun v10 _=>?_
   refine(ytt (by omega) xc a1 a2).bind fun v11 ⟨_,h11⟩=>?_
   have hw:w64 (i+1)=i+1:=ytb (by omega) (by omega)
   simp only[hw];exact Tot.guard (by simp;omega) (Tot.inl ⟨⟨⟨by simp;omega,by show i+1<=_;omega⟩,Ck.mono (c:=v11.2) h11 (by simp;omega)⟩,by show(_-(i+1)).toNat<(_-i).toNat;omega⟩)
  have hi':¬ i<(y.2.2.2.length:Int):=of_decide_eq_false hi
  exact⟨⟨by show 2<=l.length;omega,by show l.length<=12;omega⟩,Ck.mono (c:=(c1,c2,c3)) xc (by omega)⟩
 unfold yxh
 refine(ytj hc (by omega) _ (by simp)).bind fun v1 ⟨m1,h1⟩=>?_
 simp only[List.mem_cons,List.not_mem_nil,or_false] at m1
 refine(yew h1 (by omega) _).bind fun v38 h38=>?_
 exact Tot.ite (fun _=>k1 _ _ (by omega:B+2+2+250<=B+300) (by show(10:Int)<=10;omega) (by show(0:Int)<=10;omega) h38) (fun _=>k1 _ _ (by omega:B+2+2+250<=B+300) (by show v1.1<=10;omega) (by show 0<=v1.1;omega) h38)
theorem yqa2 {B:Nat} (hB:B<=100000) {c:Cur} (hc:Ck B c):Tot (ybo c) fun r=>(2<=r.1.length/\r.1.length<=12)/\Ck (B+320) r.2:=by
 unfold ybo
 refine(ytj hc (by omega) _ (by simp)).bind fun v1 ⟨m1,h1⟩=>?_
 simp only[List.mem_cons,List.not_mem_nil,or_false] at m1
 refine(yfp1 (by omega) h1 (by omega) (by omega)).bind fun v2 ⟨l2,h2⟩=>?_
 refine(yew h2 (by omega) _).bind fun v4 h4=>?_
 unfold yie
 refine Tot.ite (fun _=>?_) (fun _=>Tot.ret ⟨l2,Ck.mono (c:=v4.2) h4 (by omega)⟩)
 refine(ytj h4 (by omega) _ (by simp)).bind fun v6 ⟨m6,h6⟩=>?_
 simp only[List.mem_cons,List.not_mem_nil,or_false] at m6
 refine Tot.bind (P:=fun y:List Pt=>2<=y.length/\y.length<=12) ?_ fun y ⟨y2,y12⟩=>?_
 ·refine Tot.loop (fun x=>(x.1.length:Int)=x.2/\x.2<=v6.1+1) (fun x=>(v6.1+1-x.2).toNat) (fun x ⟨xl,xh⟩=>?_) _ ⟨by simp,by show(0:Int)<=_;omega⟩
  obtain⟨l,i⟩:=x;simp only at xl xh ⊢
  unfold ysp;refine Tot.ite (fun hi=>?_) (fun hi=>Tot.inr ?_)
  ·have hi':i<=v6.1:=of_decide_eq_true hi
   refine(yhp (by omega) (by omega) (by omega) (by omega)).bind fun v15 _=>?_
   refine(yls _).bind fun v16 _=>?_
   have hw:w64 (i+1)=i+1:=ytb (by omega) (by omega)
   simp only[hw];exact Tot.guard (by simp;omega) (Tot.inl ⟨⟨by simp;omega,by show i+1<=_;omega⟩,by show(_-(i+1)).toNat<(_-i).toNat;omega⟩)
  have hi':¬ i<=v6.1:=of_decide_eq_false hi
  exact⟨by show 2<=l.length;omega,by show l.length<=12;omega⟩
 unfold yam yie
 refine(yew h6 (by omega) _).bind fun v8 h8=>?_
 refine Tot.ite (fun _=>?_) (fun _=>Tot.ret ⟨⟨y2,y12⟩,Ck.mono (c:=v8.2) h8 (by omega)⟩)
 refine(ytt (by omega) h8 (by omega) (by omega)).bind fun v10 ⟨_,h10⟩=>?_
 exact Tot.idx (by omega) (by omega) fun v11 _=>Tot.ret ⟨by show 2<=(y.set _ _).length/\(y.set _ _).length<=12;rw[List.length_set];exact⟨y2,y12⟩,Ck.mono (c:=v10.2) h10 (by omega)⟩
theorem yog1 {B:Nat} (hB:B<=100000) {c:Cur} (hc:Ck B c):Tot (yje c) fun r=>r.1.length<=13/\Ck (B+350) r.2:=by
 unfold yje yxb
 refine(yqa2 hB hc).bind fun v1 ⟨⟨l2,l12⟩,h1⟩=>?_
 refine(yji h1 (by omega) _).bind fun v2 ⟨⟨p1,p2⟩,h2⟩=>?_
 refine Tot.idx p1 (p2 (by omega)) fun v3 _=>?_
 refine(yji h2 (by omega) _).bind fun v5 ⟨_,h5⟩=>?_
 refine Tot.ite (fun _=>?_) (fun _=>Tot.ite (fun _=>?_) (fun _=>Tot.ite (fun _=>?_) (fun _=>Tot.ite (fun _=>?_) (fun _=>Tot.ite (fun _=>?_) (fun _=>Tot.ret ⟨by show v1.1.length<=13;omega,Ck.mono (c:=v5.2) h5 (by omega)⟩)))))
 ·exact(yjw (by omega) h5).bind fun v7 h7=>Tot.ret ⟨by show(v1.1.set _ _).length<=13;rw[List.length_set];omega,Ck.mono (c:=v7.2) h7 (by omega)⟩
 ·exact(yjw (by omega) h5).bind fun v7 h7=>Tot.ret ⟨by show(v1.1.set _ _).length<=13;rw[List.length_set];omega,Ck.mono (c:=v7.2) h7 (by omega)⟩
 ·refine(yji h5 (by omega) _).bind fun v11 ⟨⟨q1,q2⟩,h11⟩=>?_
  have q3:=q2 (by omega)
  exact(yhp (by omega) (by omega) (by omega) (by omega)).bind fun v12 _=>Tot.ret ⟨by show(v1.1.set _ _).length<=13;rw[List.length_set];omega,Ck.mono (c:=v11.2) h11 (by omega)⟩
 ·rw[ytb (by omega) (by omega)]
  exact Tot.guard ⟨by omega,by omega⟩ (Tot.ret ⟨by show(v1.1.take _).length<=13;rw[List.length_take];omega,Ck.mono (c:=v5.2) h5 (by omega)⟩)
 refine Tot.bind (P:=fun y:List Int×Int×Int×List Pt=>y.2.2.2.length<=13/\cur4 y=v5.2) ?_ fun y ⟨hy,hyc⟩=>Tot.ret ⟨hy,?_⟩
 ·refine Tot.loop (fun x=>x.length<=13) (fun x=>13-x.length) (fun x hx=>?_) _ (by simp)
  unfold ycm;refine Tot.ite (fun hk=>?_) (fun hk=>Tot.inr ⟨hx,rfl⟩)
  have hk':(x.length:Int)<13:=of_decide_eq_true hk
  refine(yhp (by omega) (by omega) (by omega) (by omega)).bind fun v19 _=>?_
  refine(yls _).bind fun v20 _=>?_
  exact Tot.guard (by simp;omega) (Tot.inl ⟨by simp;omega,by simp;omega⟩)
 show Ck _ (cur4 y)
 rw[hyc];exact Ck.mono (c:=v5.2) h5 (by omega)
theorem ypg1 {B:Nat} (hB:B<=10000) {c:Cur} (hc:Ck B c):Tot (yke c) fun r=>r.1.length<=13/\Ck (B+400) r.2:=by
 have k2:∀ (B':Nat) (x6:List Int×Int×Int×List Pt),B'+10<=B+400->x6.2.2.2.length<=13->Ck B' (cur4 x6)->Tot (ymc x6) fun r=>r.1.length<=13/\Ck (B+400) r.2:=by
  intro B' x6 hB' hl hc
  unfold ymc;refine(yew hc (by omega) _).bind fun v7 h7=>?_
  refine Tot.ite (fun _=>?_) (fun _=>Tot.ret ⟨hl,Ck.mono (c:=v7.2) h7 (by omega)⟩)
  refine(yji h7 (by omega) _).bind fun v9 ⟨⟨q1,q2⟩,h9⟩=>?_
  have q3:=q2 (by omega)
  rw[ytb (n:=1+v9.1) (by omega) (by omega)];refine(yhp (by omega) (by omega) (by omega) (by omega)).bind fun v10 _=>?_
  refine(yji h9 (by omega) _).bind fun v11 ⟨⟨q4,q5⟩,h11⟩=>?_
  have q6:=q5 (by omega)
  rw[ytb (n:=3+v11.1) (by omega) (by omega)];refine(yhp (by omega) (by omega) (by omega) (by omega)).bind fun v12 _=>?_
  unfold ypb;simp only[Option.bind_some];exact Tot.ret ⟨by simp,Ck.mono (c:=v11.2) h11 (by omega)⟩
 unfold yke
 refine(yew hc (by omega) _).bind fun v1 h1=>?_
 refine Tot.ite (fun _=>?_) (fun _=>?_)
 ·exact(yog1 (by omega) h1).bind fun v3 ⟨a,b⟩=>Tot.ret ⟨a,b.mono (by omega)⟩
 refine(ytj h1 (by omega) _ (by simp)).bind fun v4 ⟨m4,h4⟩=>?_
 simp only[List.mem_cons,List.not_mem_nil,or_false] at m4
 refine Tot.bind (P:=fun y:List Int×Int×Int×List Pt=>y.2.2.2.length<=13/\Ck (B+2+2+50) (cur4 y)) ?_ fun y ⟨hy,hyc⟩=>?_
 ·refine Tot.loop (fun x=>((x.2.2.2.1.length:Int)=x.2.2.2.2/\x.2.2.2.2<=v4.1+1)/\Ck (B+2+2+5*x.2.2.2.1.length) (cur4 x)) (fun x=>(v4.1+1-x.2.2.2.2).toNat) (fun x ⟨⟨xl,xh⟩,xc⟩=>?_) _ ⟨⟨by simp,by show(0:Int)<=_;omega⟩,h4⟩
  obtain⟨c1,c2,c3,l,i⟩:=x;simp only[cur4] at xl xh xc ⊢;have hw:w64 (i+1)=i+1:=ytb (by omega) (by omega)
  have k3:∀ (v28:Rt×Bool) (x30:List Int×Int×Int×Int×Int),i<=v4.1->Ck (B+2+2+5*l.length+4) (x30.1,x30.2.1,x30.2.2.1)->Tot (yvb (c1,c2,c3,l,i) v28 x30) (Lp (fun x':List Int×Int×Int×List Pt×Int=>(((x'.2.2.2.1.length:Int)=x'.2.2.2.2/\x'.2.2.2.2<=v4.1+1)/\Ck (B+2+2+5*x'.2.2.2.1.length) (cur4 x'))/\(v4.1+1-x'.2.2.2.2).toNat<(v4.1+1-i).toNat) (fun y:List Int×Int×Int×List Pt=>y.2.2.2.length<=13/\Ck (B+2+2+50) (cur4 y))):=by
   intro v28 x30 hi hc;unfold yvb;simp only[hw];exact Tot.guard (by simp;omega) (Tot.inl ⟨⟨⟨by simp;omega,by show i+1<=v4.1+1;omega⟩,Ck.mono (c:=(x30.1,x30.2.1,x30.2.2.1)) hc (by simp;omega)⟩,by show(v4.1+1-(i+1)).toNat<_;omega⟩)
  unfold ygi;have ew:w64 ((l.length:Int)-1)=(l.length:Int)-1:=ytb (by omega) (by omega)
  simp only[ew];refine Tot.ite (fun hi=>?_) (fun hi=>Tot.inr ⟨?_,Ck.mono (c:=(c1,c2,c3)) xc (by omega)⟩)
  ·have hi':i<=v4.1:=of_decide_eq_true hi
   refine(yhp (by omega) (by omega) (by omega) (by omega)).bind fun v28 _=>?_
   refine(ytt (by omega) xc (by omega) (by omega)).bind fun v29 ⟨_,h29⟩=>?_
   refine Tot.bind (P:=fun w:List Int×Int×Int×Bool=>(w.2.2.2=true->0<l.length)/\Ck (B+2+2+5*l.length+4) (w.1,w.2.1,w.2.2.1)) ?_ fun w ⟨w1,w2⟩=>?_
   ·refine Tot.ite (fun hk=>?_) (fun _=>Tot.ret ⟨fun h=>(by cases h),Ck.mono (c:=v29.2) h29 (by omega)⟩)
    have hk':(l.length:Int)>0:=of_decide_eq_true hk
    refine Tot.idx (by omega) (by omega) fun v32 _=>?_
    refine Tot.ite (fun _=>?_) (fun _=>Tot.ret ⟨fun h=>(by cases h),Ck.mono (c:=v29.2) h29 (by omega)⟩)
    exact(yew h29 (by omega) _).bind fun v33 h33=>Tot.ret ⟨fun _=>(by omega),Ck.mono (c:=v33.2) h33 (by omega)⟩
   refine Tot.ite (fun hk=>?_) (fun _=>k3 _ _ hi' w2)
   have:=w1 hk
   unfold ykq;rw[Option.bind_some];refine Tot.idx (by omega) (by omega) fun v37 _=>?_
   refine Tot.ite (fun _=>?_) (fun _=>k3 _ _ hi' w2)
   exact(yls _).bind fun v39 _=>k3 _ _ hi' w2
  have hi':¬ i<=v4.1:=of_decide_eq_false hi
  show l.length<=13
  omega
 unfold yqe
 refine(yew hyc (by omega) _).bind fun v17 h17=>?_
 refine Tot.ite (fun _=>?_) (fun _=>k2 _ _ (by omega:B+2+2+50+2+10<=B+400) hy h17)
 refine Tot.bind (P:=fun z:List Int×Int×Int×List Pt=>z.2.2.2.length<=13/\cur4 z=v17.2) ?_ fun z ⟨hz,hzc⟩=>k2 (B+2+2+50+2) z (by omega) hz (by rw[hzc];exact h17)
 refine Tot.loop (fun x=>(x.1.length:Int)=x.2/\x.2<=12) (fun x=>(12-x.2).toNat) (fun x ⟨xl,xh⟩=>?_) _ ⟨by simp,by simp⟩
 obtain⟨l,i⟩:=x
 simp only at xl xh ⊢
 unfold yfi
 refine Tot.ite (fun hi=>?_) (fun hi=>Tot.inr ⟨by show l.length<=13;omega,rfl⟩)
 have hi':i<12:=of_decide_eq_true hi
 refine(yhp (by omega) (by omega) (by omega) (by omega)).bind fun v22 _=>?_
 refine(yls _).bind fun v23 _=>?_
 have hw:w64 (i+1)=i+1:=ytb (by omega) (by omega)
 simp only[hw]
 exact Tot.guard (by simp;omega) (Tot.inl ⟨⟨by simp;omega,by show i+1<=_;omega⟩,by show(_-(i+1)).toNat<(_-i).toNat;omega⟩)
end Go.PV

/-
 Plain laws: where a lift comes from.
 Conditions: none.
-/
set_option linter.all false
namespace Go.PV
theorem yjw1 {n d:Int} (hd:0<d) {r:Rt} (h:lowQ n d=some r):r.1*d=n*r.2/\1<=r.2:=by
 have hr:=yax h
 have h2:=(isRat_iff.1 hr).1
 have hdn:¬ d<0:=by omega
 unfold lowQ lowest at h
 simp only[if_neg hdn] at h
 by_cases h3:isRat (Int.tdiv n (Int.gcd n d:Int),Int.tdiv d (Int.gcd n d:Int))=true
 ·rw[if_pos h3] at h
  simp only[if_true] at h;obtain rfl:=Option.some.inj h
  have a:(Int.gcd n d:Int)∣n:=Int.gcd_dvd_left ..
  have b:(Int.gcd n d:Int)∣d:=Int.gcd_dvd_right ..
  refine⟨?_,h2⟩
  show Int.tdiv n (Int.gcd n d:Int)*d=n*Int.tdiv d (Int.gcd n d:Int)
  have e1:=Int.tdiv_mul_cancel a;have e2:=Int.tdiv_mul_cancel b;generalize Int.tdiv n (Int.gcd n d:Int)=u at *
  generalize Int.tdiv d (Int.gcd n d:Int)=v at *
  generalize (Int.gcd n d:Int)=g at *
  subst e1;rw[← e2];grind
 rw[if_neg h3] at h;simp at h
theorem yra2 {a b c:Rt} (ha:isRat a=true) (hb:isRat b=true) (hc:isRat c=true) (h1:less a b=true) (h2:less c b=false):less a c=true:=by
 have a2:=(isRat_iff.1 ha).1
 have b2:=(isRat_iff.1 hb).1
 have c2:=(isRat_iff.1 hc).1
 simp only[less,decide_eq_true_eq,decide_eq_false_iff_not] at *
 have m1:=Int.mul_le_mul_of_nonneg_right (show b.1*c.2<=c.1*b.2 by omega) (show 0<=a.2 by omega)
 have m2:=Int.mul_lt_mul_of_pos_right h1 (show 0<c.2 by omega)
 refine Classical.byContradiction fun h3=>?_
 have m3:=Int.mul_le_mul_of_nonneg_right (show c.1*a.2<=a.1*c.2 by omega) (show 0<=b.2 by omega)
 grind
theorem ysa2 {a b c:Rt} (ha:isRat a=true) (hb:isRat b=true) (hc:isRat c=true) (h1:less b a=false) (h2:less c b=false):less c a=false:=by
 cases h:less c a
 ·rfl
 have:=yra2 hc ha hb h h1
 rw[h2] at this;cases this
theorem yoq1 {a b:Rt} (ha:isRat a=true) (hb:isRat b=true) (h1:less a b=false) (h2:less b a=false):a=b:=by
 refine ydm1 ha hb ?_
 simp only[less,decide_eq_false_iff_not] at h1 h2
 omega
def turnK (y x:Rt):Int:=if less (part x) (part y)=true then flr x-flr y-1 else flr x-flr y
section
variable {n:Nat} {p:Nat->Pt}
def backQ (q r:Pt) (z:Rt):Option Rt:=(subQ z q.2).bind fun u=>(divQ u (slopeQ q r)).bind fun v=>addQ q.1 v
theorem yad1 (h:Curve n p) {i:Nat} (hi:i+1<n) {z:Rt} (hz:isRat z=true):yor (p i) (p (i+1)) z=some (unO (backQ (p i) (p (i+1)) z)):=by
 obtain⟨u,v,hs⟩:=h.piece hi
 unfold yor backQ
 rw[yhq hz (h.y i (by omega)).1,Option.bind_some]
 cases h1:subQ z (p i).2 with
 | none=>rfl
 | some a =>
  simp only[unO,Bool.not_true,Bool.false_eq_true,if_false,yck (h.x i (by omega)) (h.y i (by omega)) (h.x (i+1) hi) (h.y (i+1) hi) hs,Option.bind_some,ysx (yjs h1) hs.rs]
  cases h2:divQ a (slopeQ (p i) (p (i+1))) with
  | none=>rfl
  | some b =>
   simp only[unO,Bool.not_true,Bool.false_eq_true,if_false,Option.bind_some,yrx (ynf (h.x i (by omega))) (yxc1 h2)]
theorem yqg1 (h:Curve n p) {i:Nat} (hi:i+1<n) {z:Rt} (hz:isRat z=true) (bad:Bool):∃ v,yxl bad (p i) (p (i+1)) z=some v/\CR bad (backQ (p i) (p (i+1)) z) v:=by
 obtain⟨u,v,hs⟩:=h.piece hi
 have c1:CR bad (subQ z (p i).2) (cK bad (subQ z (p i).2)):=ypt1 fun _=>yjs
 have c2:=ypt1 (bad:=(cK bad (subQ z (p i).2)).2) (o:=divQ (cK bad (subQ z (p i).2)).1 (slopeQ (p i) (p (i+1)))) fun _=>yxc1
 have c3:=ypt1 (bad:=(cK (cK bad (subQ z (p i).2)).2 (divQ (cK bad (subQ z (p i).2)).1 (slopeQ (p i) (p (i+1))))).2) (o:=addQ (p i).1 (cK (cK bad (subQ z (p i).2)).2 (divQ (cK bad (subQ z (p i).2)).1 (slopeQ (p i) (p (i+1))))).1) fun _=>ywc1
 refine⟨_,?_,yei1 c1 (yei1 (g:=fun b=>addQ (p i).1 b) c2 c3)⟩
 unfold yxl
 rw[yfu bad hz (h.y i (by omega)).1,Option.bind_some,yst (h.x i (by omega)) (h.y i (by omega)) (h.x (i+1) hi) (h.y (i+1) hi) hs,Option.bind_some,ymb1 _ c1.1 hs.rs,Option.bind_some,ylb1 _ (ynf (h.x i (by omega))) c2.1]
 rfl
structure UpJ (n:Nat) (p:Nat->Pt) (z:Rt) (j:Nat):Prop where
 pos:0<j
 lt:j<n
 bef:∀ k,k<j->less (p k).2 z=true
 at':less (p j).2 z=false
structure FlatJ (n:Nat) (p:Nat->Pt) (j:Nat):Prop where
 pos:0<j
 lt:j<n
 same:∀ k,j<k->k<n->(p (k-1)).2=(p k).2
 step:(p (j-1)).2≠(p j).2
section
variable (h:Curve n p) {z:Rt} (hz:isRat z=true)
include h hz
end
end
end Go.PV

/-
 Plain laws: what fractions stand for.
 Conditions: none.
-/
set_option linter.all false
namespace Go.PV
def val (r:Rt):Rat:=(r.1:Rat) / (r.2:Rat)
theorem yxu {d:Int} (h:0<d):(0:Rat)<(d:Rat):=by exact_mod_cast h
theorem yvi {r:Rt} (h:0<r.2):val r*(r.2:Rat)=(r.1:Rat):=by
 have:=yxu h
 unfold val
 have h2:(r.2:Rat)≠0:=by intro h3;rw[h3] at this;exact absurd this (by decide)
 grind
theorem yrs1 {a b c d:Int} (hb:0<b) (hd:0<d) {x y:Rat} (hx:x*(b:Rat)=(a:Rat)) (hy:y*(d:Rat)=(c:Rat)):a*d<c*b↔x<y:=by
 have pb:=yxu hb
 have pd:=yxu hd
 have e:((a*d:Int):Rat)<((c*b:Int):Rat)↔a*d<c*b:=by exact_mod_cast Iff.rfl
 rw[← e,Rat.intCast_mul,Rat.intCast_mul,← hx,← hy]
 constructor
 ·intro h
  refine Classical.byContradiction fun hno=>?_
  have h1:y<=x:=by grind
  have h2:=Rat.mul_le_mul_of_nonneg_left h1 (Rat.le_of_lt (Rat.mul_pos pb pd))
  grind
 intro h
 have h2:=Rat.mul_lt_mul_of_pos_left h (Rat.mul_pos pb pd)
 grind
theorem yei {a b:Rt} (ha:0<a.2) (hb:0<b.2):less a b=true↔val a<val b:=by
 rw[← yrs1 ha hb (yvi ha) (yvi hb)]
 simp[less]
theorem yed {a b:Rt} (ha:0<a.2) (hb:0<b.2):less a b=false↔val b<=val a:=by
 have:=yei ha hb
 cases h:less a b
 ·rw[h] at this
  have:¬ val a<val b:=fun h1=>by have:=this.2 h1;cases this
  exact⟨fun _=>by grind,fun _=>rfl⟩
 rw[h] at this
 have:=this.1 rfl
 exact⟨fun h=>(by cases h),fun h=>(by grind)⟩
theorem yoz {n d:Int} (hd:0<d) {r:Rt} (h:lowQ n d=some r):val r*(d:Rat)=(n:Rat):=by
 obtain⟨e,hp⟩:=yjw1 hd h
 have h2:=yvi (r:=r) (by omega)
 have p2:=yxu (d:=r.2) (by omega)
 have pd:=yxu hd
 have e2:(r.1:Rat)*(d:Rat)=(n:Rat)*(r.2:Rat):=by exact_mod_cast e
 have h3:(r.2:Rat)≠0:=by intro h3;rw[h3] at p2;exact absurd p2 (by decide)
 rw[← h2] at e2
 grind
theorem ne0 {d:Int} (h:0<d):(d:Rat)≠0:=by
 have:=yxu h
 intro h3;rw[h3] at this;exact absurd this (by decide)
section
variable {a b r:Rt} (ha:isRat a=true) (hb:isRat b=true)
include ha hb
theorem ynm1 (h:addQ a b=some r):val r=val a+val b:=by
 have a2:=(isRat_iff.1 ha).1
 have b2:=(isRat_iff.1 hb).1
 have e:=yoz (ynb1 ha hb) h
 have e1:=yvi (r:=a) (by omega)
 have e2:=yvi (r:=b) (by omega)
 have n1:=ne0 (d:=a.2) (by omega)
 have n2:=ne0 (d:=b.2) (by omega)
 rw[Rat.intCast_add,Rat.intCast_mul,Rat.intCast_mul,Rat.intCast_mul,← e1,← e2] at e
 grind
theorem yyu (h:subQ a b=some r):val r=val a-val b:=by
 have a2:=(isRat_iff.1 ha).1
 have b2:=(isRat_iff.1 hb).1
 have e:=yoz (ynb1 ha hb) h
 have e1:=yvi (r:=a) (by omega)
 have e2:=yvi (r:=b) (by omega)
 have n1:=ne0 (d:=a.2) (by omega)
 have n2:=ne0 (d:=b.2) (by omega)
 rw[Rat.intCast_sub,Rat.intCast_mul,Rat.intCast_mul,Rat.intCast_mul,← e1,← e2] at e
 grind
theorem yss1 (h:mulQ a b=some r):val r=val a*val b:=by
 have a2:=(isRat_iff.1 ha).1
 have b2:=(isRat_iff.1 hb).1
 have e:=yoz (ynb1 ha hb) h
 have e1:=yvi (r:=a) (by omega)
 have e2:=yvi (r:=b) (by omega)
 have n1:=ne0 (d:=a.2) (by omega)
 have n2:=ne0 (d:=b.2) (by omega)
 rw[Rat.intCast_mul,Rat.intCast_mul,← e1,← e2] at e
 grind
theorem divQ_val (hp:0<b.1) (h:divQ a b=some r):val r*val b=val a:=by
 have a2:=(isRat_iff.1 ha).1
 have b2:=(isRat_iff.1 hb).1
 unfold divQ at h
 rw[if_neg (by omega)] at h
 have e:=yoz (Int.mul_pos (by omega) hp) h
 have e1:=yvi (r:=a) (by omega)
 have e2:=yvi (r:=b) (by omega)
 have n1:=ne0 (d:=a.2) (by omega)
 have n2:=ne0 (d:=b.2) (by omega)
 rw[Rat.intCast_mul,Rat.intCast_mul,← e1,← e2] at e
 grind
end
theorem ybx {r:Rt} (hr:isRat r=true):isUnit r=true↔(0:Rat)<=val r/\val r<=1:=by
 have r2:=(isRat_iff.1 hr).1
 have e:=yvi (r:=r) (by omega)
 have p:=yxu (d:=r.2) (by omega)
 simp only[isUnit,Bool.and_eq_true,inB_iff,hr,true_and]
 have h1:=yrs1 (a:=r.1) (b:=r.2) (c:=0) (d:=1) (x:=val r) (y:=0) (by omega) (by omega) e (by simp)
 have h2:=yrs1 (a:=1) (b:=1) (c:=r.1) (d:=r.2) (x:=1) (y:=val r) (by omega) (by omega) (by simp) e
 constructor
 ·intro ⟨h3,h4⟩
  constructor
  ·refine Classical.byContradiction fun hno=>?_
   have:=h1.2 (by grind)
   omega
  refine Classical.byContradiction fun hno=>?_
  have:=h2.2 (by grind)
  omega
 intro ⟨h3,h4⟩
 constructor
 ·refine Classical.byContradiction fun hno=>?_
  have:=h1.1 (by omega)
  grind
 refine Classical.byContradiction fun hno=>?_
 have:=h2.1 (by omega)
 grind
end Go.PV

/-
 Plain laws: the laps of a map.
 Conditions: none.
-/
set_option linter.all false
namespace Go.PV
abbrev Trip:=Nat×Nat×Int
def encT (t:Trip):List Int:=[(t.1:Int),(t.2.1:Int),t.2.2]
def lapStep (l:List Trip) (i:Nat) (s:Int):List Trip:=match l.getLast? with
 | some t=>if t.2.2=s then l.dropLast++[(t.1,i+1,s)] else l++[(i,i+1,s)]
 | none=>l++[(i,i+1,s)]
def lapsN (σ:Nat->Int):Nat->List Trip
 | 0=>[]
 | i+1=>lapStep (lapsN σ i) i (σ i)
theorem ycx (i:Nat) (s:Int):lapStep [] i s=[(i,i+1,s)]:=rfl
theorem ydx (l:List Trip) (t:Trip) (i:Nat) (s:Int):lapStep (l++[t]) i s=if t.2.2=s then l++[(t.1,i+1,s)] else l++[t]++[(i,i+1,s)]:=by
 unfold lapStep
 simp
theorem ypz {α:Type} (l:List α):l=[]\/∃ l' x,l=l'++[x]:=by
 rcases List.eq_nil_or_concat l with h | ⟨l',x,h⟩
 ·exact .inl h
 exact .inr ⟨l',x,by rw[h,List.concat_eq_append]⟩
structure LapInv (σ:Nat->Int) (i:Nat):Prop where
 len:(lapsN σ i).length<=i
 ne:0<i->lapsN σ i≠[]
 bd:∀ t∈lapsN σ i,t.1<t.2.1/\t.2.1<=i
theorem yye1 (σ:Nat->Int):∀ i,LapInv σ i
 | 0=>⟨by simp[lapsN],by omega,by simp[lapsN]⟩
 | i+1=>by
  have ih:=yye1 σ i;have hl:=ih.len;have hb:=ih.bd;rcases ypz (lapsN σ i) with h | ⟨l,t,h⟩
  ·have e:lapsN σ (i+1)=[(i,i+1,σ i)]:=by simp only[lapsN,h,ycx]
   exact⟨by rw[e];simp,fun _=>by rw[e];simp,by rw[e];simp⟩
  rw[h] at hl hb
  have e:lapsN σ (i+1)=if t.2.2=σ i then l++[(t.1,i+1,σ i)] else l++[t]++[(i,i+1,σ i)]:=by simp only[lapsN,h,ydx]
  have ht:=hb t (by simp)
  have hbl:∀ t'∈l,t'.1<t'.2.1/\t'.2.1<=i+1:=fun t' h'=>by have:=hb t' (by simp[h']);omega
  simp at hl
  by_cases hs:t.2.2=σ i
  ·rw[if_pos hs] at e
   refine⟨by rw[e];simp;omega,fun _=>by rw[e];simp,fun t' h'=>?_⟩
   rw[e] at h'
   rcases List.mem_append.1 h' with h' | h'
   ·exact hbl t' h'
   simp at h';subst h';exact⟨by show t.1<i+1;omega,Nat.le_refl _⟩
  rw[if_neg hs] at e;refine⟨by rw[e];simp;omega,fun _=>by rw[e];simp,fun t' h'=>?_⟩
  rw[e] at h'
  rcases List.mem_append.1 h' with h' | h'
  ·rcases List.mem_append.1 h' with h' | h'
   ·exact hbl t' h'
   simp at h';subst h';omega
  simp at h';subst h';exact⟨Nat.lt_succ_self i,Nat.le_refl _⟩
def sg (n:Int):Int:=if 0<n then 1 else if n<0 then -1 else 0
theorem ybd1 (n:Int):yel n=some (sg n):=by
 unfold yel sg
 by_cases h:0<n
 ·simp[h]
 by_cases h2:n<0 <;> simp[h,h2]
theorem yrg1 (s:Rt) (h:isRat s=true):ysy s=some (sg s.1):=by
 unfold ysy yjq sg
 rw[Option.bind_some,ypn s (0,1) (ylb h) ⟨by decide,by decide,by decide,by decide⟩,Option.bind_some]
 unfold cmp
 simp only[Int.mul_one,Int.zero_mul]
 by_cases h1:s.1<0
 ·have:¬ 0<s.1:=by omega
  simp[h1,this]
 by_cases h2:0<s.1 <;> simp[h1,h2]
section
variable {m:Nat} {r:Nat->Rt}
theorem yom1 (l:List Trip) (t:Trip):((l++[t]).map encT)[l.length]?=some (encT t):=by simp
theorem ypm1 (l:List Trip) (t:Trip) (x:List Int):((l++[t]).map encT).set l.length x=l.map encT++[x]:=by
 rw[List.map_append,List.set_append]
 simp
theorem ycd1 (hm:m<=1048576) (hr:∀ i,i<m->isRat (r i)=true) {i:Nat} (hi:i<m) :
  yrp (tab m r) ((lapsN (fun k=>sg (r k).1) i).map encT,(i:Int))=some (.inl ((lapsN (fun k=>sg (r k).1) (i+1)).map encT,((i+1:Nat):Int))):=by
 have hinv:=yye1 (fun k=>sg (r k).1) i
 have hl:=hinv.len
 simp only[yrp,yxa,yma hi,show((i:Int)<(m:Int)) from by omega,decide_true,if_true,Option.bind_some,yya (show i<9223372036854775807 by omega),yrg1 (r i) (hr i hi)]
 rcases ypz (lapsN (fun k=>sg (r k).1) i) with h | ⟨l,t,h⟩
 ·have e:lapsN (fun k=>sg (r k).1) (i+1)=[(i,i+1,sg (r i).1)]:=by simp only[lapsN,h,ycx]
  rw[h,e];have hw:w64 ((0:Int)-1) = -1:=by rw[ytb (by omega) (by omega)];rfl
  simp only[List.map_nil,List.length_nil,Int.natCast_zero,hw,show ¬ ((-1:Int)>=0) by omega,decide_false,Bool.false_eq_true,if_false,Option.bind_some];rw[yea (by simp)];rfl
 have e:lapsN (fun k=>sg (r k).1) (i+1)=if t.2.2=sg (r i).1 then l++[(t.1,i+1,sg (r i).1)] else l++[t]++[(i,i+1,sg (r i).1)]:=by simp only[lapsN,h,ydx]
 rw[h] at hl
 simp at hl
 rw[h]
 have hw:w64 ((((l++[t]).map encT).length:Int)-1)=((l.length:Nat):Int):=by
  rw[List.length_map,List.length_append,List.length_singleton,ytb (by omega) (by omega)];omega
 simp only[hw,show(((l.length:Nat):Int)>=0) by omega,decide_true,if_true,ylt,yom1,Option.bind_some,Int.toNat_natCast,ypm1]
 have e2:idxO (encT t) 2=some t.2.2:=rfl
 have e1:idxO (encT t) 1=some ((t.2.1:Nat):Int):=rfl
 rw[e2,e1,e]
 simp only[Option.bind_some]
 by_cases hs:t.2.2=sg (r i).1
 ·have hb:(t.2.2==sg (r i).1)=true:=by simpa using hs
  rw[hb,if_pos rfl,if_pos hs];simp only[encT,List.map_append,List.map_cons,List.map_nil,hs];rfl
 have hb:(t.2.2==sg (r i).1)=false:=by simpa using hs
 rw[hb,if_neg hs]
 simp only[Bool.false_eq_true,if_false]
 rw[yea (by simp;omega)]
 simp only[encT,List.map_append,List.map_cons,List.map_nil]
theorem ydd1 (hm:m<=1048576) {i:Nat} (hi:i<m) :
  ymj (tab m r) ((lapsN (fun k=>sg (r k).1) i).map encT,(i:Int))=some (.inl ((lapsN (fun k=>sg (r k).1) (i+1)).map encT,((i+1:Nat):Int))):=by
 have hinv:=yye1 (fun k=>sg (r k).1) i
 have hl:=hinv.len
 simp only[ymj,yxa,yma hi,show((i:Int)<(m:Int)) from by omega,decide_true,if_true,Option.bind_some,yya (show i<9223372036854775807 by omega),ybd1]
 rcases ypz (lapsN (fun k=>sg (r k).1) i) with h | ⟨l,t,h⟩
 ·have e:lapsN (fun k=>sg (r k).1) (i+1)=[(i,i+1,sg (r i).1)]:=by simp only[lapsN,h,ycx]
  rw[h,e];simp only[List.map_nil,List.length_nil,Int.natCast_zero,show ¬ ((0:Int)>0) by omega,decide_false,Bool.false_eq_true,if_false,Option.bind_some];rw[yea (by simp)];rfl
 have e:lapsN (fun k=>sg (r k).1) (i+1)=if t.2.2=sg (r i).1 then l++[(t.1,i+1,sg (r i).1)] else l++[t]++[(i,i+1,sg (r i).1)]:=by simp only[lapsN,h,ydx]
 rw[h] at hl
 simp at hl
 rw[h]
 have hw:w64 ((((l++[t]).map encT).length:Int)-1)=((l.length:Nat):Int):=by
  rw[List.length_map,List.length_append,List.length_singleton,ytb (by omega) (by omega)];omega
 have hp:((((l++[t]).map encT).length:Int)>0):=by
  rw[List.length_map,List.length_append,List.length_singleton];omega
 simp only[hw,hp,decide_true,if_true,ylt,yom1,Option.bind_some,Int.toNat_natCast,ypm1]
 have e2:idxO (encT t) 2=some t.2.2:=rfl
 have e1:idxO (encT t) 1=some ((t.2.1:Nat):Int):=rfl
 rw[e2,e1,e]
 simp only[Option.bind_some]
 by_cases hs:t.2.2=sg (r i).1
 ·have hb:(t.2.2==sg (r i).1)=true:=by simpa using hs
  rw[hb,if_pos rfl,if_pos hs];simp only[encT,List.map_append,List.map_cons,List.map_nil,hs];rfl
 have hb:(t.2.2==sg (r i).1)=false:=by simpa using hs
 rw[hb,if_neg hs]
 simp only[Bool.false_eq_true,if_false]
 rw[yea (by simp;omega)]
 simp only[encT,List.map_append,List.map_cons,List.map_nil]
end
section
variable {n:Nat} {p:Nat->Pt}
def wayOf (p:Nat->Pt):Nat->Int:=fun i=>sg (slopeQ (p i) (p (i+1))).1
def lapsT (n:Nat) (p:Nat->Pt):List Trip:=lapsN (wayOf p) (n-1)
theorem yze1 (h:isMapT n p) (h2:2<=n) (hn:n<=12):ynd1 (tab n p)=some ((lapsT n p).map encT):=by
 have hx:=yrc (body:=yrp (slopesT n p)) (n-1) (fun i=>((lapsN (wayOf p) i).map encT,(i:Int))) ((lapsT n p).map encT) (fun i hi =>
  ycd1 (m:=n-1) (r:=fun i=>slopeQ (p i) (p (i+1))) (by omega) (fun i hi=>by obtain⟨u,v,hs⟩:=ylg1 h (i:=i) (by omega);exact hs.rs) hi) (by
  simp[yrp,slopesT,yxa,lapsT])
 unfold ynd1
 rw[yqa1 h h2 hn,Option.bind_some,show(0:Int)=((0:Nat):Int) from rfl]
 simp only[lapsN,List.map_nil] at hx
 rw[hx];rfl
theorem yua1 (h:isMapT n p) (h2:2<=n) (hn:n<=12):ypr (tab n p)=some ((lapsT n p).map encT):=by
 have hx:=yrc (body:=ymj (slopesT n p)) (n-1) (fun i=>((lapsN (wayOf p) i).map encT,(i:Int))) ((lapsT n p).map encT) (fun i hi =>
  ydd1 (m:=n-1) (r:=fun i=>slopeQ (p i) (p (i+1))) (by omega) hi) (by
  simp[ymj,slopesT,yxa,lapsT])
 unfold ypr
 rw[yey h h2 hn,Option.bind_some,show(0:Int)=((0:Nat):Int) from rfl]
 simp only[lapsN,List.map_nil] at hx
 rw[hx];rfl
theorem ygp1 (h2:2<=n):1<=(lapsT n p).length/\(lapsT n p).length<=n-1:=by
 have h:=yye1 (wayOf p) (n-1)
 have h1:=h.len
 have h3:=h.ne (by omega)
 unfold lapsT
 have:=List.length_pos_iff.2 h3
 omega
end
def lbN (c:Int):Nat->Int->Int×Bool
 | 0,o=>(o,true)
 | k+1,o=>if o*c>1000000000 then(0,false) else lbN c k (o*c)
def fullB (a b:Rt):Bool:=(a==(0,1)&&b==(1,1))||(a==(1,1)&&b==(0,1))
section
variable {n:Nat} {p:Nat->Pt}
def fullN (p:Nat->Pt) (l:List Trip):Nat:=(l.filter fun t=>fullB (p t.1).2 (p t.2.1).2).length
end
end Go.PV

/-
 Plain laws: values of the turning point.
 Conditions: none.
-/
set_option linter.all false
namespace Go.PV
section
variable {n:Nat} {p:Nat->Pt}
theorem ylr {r:Rt} (h:coord r=true):(0:Rat)<=val r/\val r<=1:=by
 have hr:=ynf h
 have c:=ymz h
 refine(ybx hr).1 ?_
 simp only[isUnit,Bool.and_eq_true,inB_iff]
 exact⟨hr,c.1,c.2.1⟩
theorem yts1 (h:Curve n p) (hy:∀ i,i<n->coord (p i).2=true) {x y:Rt} (hx:isUnit x=true) (ha:atQ n p x=some y):isUnit y=true:=by
 have hr:isRat x=true:=by simp only[isUnit,Bool.and_eq_true] at hx;exact hx.1
 have hyr:=ynz ha
 obtain⟨j,hj⟩:=ygz1 h hx
 rw[ylm1 hj] at ha
 have hlt:=hj.lt
 have hn:=h.lo
 have hj1:j-1+1<n:=by omega
 obtain⟨u,v,hs⟩:=h.piece hj1
 unfold onQ at ha
 obtain⟨far,e1,ha⟩:=Option.bind_eq_some_iff.1 ha
 obtain⟨up,e2,ha⟩:=Option.bind_eq_some_iff.1 ha
 have rx0:=ynf (h.x (j-1) (by omega))
 have rx1:=ynf (h.x (j-1+1) hj1)
 have ry0:=(h.y (j-1) (by omega)).1
 have ry1:=(h.y (j-1+1) hj1).1
 have d2:∀ {z:Rt},isRat z=true->0<z.2:=fun hz=>by have:=(isRat_iff.1 hz).1;omega
 have q1:=yyu hr rx0 e1
 have q2:=yss1 hs.rs (yjs e1) e2
 have q3:=ynm1 ry0 (yig1 e2) ha
 have q4:=yyu ry1 ry0 hs.up
 have q5:=yyu rx1 rx0 hs.far
 have q6:=divQ_val hs.ru hs.rv hs.vp hs.div
 have b0:=ylr (hy (j-1) (by omega))
 have b1:=ylr (hy (j-1+1) hj1)
 have hup:=(yei (d2 rx0) (d2 rx1)).1 (by have:=h.up (j-1+1) (by omega) hj1;simpa using this)
 have hux:=(ybx hr).1 hx
 have hlo:val (p (j-1)).1<=val x:=by
  by_cases h0:j=0
  ·subst h0
   rw[show 0-1=0 from rfl,h.fst];have:val (0,1)=0:=by have:=yvi (r:=((0:Int),(1:Int))) (by decide);simpa using this
   rw[this];exact hux.1
  have:=(yei (d2 rx0) (d2 hr)).1 (hj.bef (j-1) (by omega))
  exact Rat.le_of_lt this
 have hhi:val x<=val (p (j-1+1)).1:=by
  by_cases h0:j=0
  ·subst h0
   have:=(yed (d2 rx0) (d2 hr)).1 hj.at'
   rw[show 0-1=0 from rfl] at hup;grind
  rw[show j-1+1=j by omega] at rx1 ⊢
  exact(yed (d2 rx1) (d2 hr)).1 hj.at'
 refine(ybx hyr).2 ?_
 rw[q4,q5] at q6
 rw[q3,q2,q1]
 generalize val (slopeQ (p (j-1)) (p (j-1+1)))=s at *
 generalize val (p (j-1)).1=x0 at *
 generalize val (p (j-1+1)).1=x1 at *
 generalize val (p (j-1)).2=y0 at *
 generalize val (p (j-1+1)).2=y1 at *
 generalize val x=z at *
 rcases Rat.le_total (a:=0) (b:=s) with h1 | h1
 ·have m1:=Rat.mul_le_mul_of_nonneg_left (show z-x0<=x1-x0 by grind) h1
  have m2:=Rat.mul_nonneg h1 (show 0<=z-x0 by grind)
  grind
 have m1:=Rat.mul_le_mul_of_nonneg_left (show z-x0<=x1-x0 by grind) (show 0 <= -s by grind)
 have m2:=Rat.mul_nonneg (show 0 <= -s by grind) (show 0<=z-x0 by grind)
 grind
noncomputable def vQ (n:Nat) (p:Nat->Pt) (c:Rt):Nat->Option Rt
 | 0=>some c
 | k+1=>(vQ n p c k).bind (atQ n p)
noncomputable def vv (n:Nat) (p:Nat->Pt) (c:Rt) (k:Nat):Rt:=(vQ n p c k).getD (0,0)
variable {c:Rt}
structure Stop (n:Nat) (p:Nat->Pt) (c:Rt) (m L:Nat):Prop where
 le:L<=m
 some:vQ n p c L=some (vv n p c L)
 stop:L=m\/vQ n p c (L+1)=none
end
section
variable {n:Nat} {p:Nat->Pt} {t0 t1:Trip}
end
end Go.PV

set_option linter.all false
namespace Go.PV
def flatP (xs:List Pt) (n:Nat):Prop:=∃ i a b,0<i/\i<n/\xs[i-1]?=some a/\xs[i]?=some b/\a.2=b.2
end Go.PV

/-
 Plain laws: plateaus.
 Conditions: none.
-/
set_option linter.all false
namespace Go.PV
def markV (n:Nat) (k:Int):List Pt:=marks 4 (fun c=>((c,c+1),(c+1+1,c+1+1+1))) n k
end Go.PV

/-
 Plain laws: orbits of lifts.
 Conditions: none.
-/
set_option linter.all false
namespace Go.PV
section
variable {n:Nat} {p:Nat->Pt} {x:Rt}
noncomputable def orbQ (n:Nat) (p:Nat->Pt) (x:Rt):Nat->Option Rt
 | 0=>some x
 | k+1=>(orbQ n p x k).bind fun y=>if near y=true then liftQ n p y else none
noncomputable def orb (n:Nat) (p:Nat->Pt) (x:Rt) (k:Nat):Rt:=(orbQ n p x k).getD (0,0)
open Classical in
noncomputable def runR (n:Nat) (p:Nat->Pt) (x:Rt) (m:Nat):List Rt×Bool:=if(orbQ n p x m).isSome=true then(tab (m+1) (orb n p x),true) else([],false)
end
def turnB (r:Rt):Bool:=near r&&decide (r.2<=6)
end Go.PV

/-
 Plain laws: orbits of lifts,handed back.
 Conditions: none.
-/
set_option linter.all false
namespace Go.PV
end Go.PV

/-
 Plain laws: how far a lift's points are moved.
 Conditions: none.
-/
set_option linter.all false
namespace Go.PV
def dispF (p:Nat->Pt) (i:Nat):Rt:=(subQ (p i).2 (p i).1).getD (0,0)
section
variable {n:Nat} {p:Nat->Pt}
end
end Go.PV

/-
 Plain laws: values of lifts keep their order.
 Conditions: none.
-/
set_option linter.all false
namespace Go.PV
theorem yhp1 {a b:Rt} (ga:Int.gcd a.1 a.2=1) (gb:Int.gcd b.1 b.2=1) (pa:0<a.2) (pb:0<b.2) (h:a.1*b.2=b.1*a.2):a=b:=by
 obtain⟨p,q⟩:=a
 obtain⟨r,s⟩:=b
 simp only at *
 have hn:p.natAbs*s.natAbs=r.natAbs*q.natAbs:=by rw[← Int.natAbs_mul,← Int.natAbs_mul,h]
 have c1:Nat.Coprime p.natAbs q.natAbs:=ga
 have c2:Nat.Coprime r.natAbs s.natAbs:=gb
 have d1:s.natAbs∣q.natAbs:=by
  have:s.natAbs∣r.natAbs*q.natAbs:=⟨p.natAbs,by rw[← hn];exact Nat.mul_comm _ _⟩
  exact c2.symm.dvd_of_dvd_mul_left this
 have d2:q.natAbs∣s.natAbs:=by
  have:q.natAbs∣p.natAbs*s.natAbs:=⟨r.natAbs,by rw[hn];exact Nat.mul_comm _ _⟩
  exact c1.symm.dvd_of_dvd_mul_left this
 have hqs:q.natAbs=s.natAbs:=Nat.dvd_antisymm d2 d1
 have hq:q=s:=by omega
 subst hq
 have:p=r:=Int.eq_of_mul_eq_mul_right (by omega) h
 rw[this]
theorem ykw1 {n d:Int} (hd:0<d) {r:Rt} (hr:isRat r=true) (h:n*r.2=r.1*d):lowQ n d=some r:=by
 obtain⟨r1,r2,r3,r4,r5⟩:=isRat_iff.1 hr
 have hdn:¬ d<0:=by omega
 have hg:0<Int.gcd n d:=Int.gcd_pos_of_ne_zero_right _ (by omega)
 have a:(Int.gcd n d:Int)∣n:=Int.gcd_dvd_left ..
 have b:(Int.gcd n d:Int)∣d:=Int.gcd_dvd_right ..
 have e1:=Int.tdiv_mul_cancel a
 have e2:=Int.tdiv_mul_cancel b
 have key:(Int.tdiv n (Int.gcd n d:Int),Int.tdiv d (Int.gcd n d:Int))=r:=by
  refine yhp1 ?_ r5 ?_ (by omega) ?_
  ·show Int.gcd (Int.tdiv n (Int.gcd n d:Int)) (Int.tdiv d (Int.gcd n d:Int))=1
   obtain⟨u,hu⟩:=a;obtain⟨v,hv⟩:=b;have eu:Int.tdiv n (Int.gcd n d:Int)=n / (Int.gcd n d:Int):=Int.tdiv_eq_ediv_of_dvd (Int.gcd_dvd_left ..)
   have ev:Int.tdiv d (Int.gcd n d:Int)=d / (Int.gcd n d:Int):=Int.tdiv_eq_ediv_of_dvd (Int.gcd_dvd_right ..)
   rw[eu,ev];exact Int.gcd_ediv_gcd_ediv_gcd hg
  ·show 0<Int.tdiv d (Int.gcd n d:Int)
   refine Classical.byContradiction fun hno=>?_
   have h1:Int.tdiv d (Int.gcd n d:Int)<=0:=by omega
   have:=Int.mul_le_mul_of_nonneg_right h1 (show(0:Int)<=(Int.gcd n d:Int) by omega)
   omega
  show Int.tdiv n (Int.gcd n d:Int)*r.2=r.1*Int.tdiv d (Int.gcd n d:Int)
  refine Int.eq_of_mul_eq_mul_right (a:=(Int.gcd n d:Int)) (by omega) ?_
  have h3:Int.tdiv n (Int.gcd n d:Int)*r.2*(Int.gcd n d:Int)=(Int.tdiv n (Int.gcd n d:Int)*(Int.gcd n d:Int))*r.2:=by grind
  have h4:r.1*Int.tdiv d (Int.gcd n d:Int)*(Int.gcd n d:Int)=r.1*(Int.tdiv d (Int.gcd n d:Int)*(Int.gcd n d:Int)):=by grind
  rw[h3,h4,e1,e2,h]
 unfold lowQ lowest
 simp only[if_neg hdn]
 rw[key,if_pos hr]
 rfl
theorem yex {n d:Int} (hd:0<d) {r:Rt} (hr:isRat r=true) (h:val r*(d:Rat)=(n:Rat)):lowQ n d=some r:=by
 refine ykw1 hd hr ?_
 have e:=yvi (r:=r) (by have:=(isRat_iff.1 hr).1;omega)
 have:((n*r.2:Int):Rat)=((r.1*d:Int):Rat):=by
  rw[Rat.intCast_mul,Rat.intCast_mul,← h,← e];grind
 exact_mod_cast this
theorem ylw1 {a b r:Rt} (ha:isRat a=true) (hb:isRat b=true) (hr:isRat r=true) (h:val r=val a+val b):addQ a b=some r:=by
 have a2:=(isRat_iff.1 ha).1
 have b2:=(isRat_iff.1 hb).1
 have e1:=yvi (r:=a) (by omega)
 have e2:=yvi (r:=b) (by omega)
 refine yex (ynb1 ha hb) hr ?_
 rw[Rat.intCast_add,Rat.intCast_mul,Rat.intCast_mul,Rat.intCast_mul,← e1,← e2,h]
 grind
section
variable {n:Nat} {p:Nat->Pt}
theorem yad {r:Rt} (h:isRat r=true):0<r.2:=by have:=(isRat_iff.1 h).1;omega
theorem Curve.xr (h:Curve n p) {i:Nat} (hi:i<n):isRat (p i).1=true:=ynf (h.x i hi)
theorem Curve.yr (h:Curve n p) {i:Nat} (hi:i<n):isRat (p i).2=true:=(h.y i hi).1
theorem Curve.xlt (h:Curve n p):∀ {i j:Nat},i<j->j<n->val (p i).1<val (p j).1:=by
 intro i j hij hj
 obtain⟨k,rfl⟩:∃ k,j=i+1+k:=⟨j-(i+1),by omega⟩
 induction k with
 | zero =>
  have:=h.up (i+1) (by omega) hj
  rw[show i+1-1=i by omega] at this;exact(yei (yad (h.xr (by omega))) (yad (h.xr hj))).1 this
 | succ k ih =>
  have h1:=ih (by omega) (by omega)
  have:=h.up (i+1+(k+1)) (by omega) hj
  rw[show i+1+(k+1)-1=i+1+k by omega] at this;have h2:=(yei (yad (h.xr (by omega))) (yad (h.xr hj))).1 this
  grind
structure OnP (p:Nat->Pt) (m:Nat) (x y:Rt):Prop where
 lo:val (p m).1<=val x
 hi:val x<=val (p (m+1)).1
 eq:(val y-val (p m).2)*(val (p (m+1)).1-val (p m).1)=(val (p (m+1)).2-val (p m).2)*(val x-val (p m).1)
end
end Go.PV

/-
 Plain laws: kneading words.
 Conditions: none.
-/
set_option linter.all false
namespace Go.PV
theorem yhi1 (a b:Rt):cmp a b = -1\/cmp a b=0\/cmp a b=1:=by
 unfold cmp
 split
 ·simp
 split <;> simp
abbrev lcr:ByteArray:=ByteArray.mk #[76,67,82]
def letter (c z:Rt):Int:=76+(if cmp z c=0 then -9 else if cmp z c=1 then 6 else 0)
def wordB (c:Rt) (l:List Rt):ByteArray:=bytesB (l.map (letter c))
end Go.PV

/-
 Plain laws: lists of fractions in strictly increasing order.
 Conditions: none.
-/
set_option linter.all false
namespace Go.PV
theorem yii1 {a b:Rt} (ha:0<a.2) (hb:0<b.2):(cmp a b = -1/\val a<val b)\/(cmp a b=1/\val b<val a)\/(cmp a b=0/\val a=val b):=by
 have h1:=yei ha hb
 have h2:=yei hb ha
 unfold less at h1 h2
 simp only[decide_eq_true_eq] at h1 h2
 unfold cmp
 by_cases a1:a.1*b.2<b.1*a.2
 ·rw[if_pos a1];exact .inl ⟨rfl,h1.1 a1⟩
 rw[if_neg a1]
 by_cases a2:a.1*b.2>b.1*a.2
 ·rw[if_pos a2];exact .inr (.inl ⟨rfl,h2.1 a2⟩)
 rw[if_neg a2]
 refine .inr (.inr ⟨rfl,?_⟩)
 have b1:¬ val a<val b:=fun h=>a1 (h1.2 h)
 have b2:¬ val b<val a:=fun h=>a2 (h2.2 h)
 grind
def Rats (l:List Rt):Prop:=∀ x∈l,isRat x=true
def Srt (l:List Rt):Prop:=l.Pairwise fun a b=>less a b=true
theorem yia2 {a b c:Rt} (ha:isRat a=true) (hb:isRat b=true) (hc:isRat c=true) (h1:less a b=true) (h2:less b c=true):less a c=true:=by
 have a1:=(yei (yad ha) (yad hb)).1 h1
 have a2:=(yei (yad hb) (yad hc)).1 h2
 exact(yei (yad ha) (yad hc)).2 (by grind)
theorem ysg1 {a:Rt}:less a a=false:=by simp[less]
theorem yji1 {a b:Rt} (ha:isRat a=true) (hb:isRat b=true) (h1:less a b=true):less b a=false:=by
 have a1:=(yei (yad ha) (yad hb)).1 h1
 exact(yed (yad hb) (yad ha)).2 (by grind)
theorem yki1:∀ {l k:List Rt},Srt l->Srt k->Rats l->Rats k->(∀ x,x∈l↔x∈k)->l=k
 | [],[],_,_,_,_,_=>rfl
 | [],b::k,_,_,_,_,h=>by have:=(h b).2 (by simp);simp at this
 | a::l,[],_,_,_,_,h=>by have:=(h a).1 (by simp);simp at this
 | a::l,b::k,h1,h2,r1,r2,h=>by
  have p1:=List.pairwise_cons.1 h1;have p2:=List.pairwise_cons.1 h2;have ra:=r1 a (by simp)
  have rb:=r2 b (by simp)
  have e:a=b:=by
   have hb:=(h b).2 (by simp)
   have ha:=(h a).1 (by simp)
   rcases List.mem_cons.1 hb with e | hb
   ·exact e.symm
   rcases List.mem_cons.1 ha with e | ha
   ·exact e
   have x1:=p1.1 b hb;have x2:=p2.1 a ha;rw[yji1 ra rb x1] at x2;cases x2
  subst e;have:l=k:=yki1 p1.2 p2.2 (fun x hx=>r1 x (by simp[hx])) (fun x hx=>r2 x (by simp[hx])) fun x=>by
   have:=h x
   simp only[List.mem_cons] at this;constructor
   ·intro hx
    rcases this.1 (.inr hx) with e | hk
    ·subst e;have:=p1.1 _ hx;rw[ysg1] at this;cases this
    exact hk
   intro hx;rcases this.2 (.inr hx) with e | hk
   ·subst e;have:=p2.1 _ hx;rw[ysg1] at this;cases this
   exact hk
  rw[this]
theorem Srt.get {l:List Rt} (h:Srt l) {i j:Nat} (hij:i<j) (hj:j<l.length):less (l[i]'(by omega)) (l[j]'hj)=true:=List.pairwise_iff_getElem.1 h i j (by omega) hj hij
theorem yus1 {l:List Rt} {x:Rt} (hl:Rats l) (hx:isRat x=true) (hn:l.length<=1048576):Tot (loopO (yao l x) 0) fun y=>∃ k:Nat,y=(k:Int)/\k<=l.length/\(∀ j (h:j<l.length),j<k->less l[j] x=true)/\∀ h:k<l.length,less l[k] x=false:=by
 refine Tot.loop (fun y=>∃ k:Nat,y=(k:Int)/\k<=l.length/\(∀ j (h:j<l.length),j<k->less l[j] x=true)) (fun y=>l.length-y.toNat) (fun y ⟨k,hy,hk,ha⟩=>?_) 0 ⟨0,rfl,by omega,fun j _ h=>by omega⟩
 subst hy
 unfold yao
 by_cases hlt:k<l.length
 ·simp only[show((k:Int)<(l.length:Int)) from by omega,decide_true,if_true,ybk hlt,Option.bind_some,ymb _ _ (ylb (hl _ (List.getElem_mem hlt))) (ylb hx),yem1]
  cases hc:less l[k] x with
  | true =>
   simp only[if_true];refine Tot.inl ⟨⟨k+1,yya (by omega),by omega,fun j hj hjk=>?_⟩,?_⟩
   ·rcases Nat.lt_or_ge j k with h | h
    ·exact ha j hj h
    have:j=k:=by omega
    subst this;exact hc
   rw[yya (show k<9223372036854775807 by omega)];show l.length-((k+1:Nat):Int).toNat<l.length-(k:Int).toNat;omega
  | false =>
   simp only[Bool.false_eq_true,if_false];exact Tot.inr ⟨k,rfl,hk,ha,fun _=>hc⟩
 simp only[show ¬ ((k:Int)<(l.length:Int)) from by omega,decide_false,Bool.false_eq_true,if_false,Option.bind_some]
 exact Tot.inr ⟨k,rfl,hk,ha,fun h=>absurd h hlt⟩
structure PutOk (l:List Rt) (x:Rt) (r:List Rt):Prop where
 srt:Srt r
 mem:∀ y,y∈r↔y=x\/y∈l
 len:r.length<=l.length+1
 new:x∉l->r.length=l.length+1
theorem PutOk.rats {l r:List Rt} {x:Rt} (h:PutOk l x r) (hl:Rats l) (hx:isRat x=true):Rats r:=fun y hy=>by
 rcases(h.mem y).1 hy with rfl | hy
 ·exact hx
 exact hl y hy
theorem yqz {l:List Rt} {x:Rt} (hs:Srt l) (hl:Rats l) (hx:isRat x=true) (hn:l.length<=1048576):Tot (ytc l x) (PutOk l x):=by
 unfold ytc
 refine(yus1 hl hx hn).bind fun y ⟨k,hy,hk,h1,h2⟩=>?_
 subst hy
 unfold yzn
 have main:(∀ h:k<l.length,l[k]≠x)->Tot ((guardO ((0:Int)<=(k:Int)/\(k:Int)<=(l.length:Int))).bind fun u5=>(guardO ((l.take (Int.toNat (k:Int))).length<=1099511627776)).bind fun u6=>(guardO ((l.take (Int.toNat (k:Int))).length+([x]).length<=1099511627776)).bind fun u7=>(guardO (((l.take (Int.toNat (k:Int)))++[x]).length+(l.drop (Int.toNat (k:Int))).length<=1099511627776)).bind fun u8=>some (((l.take (Int.toNat (k:Int)))++[x])++(l.drop (Int.toNat (k:Int))))) (PutOk l x):=by
  intro hne;rw[Int.toNat_natCast];refine Tot.guard (by omega) (Tot.guard (by simp;omega) (Tot.guard (by simp;omega) (Tot.guard (by simp;omega) (Tot.ret ?_))))
  have hb:∀ y∈l.drop k,less x y=true:=by
   intro y hy;obtain⟨i,hi,e⟩:=List.mem_iff_getElem.1 hy;rw[List.getElem_drop] at e;rw[List.length_drop] at hi;have hkl:k<l.length:=by omega
   have rk:=hl _ (List.getElem_mem hkl)
   have hkx:less x l[k]=true:=by
    have q:=h2 hkl;cases hh:less x l[k] with
    | true=>rfl
    | false=>exact absurd (yoq1 rk hx q hh) (hne hkl)
   subst e;rcases Nat.eq_zero_or_pos i with h | h
   ·subst h;exact hkx
   exact yia2 hx rk (hl _ (List.getElem_mem _)) hkx (hs.get (by omega) (by omega))
  have ha:∀ y∈l.take k,less y x=true:=by
   intro y hy;obtain⟨i,hi,e⟩:=List.mem_iff_getElem.1 hy;rw[List.getElem_take] at e;rw[List.length_take] at hi;subst e;exact h1 i (by omega) (by omega)
  refine⟨?_,fun y=>?_,by simp;omega,fun _=>by simp;omega⟩
  ·have sd:Srt (l.drop k):=List.Pairwise.sublist (List.drop_sublist k l) hs
   have st:Srt (l.take k):=List.Pairwise.sublist (List.take_sublist k l) hs
   rw[List.append_assoc];refine List.pairwise_append.2 ⟨st,List.pairwise_append.2 ⟨List.pairwise_singleton _ _,sd,fun a h b hb'=>?_⟩,fun a h b hb'=>?_⟩
   ·rw[List.mem_singleton.1 h];exact hb b hb'
   rcases List.mem_append.1 hb' with h' | h'
   ·rw[List.mem_singleton.1 h'];exact ha a h
   exact yia2 (hl a (List.mem_of_mem_take h)) hx (hl b (List.mem_of_mem_drop h')) (ha a h) (hb b h')
  have e:y∈l↔y∈l.take k\/y∈l.drop k:=by
   conv=>lhs;rw[← List.take_append_drop k l]
   exact List.mem_append
  rw[e];simp only[List.mem_append,List.mem_singleton];constructor
  ·rintro((h | h) | h)
   ·exact .inr (.inl h)
   ·exact .inl h
   exact .inr (.inr h)
  rintro(h | h | h)
  ·exact .inl (.inr h)
  ·exact .inl (.inl h)
  exact .inr h
 by_cases hlt:k<l.length
 ·simp only[show((k:Int)<(l.length:Int)) from by omega,decide_true,if_true,ybk hlt,Option.bind_some]
  by_cases he:l[k]=x
  ·rw[if_pos (by rw[he];simp)]
   exact Tot.ret ⟨hs,fun y=>⟨.inr,fun h=>by rcases h with rfl | h;exact he▸List.getElem_mem hlt;exact h⟩,by omega,fun h=>absurd (he▸List.getElem_mem hlt) h⟩
  rw[if_neg (by intro hh;simp only[Bool.and_eq_true,beq_iff_eq] at hh;exact he (Prod.ext hh.1 hh.2))]
  exact main fun _=>he
 simp only[show ¬ ((k:Int)<(l.length:Int)) from by omega,decide_false,Bool.false_eq_true,if_false,Option.bind_some]
 exact main fun h=>absurd h hlt
theorem yip1 (x:Rt):okR x=isRat x:=by
 rw[Bool.eq_iff_iff]
 rw[isRat_iff]
 simp[okR]
theorem ytg1 (x y:Rt):leR x y = !less y x:=rfl
abbrev RR:={ x:Rt // isRat x=true }
theorem yli1 (l:List Rt) (x:Rt):x∈sortR l↔x∈l:=(List.mergeSort_perm l leR).mem_iff
theorem yjp1 (l:List Rt):(sortR l).length=l.length:=List.length_mergeSort l
theorem ykp1 (l:List Rt) (hl:Rats l):(sortR l).Pairwise fun a b=>less b a=false:=by
 let l':List RR:=l.attach.map fun x=>⟨x.1,hl x.1 x.2⟩
 have e:l'.map (·.1)=l:=by
  simp only[l',List.map_map,Function.comp_def];exact List.attach_map_subtype_val l
 let le':RR->RR->Bool:=fun a b=>leR a.1 b.1
 have hm:(l'.mergeSort le').map (·.1)=sortR l:=by
  rw[List.map_mergeSort (s:=leR) fun a _ b _=>rfl,e];rfl
 have hp:(l'.mergeSort le').Pairwise fun a b=>le' a b=true:=by
  refine List.pairwise_mergeSort (fun a b c h1 h2=>?_) (fun a b=>?_) l'
  ·simp only[le',ytg1,Bool.not_eq_true'] at h1 h2 ⊢
   exact ysa2 a.2 b.2 c.2 h1 h2
  simp only[le',ytg1];cases h:less b.1 a.1 with
  | false=>rfl
  | true=>rw[yji1 b.2 a.2 h];rfl
 rw[← hm]
 refine List.pairwise_map.2 (hp.imp fun {a b} h=>?_)
 simpa [le',ytg1] using h
theorem ymw1 {d:Nat->Rt}:∀ (m:Nat),(∀ i,i<m->isRat (d i)=true)->(∀ i j,i<j->j<m->less (d j) (d i)=false) ->
  Srt (cpF d m)/\(∀ y,y∈cpF d m↔∃ i,i<m/\d i=y)/\(cpF d m).length<=m
 | 0,_,_=>⟨List.Pairwise.nil,fun y=>by simp[cpF],by simp[cpF]⟩
 | m+1,hr,hd=>by
  obtain⟨h1,h2,h3⟩:=ymw1 (d:=d) m (fun i h=>hr i (by omega)) (fun i j h h'=>hd i j h (by omega))
  simp only[cpF];by_cases hc:1<=m/\d m=d (m-1)
  ·rw[if_pos hc]
   refine⟨h1,fun y=>?_,by omega⟩
   rw[h2];constructor
   ·rintro⟨i,hi,e⟩;exact⟨i,by omega,e⟩
   rintro⟨i,hi,e⟩
   rcases Nat.lt_or_ge i m with h | h
   ·exact⟨i,h,e⟩
   have:i=m:=by omega
   subst this;exact⟨i-1,by omega,by rw[← hc.2];exact e⟩
  rw[if_neg hc];refine⟨List.pairwise_append.2 ⟨h1,List.pairwise_singleton _ _,fun a ha b hb=>?_⟩,fun y=>?_,by simp;omega⟩
  ·rw[List.mem_singleton.1 hb]
   obtain⟨i,hi,e⟩:=(h2 a).1 ha
   subst e;have r0:=hr i (by omega)
   have r1:=hr (m-1) (by omega)
   have r2:=hr m (by omega)
   have q:less (d (m-1)) (d m)=true:=by
    cases hh:less (d (m-1)) (d m) with
    | true=>rfl
    | false=>exact absurd ⟨by omega,yoq1 r2 r1 (hd (m-1) m (by omega) (by omega)) hh⟩ hc
   rcases Nat.lt_or_ge i (m-1) with h | h
   ·have:=hd i (m-1) h (by omega)
    have a1:=(yed (yad r1) (yad r0)).1 this
    have a2:=(yei (yad r1) (yad r2)).1 q
    exact(yei (yad r0) (yad r2)).2 (by grind)
   have:i=m-1:=by omega
   subst this;exact q
  rw[List.mem_append,h2,List.mem_singleton];constructor
  ·rintro(⟨i,hi,e⟩ | e)
   ·exact⟨i,by omega,e⟩
   exact⟨m,by omega,e.symm⟩
  rintro⟨i,hi,e⟩
  rcases Nat.lt_or_ge i m with h | h
  ·exact .inl ⟨i,h,e⟩
  have:i=m:=by omega
  subst this;exact .inr e.symm
theorem ymi1 {l:List Rt} (hl:Rats l) (hn:l.length<=1048576):Tot (yxo l) fun r=>Srt r/\(∀ y,y∈r↔y∈l)/\r.length<=l.length:=by
 unfold yxo yyb ybc
 rw[yea ⟨hn,fun x hx=>by rw[yip1];exact hl x hx⟩]
 refine Tot.ret ?_
 have hs:=ykp1 l hl
 have hr:Rats (sortR l):=fun x hx=>hl x ((yli1 l x).1 hx)
 have hlen:=yjp1 l
 have hg:∀ i (h:i<(sortR l).length),(sortR l).getD i (0,0)=(sortR l)[i]:=fun i h=>by rw[List.getD_eq_getElem?_getD,List.getElem?_eq_getElem h];rfl
 obtain⟨h1,h2,h3⟩:=ymw1 (d:=fun i=>(sortR l).getD i (0,0)) (sortR l).length (fun i hi=>by show isRat ((sortR l).getD i (0,0))=true;rw[hg i hi];exact hr _ (List.getElem_mem hi)) (fun i j hij hj=>by
  show less ((sortR l).getD j (0,0)) ((sortR l).getD i (0,0))=false
  rw[hg i (by omega),hg j hj];exact List.pairwise_iff_getElem.1 hs i j (by omega) hj hij)
 refine⟨h1,fun y=>?_,by show(cpF _ _).length<=_;omega⟩
 show y∈cpF _ _↔_
 rw[h2,← yli1,List.mem_iff_getElem]
 constructor
 ·rintro⟨i,hi,e⟩;exact⟨i,hi,by rw[← hg i hi];exact e⟩
 rintro⟨i,hi,e⟩;exact⟨i,hi,by show(sortR l).getD i (0,0)=y;rw[hg i hi];exact e⟩
end Go.PV

/-
 Plain laws: images,coverings,graphs of coverings,on both sides.
 Conditions: none.
-/
set_option linter.all false
namespace Go.PV
theorem ycg (xs:List Pt) (f:Pt->Option Bool) (p:Pt->Bool) (hf:∀ x,f x=some (p x)) (hl:xs.length<=4611686018427387904) :
  ysa xs f=some (match xs.findIdx? p with | some i=>(i:Int) | none => -1):=by
 have h:=yir (xs:=xs) (body:=yna xs f) p (fun i=>(i:Int)) (fun i=>.inl (i:Int)) (.inr ()) (fun i x hx=>by
  have hi:=getElem?_lt hx
  simp only[yna,ylt,hx,hf,Option.bind_some,yya (show i<9223372036854775807 by omega),show((i:Int)<(xs.length:Int)) from by omega,decide_true,if_true]
  cases p x <;> rfl) (by simp[yna])
 unfold ysa
 rw[show(0:Int)=((0:Nat):Int) from rfl,h]
 cases xs.findIdx? p <;> rfl
theorem yue (xs:List Pt) (f:Pt->Option Bool) (p:Pt->Bool) (hf:∀ x,f x=some (p x)) (hl:xs.length<=4611686018427387904):yoa xs f=some (xs.any p):=by
 simp only[yoa,ycg xs f p hf hl,Option.bind_some]
 cases h:xs.findIdx? p with
 | none =>
  have hn:=List.findIdx?_eq_none_iff.1 h
  have:xs.any p=false:=by simpa using hn
  simp[this]
 | some m =>
  obtain⟨hm,hp,_⟩:=List.findIdx?_eq_some_iff_getElem.1 h
  have:xs.any p=true:=List.any_eq_true.2 ⟨xs[m],List.getElem_mem hm,hp⟩
  simp[this]
def tkR (s:Rt×Rt) (y:Rt):Rt×Rt:=(if less y s.1=true then y else s.1,if less s.2 y=true then y else s.2)
theorem yni1 {s:Rt×Rt} {y:Rt} (h1:isRat s.1=true) (h2:isRat s.2=true) (hy:isRat y=true):isRat (tkR s y).1=true/\isRat (tkR s y).2=true:=by
 unfold tkR
 constructor
 ·dsimp only;split
  ·exact hy
  exact h1
 dsimp only;split
 ·exact hy
 exact h2
theorem yrz {y lo hi:Rt} (hy:isRat y=true) (h1:isRat lo=true) (h2:isRat hi=true):ydf y lo hi=some (tkR (lo,hi) y):=by
 unfold ydf yju yos tkR
 rw[ydd y lo (ylb hy) (ylb h1),ydd hi y (ylb h2) (ylb hy)]
 cases less y lo <;> cases less hi y <;> rfl
section
variable {n:Nat} {p:Nat->Pt}
def ysB (p:Nat->Pt) (a b:Rt):Nat->List Rt
 | 0=>[]
 | m+1=>if(less a (p m).1&&less (p m).1 b)=true then ysB p a b m++[(p m).2] else ysB p a b m
theorem yqm1 (a b:Rt):∀ m,(ysB p a b m).length<=m
 | 0=>Nat.le_refl _
 | m+1=>by
  have:=yqm1 a b m
  unfold ysB;split
  ·simp;omega
  omega
theorem ypb1 (h:Curve n p) (a b:Rt):∀ m,m<=n->∀ y∈ysB p a b m,isRat y=true
 | 0,_,y,hy=>by cases hy
 | m+1,hm,y,hy=>by
  unfold ysB at hy;split at hy
  ·rcases List.mem_append.1 hy with hy | hy
   ·exact ypb1 h a b m (by omega) y hy
   obtain rfl:=List.mem_singleton.1 hy
   exact h.yr (by omega)
  exact ypb1 h a b m (by omega) y hy
theorem yed1:∀ (l:List Rt) (s:Rt×Rt),isRat s.1=true->isRat s.2=true->(∀ y∈l,isRat y=true)->isRat (l.foldl tkR s).1=true/\isRat (l.foldl tkR s).2=true
 | [],s,h1,h2,_=>⟨h1,h2⟩
 | y::l,s,h1,h2,h3=>by
  have:=yni1 h1 h2 (h3 y (by simp))
  exact yed1 l (tkR s y) this.1 this.2 fun z hz=>h3 z (by simp[hz])
theorem yva1 (h:Curve n p) {a b:Rt} (ha:isRat a=true) (hb:isRat b=true) (s:Rt×Rt) (h1:isRat s.1=true) (h2:isRat s.2=true) :
  loopO (yce (tab n p) a b) (s.1.1,s.1.2,s.2.1,s.2.2,0)=some (((ysB p a b n).foldl tkR s).1.1,((ysB p a b n).foldl tkR s).1.2,((ysB p a b n).foldl tkR s).2.1,((ysB p a b n).foldl tkR s).2.2):=by
 have hn:=h.hi
 have hr:∀ i,i<=n->isRat ((ysB p a b i).foldl tkR s).1=true/\isRat ((ysB p a b i).foldl tkR s).2=true:=fun i hi=>yed1 _ _ h1 h2 (ypb1 h a b i hi)
 have hx:=yrc (body:=yce (tab n p) a b) n (fun i=>(((ysB p a b i).foldl tkR s).1.1,((ysB p a b i).foldl tkR s).1.2,((ysB p a b i).foldl tkR s).2.1,((ysB p a b i).foldl tkR s).2.2,(i:Int))) (((ysB p a b n).foldl tkR s).1.1,((ysB p a b n).foldl tkR s).1.2,((ysB p a b n).foldl tkR s).2.1,((ysB p a b n).foldl tkR s).2.2) (fun i hi=>by
  have tx:=ylb (h.xr hi)
  simp only[yce,yxa,show((i:Int)<(n:Int)) from by omega,decide_true,if_true,yma hi,Option.bind_some,ydd a _ (ylb ha) tx,ydd _ b tx (ylb hb),yya (show i<9223372036854775807 by omega)]
  cases g1:less a (p i).1
  ·simp only[Bool.false_eq_true,if_false,Option.bind_some,ysB,g1,Bool.false_and]
  cases g2:less (p i).1 b
  ·simp only[if_true,Bool.false_eq_true,if_false,Option.bind_some,ysB,g1,g2,Bool.and_false]
  simp only[if_true,Option.bind_some,ysB,g1,g2,Bool.and_self,List.foldl_append,List.foldl_cons,List.foldl_nil];have:=hr i (by omega)
  rw[show(((ysB p a b i).foldl tkR s).1.1,((ysB p a b i).foldl tkR s).1.2)=((ysB p a b i).foldl tkR s).1 from rfl,show(((ysB p a b i).foldl tkR s).2.1,((ysB p a b i).foldl tkR s).2.2)=((ysB p a b i).foldl tkR s).2 from rfl,yrz (h.yr hi) this.1 this.2]
  rfl) (by simp only[yce,yxa,Int.lt_irrefl,decide_false,Bool.false_eq_true,if_false])
 exact hx
def imR (n:Nat) (p:Nat->Pt) (a b y z:Rt):Rt×Rt:=(z::ysB p a b n).foldl tkR (y,y)
theorem yoi1 (h:Curve n p) {a b y z:Rt} (hy:isRat y=true) (hz:isRat z=true):isRat (imR n p a b y z).1=true/\isRat (imR n p a b y z).2=true :=
 yed1 _ _ hy hy fun x hx=>by
  rcases List.mem_cons.1 hx with rfl | hx
  ·exact hz
  exact ypb1 h a b n (Nat.le_refl _) x hx
theorem yaf1 (h:Curve n p) {a b:Rt} (ha:isUnit a=true) (hb:isUnit b=true) (bad:Bool):∃ v,yik bad (tab n p) a b=some v/\isRat v.1=true/\isRat v.2.1=true /\
    (match atQ n p a,atQ n p b with
     | some y,some z=>v=((imR n p a b y z).1,(imR n p a b y z).2,bad)
     | _,_=>v.2.2=true)/\(bad=true->v.2.2=true):=by
  obtain⟨v1,e1,c1⟩:=yfi1 h ha bad;obtain⟨v2,e2,c2⟩:=yfi1 h hb v1.2;have ra:isRat a=true:=by simp only[isUnit,Bool.and_eq_true] at ha;exact ha.1
  have rb:isRat b=true:=by simp only[isUnit,Bool.and_eq_true] at hb;exact hb.1
  have hr:=yoi1 h (a:=a) (b:=b) c1.1 c2.1
  refine⟨((imR n p a b v1.1 v2.1).1,(imR n p a b v1.1 v2.1).2,v2.2),?_,hr.1,hr.2,?_,fun hbad=>?_⟩
  · unfold yik
    rw[e1,Option.bind_some,e2,Option.bind_some,yrz c2.1 c1.1 c1.1,Option.bind_some];have:=yni1 (s:=(v1.1,v1.1)) c1.1 c1.1 c2.1
    rw[yva1 h ra rb _ this.1 this.2,Option.bind_some];rfl
  · obtain⟨_,c1⟩:=c1
    obtain⟨_,c2⟩:=c2;cases h1:atQ n p a with
    | none =>
      rw[h1] at c1;have h3:v1.2=true:=c1
      cases h2:atQ n p b with
      | none=>rw[h2] at c2;exact c2
      | some z=>rw[h2] at c2;have c2:v2=(z,v1.2):=c2;show v2.2=true;rw[c2];exact h3
    | some y =>
      rw[h1] at c1;have c1:v1=(y,bad):=c1
      cases h2:atQ n p b with
      | none=>rw[h2] at c2;exact c2
      | some z=>rw[h2] at c2;have c2:v2=(z,v1.2):=c2;rw[c2,c1]
  · subst hbad
    have b1:=ykm1 c1;rw[b1] at c2;have c3:v2.2=true:=ykm1 c2
    exact c3
theorem ybf1 (h : Curve n p) {a b : Rt} (ha : isUnit a = true) (hb : isUnit b = true) : ytp (tab n p) a b = some (match atQ n p a, atQ n p b with
     | some y,some z=>((imR n p a b y z).1,(imR n p a b y z).2,true)
     | _,_=>((0,0),(0,0),false)):=by
  have hn:=h.hi;have ra:isRat a=true:=by simp only[isUnit,Bool.and_eq_true] at ha;exact ha.1
  have rb:isRat b=true:=by simp only[isUnit,Bool.and_eq_true] at hb;exact hb.1
  unfold ytp;rw[yob1 h ha,yob1 h hb];simp only[Option.bind_some];cases h1:atQ n p a with
  | none=>simp[unO]
  | some y =>
    cases h2:atQ n p b with
    | none=>simp[unO]
    | some z =>
      have ry:=ynz h1;have rz:=ynz h2;simp only[unO,Bool.not_true,Bool.or_self,Bool.false_eq_true,if_false];have l1:=yrc (body:=ybi (tab n p) a b) n (fun i=>(z::ysB p a b i,(i:Int))) (z::ysB p a b n) (fun i hi=>by
        have tx:=ylb (h.xr hi)
        have hlen:=yqm1 (p:=p) a b i
        simp only[ybi,yxa,show((i:Int)<(n:Int)) from by omega,decide_true,if_true,yma hi,Option.bind_some,ymb a _ (ylb ra) tx,ymb _ b tx (ylb rb),yem1,yya (show i<9223372036854775807 by omega)]
        cases g1:less a (p i).1
        · simp only[Bool.false_eq_true,if_false,Option.bind_some,ysB,g1,Bool.false_and]
        · cases g2:less (p i).1 b
          · simp only[if_true,Bool.false_eq_true,if_false,Option.bind_some,ysB,g1,g2,Bool.and_false]
          · simp only[if_true,Option.bind_some,ysB,g1,g2,Bool.and_self]
            rw[yea (by simp;omega)]
            rfl) (by simp only[ybi,yxa,Int.lt_irrefl,decide_false,Bool.false_eq_true,if_false])
      have l1':loopO (ybi (tab n p) a b) ([z],0)=some (z::ysB p a b n):=l1
      rw[l1',Option.bind_some];unfold yrn;have hl:(z::ysB p a b n).length<=13:=by have:=yqm1 (p:=p) a b n;simp;omega
      have hm:∀ x∈z::ysB p a b n,isRat x=true:=fun x hx=>by
        rcases List.mem_cons.1 hx with rfl | hx
        · exact rz
        · exact ypb1 h a b n (Nat.le_refl _) x hx
      have key:imR n p a b y z=(z::ysB p a b n).foldl tkR (y,y):=rfl
      rw[key];generalize z::ysB p a b n=l at hl hm
      have hr:∀ i,isRat ((l.take i).foldl tkR (y,y)).1=true/\isRat ((l.take i).foldl tkR (y,y)).2=true:=fun i=>yed1 _ _ ry ry fun x hx=>hm x (List.mem_of_mem_take hx)
      have l2:=yrc (body:=yai l) l.length (fun i=>(((l.take i).foldl tkR (y,y)).1.1,((l.take i).foldl tkR (y,y)).1.2,((l.take i).foldl tkR (y,y)).2.1,((l.take i).foldl tkR (y,y)).2.2,(i:Int))) ((l.foldl tkR (y,y)).1.1,(l.foldl tkR (y,y)).1.2,(l.foldl tkR (y,y)).2.1,(l.foldl tkR (y,y)).2.2) (fun i hi=>by
        have e:l.take (i+1)=l.take i++[l[i]]:=by rw[List.take_succ_eq_append_getElem hi]
        have rx:=hm l[i] (List.getElem_mem hi)
        have r1:=hr i;rw[e,List.foldl_append];simp only[List.foldl_cons,List.foldl_nil];generalize (l.take i).foldl tkR (y,y)=s at r1
        simp only[yai,show((i:Int)<(l.length:Int)) from by omega,decide_true,if_true,ybk hi,Option.bind_some,show((s.1.1,s.1.2):Rt)=s.1 from rfl,ymb _ s.1 (ylb rx) (ylb r1.1),yem1,ygk,show((s.2.1,s.2.2):Rt)=s.2 from rfl,ymb s.2 _ (ylb r1.2) (ylb rx),yya (show i<9223372036854775807 by omega)]
        unfold tkR;cases less l[i] s.1 <;> cases less s.2 l[i] <;> rfl) (by
          simp only[yai,Int.lt_irrefl,decide_false,Bool.false_eq_true,if_false,List.take_length])
      have l2':loopO (yai l) (y.1,y.2,y.1,y.2,0)=some ((l.foldl tkR (y,y)).1.1,(l.foldl tkR (y,y)).1.2,(l.foldl tkR (y,y)).2.1,(l.foldl tkR (y,y)).2.2):=l2
      rw[l2'];rfl
abbrev Iv:=Rt×Rt
def isIv (i:Iv):Bool:=isUnit i.1&&isUnit i.2&&less i.1 i.2
noncomputable def okI (n:Nat) (p:Nat->Pt) (i:Iv):Bool:=(atQ n p i.1).isSome&&(atQ n p i.2).isSome
noncomputable def covI (n:Nat) (p:Nat->Pt) (i k:Iv):Bool:=match atQ n p i.1,atQ n p i.2 with
 | some y,some z=> !less k.1 (imR n p i.1 i.2 y z).1 && !less (imR n p i.1 i.2 y z).2 k.2
 | _,_=>false
theorem ybd {i:Iv} (h:isIv i=true):isUnit i.1=true/\isUnit i.2=true/\isRat i.1=true/\isRat i.2=true:=by
 simp only[isIv,Bool.and_eq_true] at h
 have h1:=h.1.1
 have h2:=h.1.2
 refine⟨h1,h2,?_,?_⟩
 ·simp only[isUnit,Bool.and_eq_true] at h1;exact h1.1
 simp only[isUnit,Bool.and_eq_true] at h2;exact h2.1
theorem yno (h:Curve n p) {i k:Iv} (hi:isIv i=true) (hk:isIv k=true) (bad:Bool):∃ v,yle bad (tab n p) i k=some v/\(okI n p i=true->v=(covI n p i k,bad))/\(okI n p i=false->v.2=true)/\(bad=true->v.2=true):=by
 obtain⟨u1,u2,r1,r2⟩:=ybd hi
 obtain⟨_,_,k1,k2⟩:=ybd hk
 obtain⟨v,e,c1,c2,c3,c4⟩:=yaf1 h u1 u2 bad
 refine⟨(!less k.1 v.1 && !less v.2.1 k.2,v.2.2),?_,fun ho=>?_,fun ho=>?_,c4⟩
 ·unfold yle
  rw[e];simp only[Option.bind_some,ydd k.1 v.1 (ylb k1) (ylb c1),ydd v.2.1 k.2 (ylb c2) (ylb k2)];cases less k.1 v.1 <;> rfl
 ·unfold okI at ho
  unfold covI;cases h1:atQ n p i.1 with
  | none=>rw[h1] at ho;cases ho
  | some y =>
   cases h2:atQ n p i.2 with
   | none=>rw[h1,h2] at ho;cases ho
   | some z =>
    rw[h1,h2] at c3;have c3:v=((imR n p i.1 i.2 y z).1,(imR n p i.1 i.2 y z).2,bad):=c3
    rw[c3]
 unfold okI at ho
 cases h1:atQ n p i.1 with
 | none=>rw[h1] at c3;exact c3
 | some y =>
  cases h2:atQ n p i.2 with
  | none=>rw[h1,h2] at c3;exact c3
  | some z=>rw[h1,h2] at ho;cases ho
theorem yof (h:Curve n p) {i k:Iv} (hi:isIv i=true) (hk:isIv k=true):yrf (tab n p) i k=some (if okI n p i=true then(covI n p i k,true) else(false,false)):=by
 obtain⟨u1,u2,r1,r2⟩:=ybd hi
 obtain⟨_,_,k1,k2⟩:=ybd hk
 unfold yrf okI covI
 rw[ybf1 h u1 u2]
 cases h1:atQ n p i.1 with
 | none=>rfl
 | some y =>
  cases h2:atQ n p i.2 with
  | none=>rfl
  | some z =>
   have hr:=yoi1 h (a:=i.1) (b:=i.2) (ynz h1) (ynz h2)
   simp only[Option.bind_some,Bool.not_true,Bool.false_eq_true,if_false,ymb _ k.1 (ylb hr.1) (ylb k1),ymb k.2 _ (ylb k2) (ylb hr.2),yfw1,Option.isSome_some,Bool.and_self,if_true]
   cases less k.1 (imR n p i.1 i.2 y z).1 <;> rfl
end
end Go.PV

/-
 Plain laws: graphs of coverings on both sides.
 Conditions: none.
-/
set_option linter.all false
namespace Go.PV
theorem yuj (xs:List Rt) (f:Rt->Option Bool) (p:Rt->Bool) (hf:∀ x,f x=some (p x)) (hl:xs.length<=4611686018427387904) :
  ygb xs f=some (match xs.findIdx? p with | some i=>(i:Int) | none => -1):=by
 have h:=yir (xs:=xs) (body:=ybb xs f) p (fun i=>(i:Int)) (fun i=>.inl (i:Int)) (.inr ()) (fun i x hx=>by
  have hi:=getElem?_lt hx
  simp only[ybb,ylt,hx,hf,Option.bind_some,yya (show i<9223372036854775807 by omega),show((i:Int)<(xs.length:Int)) from by omega,decide_true,if_true]
  cases p x <;> rfl) (by simp[ybb])
 unfold ygb
 rw[show(0:Int)=((0:Nat):Int) from rfl,h]
 cases xs.findIdx? p <;> rfl
theorem ypi (xs:List Rt) (f:Rt->Option Bool) (p:Rt->Bool) (hf:∀ x,f x=some (p x)) (hl:xs.length<=4611686018427387904):ycb xs f=some (xs.any p):=by
 simp only[ycb,yuj xs f p hf hl,Option.bind_some]
 cases h:xs.findIdx? p with
 | none =>
  have hn:=List.findIdx?_eq_none_iff.1 h
  have:xs.any p=false:=by simpa using hn
  simp[this]
 | some m =>
  obtain⟨hm,hp,_⟩:=List.findIdx?_eq_some_iff_getElem.1 h
  have:xs.any p=true:=List.any_eq_true.2 ⟨xs[m],List.getElem_mem hm,hp⟩
  simp[this]
theorem ydn (i:Iv):yfg i=some (isIv i):=by
 unfold yfg ymq isIv
 rw[ypi [i.1,i.2] (fun x0=>yjk x0) (fun x=> !isUnit x) (fun x=>by simp[yjk,ydw]) (by simp)]
 simp only[List.any_cons,List.any_nil,Bool.or_false,Option.bind_some,Bool.not_or,Bool.not_not]
 cases h1:isUnit i.1
 ·simp
 cases h2:isUnit i.2
 ·simp
 have r1:isRat i.1=true:=by simp only[isUnit,Bool.and_eq_true] at h1;exact h1.1
 have r2:isRat i.2=true:=by simp only[isUnit,Bool.and_eq_true] at h2;exact h2.1
 simp only[Bool.and_self,if_true,ydd i.1 i.2 (ylb r1) (ylb r2),Option.bind_some,Bool.true_and]
theorem yrl (i:Iv):yog i=some (isIv i):=by
 unfold yog isIv
 rw[yis,yis]
 cases h1:isUnit i.1
 ·rfl
 cases h2:isUnit i.2
 ·rfl
 have r1:isRat i.1=true:=by simp only[isUnit,Bool.and_eq_true] at h1;exact h1.1
 have r2:isRat i.2=true:=by simp only[isUnit,Bool.and_eq_true] at h2;exact h2.1
 simp only[Option.bind_some,if_true,ymb i.1 i.2 (ylb r1) (ylb r2),yem1,Bool.true_and]
def areIv (l:List Iv):Bool:=inB 1 8 l.length&&l.all isIv
theorem ymh (l:List Iv) (hl:l.length<=4611686018427387904):yef l=some (areIv l):=by
 unfold yef areIv
 rw[ypl,Option.bind_some]
 cases inB 1 8 (l.length:Int)
 ·rfl
 have hc:=yue l (fun x0=>ysf x0) (fun x=> !isIv x) (fun x=>by simp[ysf,ydn]) hl
 simp only[if_true,hc,Option.bind_some,List.any_eq_not_all_not,Bool.not_not,Bool.true_and]
theorem ysl (l:List Iv) (hl:l.length<=4611686018427387904):ywo l=some (areIv l):=by
 obtain⟨y,e1,e2⟩:=yrq (body:=yem l) (fun x=>∃ i:Nat,x=(i:Int)/\i<=l.length/\(l.take i).all isIv=true) (fun x=>l.length-x.toNat) (fun y=>y=if l.all isIv=true then .inr () else .inl false) (fun x ⟨i,e,hi,hq⟩=>by
  subst e;by_cases hlt:i<l.length
  ·simp only[yem,show((i:Int)<(l.length:Int)) from by omega,decide_true,if_true,ybk hlt,Option.bind_some,yrl]
   cases h:isIv l[i]
   ·right
    refine⟨.inl false,by simp,?_⟩
    have:l.all isIv=false:=by
     rw[List.all_eq_false];exact⟨l[i],List.getElem_mem hlt,by rw[h];simp⟩
    rw[this];rfl
   left
   refine⟨_,by simp only[Bool.not_true,Bool.false_eq_true,if_false,yya (show i<9223372036854775807 by omega)],⟨i+1,rfl,by omega,?_⟩,by simp only[Int.toNat_natCast];omega⟩
   rw[List.take_succ_eq_append_getElem hlt,List.all_append,hq];simp[h]
  right
  have:i=l.length:=by omega
  subst this;refine⟨.inr (),by simp only[yem,Int.lt_irrefl,decide_false,Bool.false_eq_true,if_false],?_⟩
  rw[List.take_length] at hq;rw[if_pos hq]) 0 ⟨0,rfl,by omega,by simp⟩
 unfold ywo areIv
 rw[e1,e2]
 cases l.all isIv
 ·simp
 simp only[if_true,Option.bind_some,Sum.elim_inr,yso,yvk,Bool.and_true]
section
variable {n m:Nat} {p:Nat->Pt} {q:Nat->Iv}
def allOk (n:Nat) (p:Nat->Pt) (m:Nat) (q:Nat->Iv):Prop:=∀ a,a<m->okI n p (q a)=true
noncomputable def cvM (n:Nat) (p:Nat->Pt) (q:Nat->Iv) (a b:Nat):Int:=if covI n p (q a) (q b)=true then 1 else 0
theorem yfd1 (h:Curve n p) (hm:m<=8) (hq:∀ a,a<m->isIv (q a)=true) {i:Nat} (hi:i<m) (X:Bool×List (List Int)) (b0:Bool) (F:Nat->Nat->Int) (hF:∀ c,F i c=0) :
  ∃ b F',loopO (yrb (tab n p) (tab m q) (X.1,X.2,(i:Int)) (q i)) (b0,mat m m F,0)=some (b,mat m m F')/\((b0=true\/okI n p (q i)=false)->b=true)/\((b0=false/\okI n p (q i)=true)->b=false/\∀ a c,F' a c=if a=i/\c<m then cvM n p q i c else F a c):=by
 obtain⟨y,e1,b,F',rfl,e2,e3⟩:=yrq (body:=yrb (tab n p) (tab m q) (X.1,X.2,(i:Int)) (q i))
  (fun x=>∃ (j:Nat) (b:Bool) (F':Nat->Nat->Int),x=(b,mat m m F',(j:Int))/\j<=m/\((b0=true\/(okI n p (q i)=false/\0<j))->b=true)/\((b0=false/\okI n p (q i)=true)->b=false/\∀ a c,F' a c=if a=i/\c<j then cvM n p q i c else F a c))
  (fun x=>m-x.2.2.toNat) (fun y=>∃ (b:Bool) (F':Nat->Nat->Int),y=(b,mat m m F')/\((b0=true\/okI n p (q i)=false)->b=true)/\((b0=false/\okI n p (q i)=true)->b=false/\∀ a c,F' a c=if a=i/\c<m then cvM n p q i c else F a c)) (fun x ⟨j,b,F',e,hj,g1,g2⟩=>by
  subst e;by_cases hlt:j<m
  ·left
   obtain⟨v,c1,c2,c3,c4⟩:=yno h (hq i hi) (hq j hlt) b
   have hb:(b0=true\/(okI n p (q i)=false/\0<j+1))->v.2=true:=fun hh=>by
    rcases hh with hh | ⟨hh,_⟩
    ·exact c4 (g1 (.inl hh))
    exact c3 hh
   simp only[yrb,yxa,show((j:Int)<(m:Int)) from by omega,decide_true,if_true,yma hlt,Option.bind_some,c1,ysq hi,yya (show j<9223372036854775807 by omega),Int.toNat_natCast]
   cases hv:v.1
   ·refine⟨(v.2,mat m m F',((j+1:Nat):Int)),by simp only[Bool.false_eq_true,if_false],⟨j+1,v.2,F',rfl,by omega,hb,fun hh=>?_⟩,by simp only[Int.toNat_natCast];omega⟩
    obtain⟨f1,f2⟩:=g2 hh;have c5:=c2 hh.2;have f3:covI n p (q i) (q j)=false:=by rw[c5] at hv;exact hv
    refine⟨by rw[c5];exact f1,fun a c=>?_⟩
    rw[f2];by_cases ha:a=i
    ·subst ha
     by_cases hc:c=j
     ·subst hc
      have hcv:cvM n p q a c=0:=by unfold cvM;rw[f3];rfl
      simp[hF,hcv]
     by_cases hc2:c<j
     ·simp[hc2,show c<j+1 by omega]
     simp[hc2,show ¬ c<j+1 by omega]
    simp[ha]
   refine⟨(v.2,mat m m (fun a c=>if a=i/\c=j then 1 else F' a c),((j+1:Nat):Int)),by simp only[if_true,ymq1 hi hlt],⟨j+1,v.2,_,rfl,by omega,hb,fun hh=>?_⟩,by simp only[Int.toNat_natCast];omega⟩
   obtain⟨f1,f2⟩:=g2 hh;have c5:=c2 hh.2;have f3:covI n p (q i) (q j)=true:=by rw[c5] at hv;exact hv
   refine⟨by rw[c5];exact f1,fun a c=>?_⟩
   rw[f2];by_cases ha:a=i
   ·subst ha
    by_cases hc:c=j
    ·subst hc
     have hcv:cvM n p q a c=1:=by unfold cvM;rw[f3];rfl
     simp[hcv]
    by_cases hc2:c<j
    ·simp[hc,hc2,show c<j+1 by omega]
    simp[hc,hc2,show ¬ c<j+1 by omega]
   simp[ha]
  right
  have:j=m:=by omega
  subst this;exact⟨(b,mat j j F'),by simp only[yrb,yxa,Int.lt_irrefl,decide_false,Bool.false_eq_true,if_false],b,F',rfl,fun hh=>g1 (by
   rcases hh with hh | hh
   ·exact .inl hh
   ·exact .inr ⟨hh,by omega⟩),g2⟩) (b0,mat m m F,0) ⟨0,b0,F,rfl,by omega,fun hh=>by
   rcases hh with hh | ⟨_,hh⟩
   ·exact hh
   omega,fun hh=>⟨hh.1,fun a c=>by simp⟩⟩
 exact⟨b,F',e1,e2,e3⟩
theorem ylp1 (h:Curve n p) (hm:m<=8) (hq:∀ a,a<m->isIv (q a)=true) {i:Nat} (hi:i<m) (F:Nat->Nat->Int):∃ b' F3,loopO (yrb (tab n p) (tab m q) (true,mat m m F,(i:Int)) (q i)) (true,mat m m F,0)=some (b',mat m m F3)/\((true=true\/okI n p (q i)=false)->b'=true)/\((true=false/\okI n p (q i)=true)->b'=false/\∀ a c,F3 a c=0):=by
 obtain⟨y,e1,F',rfl⟩:=yrq (body:=yrb (tab n p) (tab m q) (true,mat m m F,(i:Int)) (q i))
  (fun x=>∃ (j:Nat) (F':Nat->Nat->Int),x=(true,mat m m F',(j:Int))/\j<=m) (fun x=>m-x.2.2.toNat) (fun y=>∃ F':Nat->Nat->Int,y=(true,mat m m F')) (fun x ⟨j,F',e,hj⟩=>by
  subst e;by_cases hlt:j<m
  ·left
   obtain⟨v,c1,c2,c3,c4⟩:=yno h (hq i hi) (hq j hlt) true
   simp only[yrb,yxa,show((j:Int)<(m:Int)) from by omega,decide_true,if_true,yma hlt,Option.bind_some,c1,ysq hi,yya (show j<9223372036854775807 by omega),Int.toNat_natCast,c4 rfl]
   cases hv:v.1
   ·exact⟨(true,mat m m F',((j+1:Nat):Int)),by simp only[Bool.false_eq_true,if_false],⟨j+1,F',rfl,by omega⟩,by simp only[Int.toNat_natCast];omega⟩
   exact⟨(true,mat m m (fun a c=>if a=i/\c=j then 1 else F' a c),((j+1:Nat):Int)),by simp only[if_true,ymq1 hi hlt],⟨j+1,_,rfl,by omega⟩,by simp only[Int.toNat_natCast];omega⟩
  right
  have:j=m:=by omega
  subst this;exact⟨(true,mat j j F'),by simp only[yrb,yxa,Int.lt_irrefl,decide_false,Bool.false_eq_true,if_false],F',rfl⟩) (true,mat m m F,0) ⟨0,F,rfl,by omega⟩
 exact⟨true,F',e1,fun _=>rfl,fun hh=>by cases hh.1⟩
theorem yut (h:Curve n p) (hm:m<=8) (hq:∀ a,a<m->isIv (q a)=true) :
  ∃ b F',loopO (yde (tab n p) (tab m q)) (false,mat m m (fun _ _=>0),0)=some (b,mat m m F')/\(¬ allOk n p m q->b=true)/\(allOk n p m q->b=false/\∀ a c,a<m->c<m->F' a c=cvM n p q a c):=by
 obtain⟨y,e1,b,F',rfl,e2,e3⟩:=yrq (body:=yde (tab n p) (tab m q))
  (fun x=>∃ (i:Nat) (b:Bool) (F':Nat->Nat->Int),x=(b,mat m m F',(i:Int))/\i<=m/\((∃ a,a<i/\okI n p (q a)=false)->b=true)/\((∀ a,a<i->okI n p (q a)=true)->b=false/\∀ a c,c<m->F' a c=if a<i then cvM n p q a c else 0)/\∀ a c,i<=a->F' a c=0\/b=true)
  (fun x=>m-x.2.2.toNat) (fun y=>∃ (b:Bool) (F':Nat->Nat->Int),y=(b,mat m m F')/\(¬ allOk n p m q->b=true)/\(allOk n p m q->b=false/\∀ a c,a<m->c<m->F' a c=cvM n p q a c)) (fun x ⟨i,b,F',e,hi,g1,g2,g3⟩=>by
  subst e;by_cases hlt:i<m
  ·left
   -- the row may be thought empty
   have hrow:∃ F2:Nat->Nat->Int,mat m m F'=mat m m F2/\(b=false->∀ a c,F2 a c=if c<m then F' a c else 0)/\(b=false->∀ c,F2 i c=0):=by
    refine⟨fun a c=>if c<m then F' a c else 0,yqu fun a c _ hc=>by simp[hc],fun _ _ _=>rfl,fun hb c=>?_⟩
    have:=g3 i c (Nat.le_refl i)
    rw[hb] at this;rcases this with this | this
    ·simp[this]
    cases this
   obtain⟨F2,k1,k2,k3⟩:=hrow;have step:∃ b' F3,loopO (yrb (tab n p) (tab m q) (b,mat m m F',(i:Int)) (q i)) (b,mat m m F',0)=some (b',mat m m F3)/\((b=true\/okI n p (q i)=false)->b'=true)/\((b=false/\okI n p (q i)=true)->b'=false/\∀ a c,F3 a c=if a=i/\c<m then cvM n p q i c else F2 a c):=by
    cases hb:b
    ·have:=yfd1 h hm hq hlt (b,mat m m F') false F2 (k3 hb)
     rw[k1] at this ⊢
     rw[hb] at this;exact this
    obtain⟨b',F3,t1,t2,t3⟩:=ylp1 h hm hq hlt F'
    exact⟨b',F3,t1,t2,fun hh=>by cases hh.1⟩
   obtain⟨b',F3,s1,s2,s3⟩:=step;refine⟨(b',mat m m F3,((i+1:Nat):Int)),by simp only[yde,yxa,show((i:Int)<(m:Int)) from by omega,decide_true,if_true,yma hlt,Option.bind_some,s1,ypj,yya (show i<9223372036854775807 by omega)],⟨i+1,b',F3,rfl,by omega,fun ⟨a,ha,hb⟩=>?_,fun hall=>?_,fun a c ha=>?_⟩,by simp only[Int.toNat_natCast];omega⟩
   ·by_cases hai:a=i
    ·subst hai;exact s2 (.inr hb)
    exact s2 (.inl (g1 ⟨a,by omega,hb⟩))
   ·obtain⟨f1,f2⟩:=g2 fun a ha=>hall a (by omega)
    obtain⟨f3,f4⟩:=s3 ⟨f1,hall i (by omega)⟩
    refine⟨f3,fun a c hc=>?_⟩
    rw[f4,k2 f1,f2 a c hc];by_cases hai:a=i
    ·subst hai;simp[hc]
    by_cases h2:a<i
    ·simp[hai,hc,h2,show a<i+1 by omega]
    simp[hai,hc,h2,show ¬ a<i+1 by omega]
   cases hb:b'
   ·left
    have hbf:b=false:=by
     cases hbb:b
     ·rfl
     rw[s2 (.inl hbb)] at hb;cases hb
    have hok:okI n p (q i)=true:=by
     cases hbb:okI n p (q i)
     ·rw[s2 (.inr hbb)] at hb;cases hb
     rfl
    rw[(s3 ⟨hbf,hok⟩).2,if_neg (by omega),k2 hbf];split
    ·rcases g3 a c (by omega) with h1 | h1
     ·exact h1
     rw[hbf] at h1;cases h1
    rfl
   exact .inr rfl
  right
  have:i=m:=by omega
  subst this;refine⟨(b,mat i i F'),by simp only[yde,yxa,Int.lt_irrefl,decide_false,Bool.false_eq_true,if_false],b,F',rfl,fun hno=>g1 ?_,fun hall=>?_⟩
  ·exact Classical.byContradiction fun hne=>hno fun a ha=>by
    cases hh:okI n p (q a)
    ·exact absurd ⟨a,ha,hh⟩ hne
    rfl
  obtain⟨f1,f2⟩:=g2 hall;exact⟨f1,fun a c ha hc=>by rw[f2 a c hc,if_pos ha]⟩) (false,mat m m (fun _ _=>0),0) ⟨0,false,fun _ _=>0,rfl,by omega,fun ⟨a,ha,_⟩=>by omega,fun _=>⟨rfl,fun a c _=>by simp⟩,fun a c _=>.inl rfl⟩
 exact⟨b,F',e1,e2,e3⟩
end
end Go.PV

/-
 Plain laws: sums,powers of tables of numbers,traces.
 Conditions: none.
-/
set_option linter.all false
namespace Go.PV
def sm (n:Nat) (f:Nat->Int):Int:=foldN n (fun s i=>s+f i) 0
theorem yiq (f:Nat->Int):sm 0 f=0:=rfl
theorem yyc (n:Nat) (f:Nat->Int):sm (n+1) f=sm n f+f n:=ynt ..
theorem ybq {n:Nat} {f g:Nat->Int} (h:∀ i,i<n->f i=g i):sm n f=sm n g:=ybp1 fun b i hi=>by rw[h i hi]
theorem yhz1 (n:Nat) (f g:Nat->Int):sm n (fun i=>f i+g i)=sm n f+sm n g:=by
 induction n with
 | zero=>rfl
 | succ n ih=>rw[yyc,yyc,yyc,ih];omega
theorem sm_mul (n:Nat) (c:Int) (f:Nat->Int):sm n (fun i=>c*f i)=c*sm n f:=by
 induction n with
 | zero=>simp[yiq]
 | succ n ih=>rw[yyc,yyc,ih,Int.mul_add]
theorem sm_mul' (n:Nat) (c:Int) (f:Nat->Int):sm n (fun i=>f i*c)=sm n f*c:=by
 rw[Int.mul_comm,← sm_mul];exact ybq fun i _=>Int.mul_comm ..
theorem yug1 (n:Nat):sm n (fun _=>0)=0:=by
 induction n with
 | zero=>rfl
 | succ n ih=>rw[yyc,ih];rfl
theorem ynw1 (n m:Nat) (f:Nat->Nat->Int):sm n (fun i=>sm m fun j=>f i j)=sm m fun j=>sm n fun i=>f i j:=by
 induction n with
 | zero=>simp only[yiq];exact(yug1 m).symm
 | succ n ih=>rw[yyc,ih,← yhz1];exact ybq fun j _=>(yyc ..).symm
theorem ygd1 {n a:Nat} (h:a<n) (f:Nat->Int):sm n (fun i=>if i=a then f i else 0)=f a:=by
 induction n with
 | zero=>omega
 | succ n ih =>
  rw[yyc];by_cases hn:a=n
  ·subst hn
   rw[if_pos rfl,ybq (g:=fun _=>0) fun i hi=>if_neg (by omega),yug1];omega
  rw[if_neg (Ne.symm hn),ih (by omega)];omega
theorem yow1 {n:Nat} {f g:Nat->Int} (h:∀ i,i<n->f i<=g i):sm n f<=sm n g:=by
 induction n with
 | zero=>exact Int.le_refl _
 | succ n ih=>rw[yyc,yyc];have:=ih fun i hi=>h i (by omega);have:=h n (by omega);omega
theorem yqy {n:Nat} {f:Nat->Int} (h:∀ i,i<n->0<=f i):0<=sm n f:=by
 have:=yow1 (f:=fun _=>0) (g:=f) h
 rw[yug1] at this;exact this
theorem ypw1 {n a:Nat} (ha:a<n) {f:Nat->Int} (h:∀ i,i<n->0<=f i):f a<=sm n f:=by
 rw[← ygd1 ha f]
 refine yow1 fun i hi=>?_
 split
 ·omega
 exact h i hi
theorem yqw1 (n:Nat) (f g:Nat->Int):sm n (fun i=>f i-g i)=sm n f-sm n g:=by
 induction n with
 | zero=>rfl
 | succ n ih=>rw[yyc,yyc,yyc,ih];omega
def pw (n:Nat) (A:Nat->Nat->Int):Nat->Nat->Nat->Int
 | 0=>fun i j=>if i=j then 1 else 0
 | d+1=>fun i j=>sm n fun k=>pw n A d i k*A k j
section
variable {n:Nat} {A:Nat->Nat->Int}
theorem yrm1 {i j:Nat} (hi:i<n):pw n A 1 i j=A i j:=by
 simp only[pw]
 rw[ybq (g:=fun k=>if k=i then A k j else 0) fun k _=>by
  by_cases h:i=k
  ·subst h;simp
  simp[h,Ne.symm h],ygd1 hi]
theorem yrw1 (a:Nat) {i:Nat} (hi:i<n):∀ (b j:Nat),j<n->pw n A (a+b) i j=sm n fun k=>pw n A a i k*pw n A b k j
 | 0,j,hj=>by
  simp only[Nat.add_zero,pw];rw[ybq (g:=fun k=>if k=j then pw n A a i k else 0) fun k _=>by by_cases h:k=j <;> simp[h],ygd1 hj]
 | b+1,j,hj=>by
  show sm n (fun l=>pw n A (a+b) i l*A l j)=_
  rw[ybq (g:=fun l=>sm n fun k=>pw n A a i k*(pw n A b k l*A l j)) fun l hl=>by
   rw[yrw1 a hi b l hl,← sm_mul'];exact ybq fun k _=>Int.mul_assoc ..,ynw1]
  refine ybq fun k _=>?_
  rw[sm_mul];rfl
theorem yjj (hA:∀ i j,i<n->j<n->0<=A i j):∀ (d:Nat) {i j:Nat},i<n->j<n->0<=pw n A d i j
 | 0,i,j,_,_=>by simp only[pw];split <;> decide
 | d+1,i,j,hi,hj=>yqy fun k hk=>Int.mul_nonneg (yjj hA d hi hk) (hA k j hk hj)
theorem ysw1 (d:Nat) {i:Nat} (hi:i<n):∀ (k j:Nat),j<n->pw n A (d*k) i j=pw n (pw n A d) k i j
 | 0,j,_=>rfl
 | k+1,j,hj=>by
  rw[Nat.mul_succ,yrw1 (d*k) hi d j hj];refine ybq fun l hl=>?_
  rw[ysw1 d hi k l hl]
def tr (n:Nat) (A:Nat->Nat->Int):Int:=sm n fun i=>A i i
def cw (n:Nat) (A:Nat->Nat->Int) (d:Nat):Int:=tr n (pw n A d)
theorem ysm1 (d k:Nat):cw n A (d*k)=cw n (pw n A d) k:=ybq fun i hi=>ysw1 d hi k i hi
theorem yiz1:cw n A 1=tr n A:=ybq fun i hi=>yrm1 hi
theorem yta2 (hA:∀ i j,i<n->j<n->0<=A i j) (k:Nat) (hk:1<=k):tr n A<=cw n A k:=by
 refine yow1 fun i hi=>?_
 have key:∀ k,1<=k->A i i<=pw n A k i i:=by
  intro k;induction k with
  | zero=>intro h;omega
  | succ k ih =>
   intro _;by_cases h0:k=0
   ·subst h0;rw[Nat.zero_add,yrm1 hi];exact Int.le_refl _
   have h1:=ih (by omega)
   have h2:pw n A k i i*A i i<=pw n A (k+1) i i:=ypw1 hi (f:=fun l=>pw n A k i l*A l i) fun l hl=>Int.mul_nonneg (yjj hA k hi hl) (hA l i hl hi)
   have h3:=hA i i hi hi;by_cases h4:A i i=0
   ·rw[h4];exact yjj hA _ hi hi
   have h5:=Int.mul_le_mul h1 (show(1:Int)<=A i i by omega) (by omega) (by omega)
   omega
 exact key k hk
theorem yjz1 (hA:∀ i j,i<n->j<n->0<=A i j) {d m:Nat} (h:d∣m) (hm:1<=m):cw n A d<=cw n A m:=by
 obtain⟨k,rfl⟩:=h
 rw[ysm1]
 refine yta2 (fun i j hi hj=>yjj hA d hi hj) k ?_
 cases k with
 | zero=>omega
 | succ k=>omega
end
end Go.PV

/-
 Plain laws: what divides numbers of closed walks.
 Conditions: none.
-/
set_option linter.all false
namespace Go.PV
section
variable {n:Nat} (hn:n<=8)
def S2 (n:Nat) (f:Nat->Nat->Int):Int:=sm n fun i=>sm n fun j=>f i j
def S3 (n:Nat) (f:Nat->Nat->Nat->Int):Int:=sm n fun i=>S2 n fun j k=>f i j k
def S4 (n:Nat) (f:Nat->Nat->Nat->Nat->Int):Int:=sm n fun i=>S3 n fun j k l=>f i j k l
def S5 (n:Nat) (f:Nat->Nat->Nat->Nat->Nat->Int):Int:=sm n fun i=>S4 n fun j k l m=>f i j k l m
def l2 (i j:Nat):Int:=if i<j then 1 else 0
def l3 (i j k:Nat):Int:=if 64*i+8*j+k<64*j+8*k+i/\64*i+8*j+k<64*k+8*i+j then 1 else 0
def l4 (i j k l:Nat):Int:=if 512*i+64*j+8*k+l<512*j+64*k+8*l+i/\512*i+64*j+8*k+l<512*k+64*l+8*i+j/\512*i+64*j+8*k+l<512*l+64*i+8*j+k then 1 else 0
def l5 (i j k l m:Nat):Int:=if 4096*i+512*j+64*k+8*l+m<4096*j+512*k+64*l+8*m+i/\4096*i+512*j+64*k+8*l+m<4096*k+512*l+64*m+8*i+j /\
 4096*i+512*j+64*k+8*l+m<4096*l+512*m+64*i+8*j+k/\4096*i+512*j+64*k+8*l+m<4096*m+512*i+64*j+8*k+l then 1 else 0
include hn in
end
end Go.PV

/-
 Plain laws: what divides numbers of closed walks,in short.
 Conditions: none.
-/
set_option linter.all false
namespace Go.PV
section
variable {n:Nat}
theorem cw2 (B:Nat->Nat->Int):cw n B 2=S2 n fun i j=>B i j*B j i:=ybq fun i hi=>by
 show sm n (fun k=>pw n B 1 i k*B k i)=_
 exact ybq fun k _=>by rw[yrm1 hi]
variable (hn:n<=8)
include hn
end
end Go.PV

/-
 Plain laws: closed walks on both sides.
 Conditions: none.
-/
set_option linter.all false
namespace Go.PV
section
variable {n:Nat} {G:Nat->Nat->Int}
end
end Go.PV

/-
 Plain laws: numbers of cycles.
 Conditions: none.
-/
set_option linter.all false
namespace Go.PV
theorem yvs1 {X Y:Type} {body:X->Option (X ⊕ Y)} (I:X->Prop) (R:Y->Prop) (h:∀ x o,I x->body x=some o->match o with | .inl x'=>I x' | .inr y=>R y) {x0:X} {y:Y} (h0:I x0) (e:loopO body x0=some y):R y:=by
 obtain⟨n,hn⟩:=loopO_some.1 e
 clear e
 induction n generalizing x0 with
 | zero=>cases hn
 | succ n ih =>
  simp only[iterO] at hn;cases hb:body x0 with
  | none=>rw[hb] at hn;cases hn
  | some o =>
   have:=h x0 o h0 hb
   rw[hb] at hn;cases o with
   | inl x'=>exact ih this hn
   | inr y'=>simp only[Option.some.injEq] at hn;subst hn;exact this
def mu (k:Nat):Int:=[0,1, -1, -1,0, -1,1, -1,0,0,1, -1,0].getD k 0
theorem ywa1 {k:Nat} (h1:1<=k) (h2:k<=12):yhn (k:Int)=some (mu k):=by
 have go:∀ (k:Nat) (y:Int ⊕ Int),iterO yvq 20 ((k:Int),1,2)=some y->Sum.elim id id y=mu k->yhn (k:Int)=some (mu k):=fun k y h h3=>by
  unfold yhn;rw[loopO_some.2 ⟨20,h⟩];cases y with
  | inl a=>simp only[Option.bind_some,Sum.elim_inl,id] at h3 ⊢;rw[h3]
  | inr a=>simp only[Option.bind_some,Sum.elim_inr,id,yqn] at h3 ⊢;rw[h3]
 match k,h1,h2 with
 | 1,_,_=>exact go 1 (.inr 1) rfl rfl
 | 2,_,_=>exact go 2 (.inr (-1)) rfl rfl
 | 3,_,_=>exact go 3 (.inr (-1)) rfl rfl
 | 4,_,_=>exact go 4 (.inl 0) rfl rfl
 | 5,_,_=>exact go 5 (.inr (-1)) rfl rfl
 | 6,_,_=>exact go 6 (.inr 1) rfl rfl
 | 7,_,_=>exact go 7 (.inr (-1)) rfl rfl
 | 8,_,_=>exact go 8 (.inl 0) rfl rfl
 | 9,_,_=>exact go 9 (.inl 0) rfl rfl
 | 10,_,_=>exact go 10 (.inr 1) rfl rfl
 | 11,_,_=>exact go 11 (.inr (-1)) rfl rfl
 | 12,_,_=>exact go 12 (.inl 0) rfl rfl
def cyN (c:Nat->Int) (n:Nat):Int:=sm (n+1) fun e=>if n % e=0 then mu (n / e)*c e else 0
theorem yws1 (c:Nat->Int) {n:Nat} (h1:1<=n) (h2:n<=12):sm n (fun e=>if n % e=0 then cyN c e else 0)+cyN c n=c n:=by
 have:n=1\/n=2\/n=3\/n=4\/n=5\/n=6\/n=7\/n=8\/n=9\/n=10\/n=11\/n=12:=by omega
 rcases this with rfl | rfl | rfl | rfl | rfl | rfl | rfl | rfl | rfl | rfl | rfl | rfl <;> (simp[cyN,yyc,yiq,mu] <;> omega)
section
variable {n:Nat} {G:Nat->Nat->Int} (hn:n<=8) (hG:∀ i j,i<n->j<n->0<=G i j/\G i j<=9)
include hn hG
theorem yua2 (d:Nat):0<=cw n G d:=yqy fun i hi=>yjj (fun i j hi hj=>(hG i j hi hj).1) d hi hi
end
end Go.PV

/-
 Plain laws: graphs of coverings,the reference's side;both sides.
 Conditions: none.
-/
set_option linter.all false
namespace Go.PV
section
variable {n m:Nat} {p:Nat->Pt} {q:Nat->Iv}
theorem yhd1 (h:Curve n p) (hm:m<=8) (m1:1<=m) (hq:∀ a,a<m->isIv (q a)=true) {i:Nat} (hi:i<m) :
  loopO (yid (tab n p) (tab m q) (q i)) ([],0)=some (if okI n p (q i)=true then .inr (tab m (cvM n p q i)) else .inl ([],false)):=by
 cases ho:okI n p (q i)
 ·rw[yzf]
  simp only[yid,yxa,show((0:Int)<(m:Int)) from by omega,decide_true,if_true,ypy (show 0<m by omega),Option.bind_some,yof h (hq i hi) (hq 0 (by omega)),ho,Bool.false_eq_true,if_false,Bool.not_false]
 have hx:=yrc (body:=yid (tab n p) (tab m q) (q i)) m (fun j=>(tab j (cvM n p q i),(j:Int))) (.inr (tab m (cvM n p q i))) (fun j hj=>by
  simp only[yid,yxa,show((j:Int)<(m:Int)) from by omega,decide_true,if_true,yma hj,Option.bind_some,yof h (hq i hi) (hq j hj),ho,Bool.not_true,Bool.false_eq_true,if_false,ypg]
  rw[← ygg1 j (cvM n p q i)];cases hc:covI n p (q i) (q j)
  ·have e:cvM n p q i j=0:=by unfold cvM;rw[hc];rfl
   rw[e];simp only[Bool.false_eq_true,if_false];rw[yea (by simp[yxa];omega),yya (show j<9223372036854775807 by omega)]
  ·have e:cvM n p q i j=1:=by unfold cvM;rw[hc];rfl
   rw[e];simp only[if_true];rw[yea (by simp[yxa];omega),yya (show j<9223372036854775807 by omega)]) (by
  simp only[yid,yxa,Int.lt_irrefl,decide_false,Bool.false_eq_true,if_false])
 exact hx
theorem ysz (h:Curve n p) (hm:m<=8) (m1:1<=m) (hq:∀ a,a<m->isIv (q a)=true) :
  (allOk n p m q->loopO (yjd (tab n p) (tab m q)) ([],0)=some (.inr (mat m m (cvM n p q))))/\(¬ allOk n p m q->loopO (yjd (tab n p) (tab m q)) ([],0)=some (.inl ([],false))):=by
 obtain⟨y,e1,e2⟩:=yrq (body:=yjd (tab n p) (tab m q)) (fun x=>∃ i:Nat,i<=m/\x=(tab i (fun a=>tab m (cvM n p q a)),(i:Int))/\∀ a,a<i->okI n p (q a)=true) (fun x=>m-x.2.toNat)
  (fun y=>(allOk n p m q/\y=.inr (mat m m (cvM n p q)))\/(¬ allOk n p m q/\y=.inl ([],false))) (fun x ⟨i,hi,e,hall⟩=>by
  subst e;by_cases hlt:i<m
  ·simp only[yjd,yxa,show((i:Int)<(m:Int)) from by omega,decide_true,if_true,yma hlt,Option.bind_some,yhd1 h hm m1 hq hlt]
   cases ho:okI n p (q i)
   ·right
    refine⟨.inl ([],false),by simp,.inr ⟨fun hh=>?_,rfl⟩⟩
    rw[hh i hlt] at ho;cases ho
   left
   refine⟨(tab (i+1) (fun a=>tab m (cvM n p q a)),((i+1:Nat):Int)),?_,⟨i+1,by omega,rfl,fun a ha=>?_⟩,by simp only[Int.toNat_natCast];omega⟩
   ·simp only[if_true,Sum.elim_inr,yoj,ynj]
    rw[yea (by simp[yxa];omega),yya (show i<9223372036854775807 by omega),← ygg1 i (fun a=>tab m (cvM n p q a))]
   by_cases hai:a=i
   ·subst hai;exact ho
   exact hall a (by omega)
  right
  have:i=m:=by omega
  subst this;exact⟨.inr (tab i (fun a=>tab i (cvM n p q a))),by simp only[yjd,yxa,Int.lt_irrefl,decide_false,Bool.false_eq_true,if_false],.inl ⟨hall,rfl⟩⟩) ([],0) ⟨0,by omega,rfl,fun a ha=>by omega⟩
 rw[e1]
 refine⟨fun hh=>?_,fun hh=>?_⟩
 ·rcases e2 with⟨_,e2⟩ | ⟨e2,_⟩
  ·rw[e2]
  exact absurd hh e2
 rcases e2 with⟨e2,_⟩ | ⟨_,e2⟩
 ·exact absurd e2 hh
 rw[e2]
end
theorem yxa1 (f:List Pt) (l:List Iv) (hf:f.length<=4611686018427387904) (hl:l.length<=4611686018427387904) :
  (yci f l=some ([],false)/\ysc f l=some ([],false))\/∃ (m:Nat) (G:Nat->Nat->Int),1<=m/\m<=8/\(∀ i j,i<m->j<m->0<=G i j/\G i j<=1)/\ycf f=some true/\areIv l=true/\yci f l=some (mat m m G,true)/\ysc f l=some (mat m m G,true):=by
 obtain⟨c,s1,s2,s3⟩:=ykr f hf
 unfold yci ysc
 rw[s1,s2,ysl l hl,ymh l hl]
 cases c
 ·exact .inl ⟨rfl,rfl⟩
 cases ha:areIv l
 ·exact .inl ⟨rfl,rfl⟩
 obtain⟨n,p,rfl,n2,n12,hp⟩:=s3 rfl
 have hc:=Curve.of_map hp n2 n12
 have ha':=ha
 simp only[areIv,Bool.and_eq_true,inB_iff,List.all_eq_true] at ha'
 obtain⟨⟨l1,l8⟩,hall⟩:=ha'
 obtain⟨m,hm⟩:∃ m,l.length=m:=⟨_,rfl⟩
 obtain⟨q,hqd⟩:∃ q:Nat->Iv,∀ i,q i=l.getD i default:=⟨_,fun _=>rfl⟩
 have e:l=tab m q:=by
  have e:=yzl1 l;rw[hm] at e;exact e.trans (yjr fun i _=>(hqd i).symm)
 have hq:∀ a,a<m->isIv (q a)=true:=fun a ha=>by
  refine hall _ ?_
  have:l[a]?=some (q a):=by rw[e,yqx ha]
  exact List.mem_of_getElem? this
 rw[hm] at l1 l8
 subst e
 obtain⟨g1,g2⟩:=ysz hc (show m<=8 by omega) (by omega) hq
 obtain⟨b,F,i1,i2,i3⟩:=yut hc (show m<=8 by omega) hq
 simp only[Option.bind_some,Bool.not_true,Bool.false_eq_true,if_false,yxa,yhj m (by omega),i1,yug]
 by_cases hok:allOk n p m q
 ·right
  obtain⟨b0,hF⟩:=i3 hok;refine⟨m,cvM n p q,by omega,by omega,fun i j _ _=>by unfold cvM;split <;> omega,trivial,trivial,by rw[g1 hok];rfl,?_⟩
  rw[b0];simp only[Bool.false_eq_true,if_false];rw[yqu fun a c ha hc=>hF a c ha hc]
 left
 rw[g2 hok,i2 hok]
 exact⟨rfl,rfl⟩
end Go.PV

/-
 Plain laws: fractions with a value.
 Conditions: none.
-/
set_option linter.all false
namespace Go.PV
theorem ytm1 {a b r:Rt} (ha:isRat a=true) (hb:isRat b=true) (hr:isRat r=true) (h:val r=val a-val b):subQ a b=some r:=by
 have a2:=(isRat_iff.1 ha).1
 have b2:=(isRat_iff.1 hb).1
 have e1:=yvi (r:=a) (by omega)
 have e2:=yvi (r:=b) (by omega)
 refine yex (ynb1 ha hb) hr ?_
 rw[Rat.intCast_sub,Rat.intCast_mul,Rat.intCast_mul,Rat.intCast_mul,← e1,← e2,h]
 grind
theorem ytw1 {a b r:Rt} (ha:isRat a=true) (hb:isRat b=true) (hr:isRat r=true) (h:val r=val a*val b):mulQ a b=some r:=by
 have a2:=(isRat_iff.1 ha).1
 have b2:=(isRat_iff.1 hb).1
 have e1:=yvi (r:=a) (by omega)
 have e2:=yvi (r:=b) (by omega)
 refine yex (ynb1 ha hb) hr ?_
 rw[Rat.intCast_mul,Rat.intCast_mul,← e1,← e2,h]
 grind
theorem ygj1 {n d:Int} (hd:d<0):lowest n d=lowest (-n) (-d):=by
 unfold lowest
 simp only[if_pos hd,if_neg (show ¬ -d<0 by omega),Int.gcd_neg,Int.neg_gcd,Int.tdiv_neg,Int.neg_tdiv]
theorem divQ_val' {a b r:Rt} (ha:isRat a=true) (hb:isRat b=true) (h:divQ a b=some r):val r*val b=val a:=by
 rcases Int.lt_trichotomy 0 b.1 with hp | hp | hp
 ·exact divQ_val ha hb hp h
 ·unfold divQ at h;rw[if_pos hp.symm] at h;cases h
 unfold divQ at h
 rw[if_neg (by omega)] at h
 have a2:=(isRat_iff.1 ha).1
 have b2:=(isRat_iff.1 hb).1
 have hneg:a.2*b.1<0:=Int.mul_neg_of_pos_of_neg (by omega) hp
 have h':lowQ (-(a.1*b.2)) (-(a.2*b.1))=some r:=by
  rw[← h];unfold lowQ;rw[← ygj1 hneg]
 have e:=yoz (show 0 < -(a.2*b.1) by omega) h'
 have e1:=yvi (r:=a) (by omega)
 have e2:=yvi (r:=b) (by omega)
 rw[Rat.intCast_neg,Rat.intCast_neg,Rat.intCast_mul,Rat.intCast_mul,← e1,← e2] at e
 have n1:=ne0 (d:=a.2) (by omega)
 have n2:=ne0 (d:=b.2) (by omega)
 grind
section
variable {n:Nat} {p:Nat->Pt}
theorem yxs1 (h:Curve n p) {j:Nat} (hj:j+1<n) {x y far up:Rt} (hx:isRat x=true) (hy:isRat y=true) (hf:subQ x (p j).1=some far) (hu:subQ y (p j).2=some up) (hm:val (slopeQ (p j) (p (j+1)))*val far=val up):onQ (p j) (p (j+1)) x=some y:=by
 obtain⟨u,v,hs⟩:=h.piece hj
 have q:=yyu hy (h.yr (show j<n by omega)) hu
 unfold onQ
 rw[hf,Option.bind_some,ytw1 hs.rs (yjs hf) (yjs hu) hm.symm,Option.bind_some]
 exact ylw1 (h.yr (by omega)) (yjs hu) hy (by rw[q];grind)
theorem ymp1 (h:Curve n p) {j:Nat} (hj:j<n):atQ n p (p j).1=some (p j).2:=by
 have h2:=h.lo
 have ha:AtJ n p (p j).1 j:=⟨hj,fun k hk=>(yei (yad (h.xr (by omega))) (yad (h.xr hj))).2 (h.xlt hk hj),ysg1⟩
 rw[ylm1 ha]
 rcases Nat.eq_zero_or_pos j with h0 | h0
 ·subst h0
  have z:val (0,1)=0:=by have:=yvi (r:=((0:Int),(1:Int))) (by decide);simpa using this
  exact yxs1 h (j:=0) (by omega) (far:=(0,1)) (up:=(0,1)) (h.xr hj) (h.yr hj) (ytm1 (h.xr hj) (h.xr hj) yrt (by rw[z];grind)) (ytm1 (h.yr hj) (h.yr hj) yrt (by rw[z];grind)) (by rw[z];grind)
 obtain⟨i,rfl⟩:∃ i,j=i+1:=⟨j-1,by omega⟩
 obtain⟨u,v,hs⟩:=h.piece hj
 rw[show i+1-1=i by omega]
 exact yxs1 h hj (h.xr hj) (h.yr hj) hs.far hs.up (divQ_val' hs.ru hs.rv hs.div)
def Crs (p:Nat->Pt) (j:Nat) (y:Rt):Prop:=cmp (p j).2 y*cmp (p (j+1)).2 y<0
theorem yuw1 (h:Curve n p) {j:Nat} (hj:j+1<n) {y:Rt} (hy:isRat y=true) (hc:Crs p j y):(val (p j).2<val y/\val y<val (p (j+1)).2)\/(val (p (j+1)).2<val y/\val y<val (p j).2):=by
 unfold Crs at hc
 rcases yii1 (yad (h.yr (show j<n by omega))) (yad hy) with⟨e1,v1⟩ | ⟨e1,v1⟩ | ⟨e1,v1⟩ <;> rcases yii1 (yad (h.yr hj)) (yad hy) with⟨e2,v2⟩ | ⟨e2,v2⟩ | ⟨e2,v2⟩ <;> rw[e1,e2] at hc <;> first | (exfalso;revert hc;decide) | exact .inl ⟨v1,v2⟩ | exact .inr ⟨v2,v1⟩
theorem yvw1 (h:Curve n p) {j:Nat} (hj:j+1<n) {y x:Rt} (hy:isRat y=true) (hc:Crs p j y) (hb:backQ (p j) (p (j+1)) y=some x):isUnit x=true/\atQ n p x=some y:=by
 obtain⟨u0,v0,hs⟩:=h.piece hj
 obtain⟨u,eu,hb⟩:=Option.bind_eq_some_iff.1 hb
 obtain⟨v,ev,hx⟩:=Option.bind_eq_some_iff.1 hb
 have rx:=ywc1 hx
 have ry0:=h.yr (show j<n by omega)
 have rx0:=h.xr (show j<n by omega)
 have q1:=yyu hy ry0 eu
 have q2:=divQ_val' (yjs eu) hs.rs ev
 have q3:=ynm1 rx0 (yxc1 ev) hx
 have q4:=yyu (h.yr hj) ry0 hs.up
 have q5:=yyu (h.xr hj) rx0 hs.far
 have q6:=divQ_val' hs.ru hs.rv hs.div
 have hxl:=h.xlt (show j<j+1 by omega) hj
 have hfar:subQ x (p j).1=some v:=ytm1 rx rx0 (yxc1 ev) (by rw[q3];grind)
 have hon:=yxs1 h hj rx hy hfar eu (by rw[← q2];grind)
 have b0:=ylr (h.x j (by omega))
 have b1:=ylr (h.x (j+1) hj)
 have key:0<val v/\val v<val v0:=by
  have hv0:0<val v0:=by rw[q5];grind
  have hcr:=yuw1 h hj hy hc;clear hon hfar hb hx ev eu;generalize val (slopeQ (p j) (p (j+1)))=s at *
  generalize val v=t at *
  generalize val v0=d at *
  have dd:∀ a:Rat,0<=s->a<=0->a*s<=0:=fun a h1 h2=>by have:=Rat.mul_nonneg (show 0 <= -a by grind) h1;grind
  have de:∀ a:Rat,s<=0->a<=0->0<=a*s:=fun a h1 h2=>by have:=Rat.mul_nonneg (show 0 <= -a by grind) (show 0 <= -s by grind);grind
  have m1:∀ a:Rat,0<=a->0<=s->0<=a*s:=fun a h1 h2=>Rat.mul_nonneg h1 h2
  have m2:∀ a:Rat,0<=a->s<=0->a*s<=0:=fun a h1 h2=>by have:=Rat.mul_nonneg h1 (show 0 <= -s by grind);grind
  rcases hcr with⟨c1,c2⟩ | ⟨c1,c2⟩
  ·have hs0:0<=s:=by
    rcases Rat.le_total (a:=0) (b:=s) with h1 | h1
    ·exact h1
    have:=m2 d (by grind) h1;grind
   constructor
   ·refine Classical.byContradiction fun hno=>?_
    have:=dd t hs0 (by grind);grind
   refine Classical.byContradiction fun hno=>?_
   have:=m1 (t-d) (by grind) hs0;grind
  have hs0:s<=0:=by
   rcases Rat.le_total (a:=0) (b:=s) with h1 | h1
   ·have:=m1 d (by grind) h1;grind
   exact h1
  constructor
  ·refine Classical.byContradiction fun hno=>?_
   have:=de t hs0 (by grind);grind
  refine Classical.byContradiction fun hno=>?_
  have:=m2 (t-d) (by grind) hs0;grind
 have lo:val (p j).1<val x:=by rw[q3];grind
 have hi:val x<val (p (j+1)).1:=by rw[q3];grind
 have ha:AtJ n p x (j+1):=⟨hj,fun k hk=>(yei (yad (h.xr (by omega))) (yad rx)).2 (by
  rcases Nat.lt_or_ge k j with h' | h'
  ·have:=h.xlt h' (by omega);grind
  have:k=j:=by omega
  subst this;exact lo),(yed (yad (h.xr hj)) (yad rx)).2 (by grind)⟩
 refine⟨(ybx rx).2 ⟨by grind,by grind⟩,?_⟩
 rw[ylm1 ha,show j+1-1=j by omega]
 exact hon
def InB (n:Nat) (p:Nat->Pt) (y x:Rt):Prop:=(∃ j,j<n/\(p j).2=y/\x=(p j).1)\/∃ j,j+1<n/\Crs p j y/\backQ (p j) (p (j+1)) y=some x
def BefOk (n:Nat) (p:Nat->Pt) (y:Rt):Prop:=∀ j,j+1<n->Crs p j y->backQ (p j) (p (j+1)) y≠none
theorem yys1 (h:Curve n p) {y x:Rt} (hy:isRat y=true) (hb:InB n p y x):isUnit x=true/\atQ n p x=some y:=by
 rcases hb with⟨j,hj,e1,e2⟩ | ⟨j,hj,hc,hb⟩
 ·subst e2
  refine⟨(ybx (h.xr hj)).2 (ylr (h.x j hj)),?_⟩
  rw[ymp1 h hj,e1]
 exact yvw1 h hj hy hc hb
end
end Go.PV

/-
 Plain laws: fractions with a value,both sides.
 Conditions: none.
-/
set_option linter.all false
namespace Go.PV
theorem ypq1 (a b c d:Rt):w64 (cmp a b*cmp c d)=cmp a b*cmp c d:=by
 rcases yhi1 a b with h | h | h <;> rcases yhi1 c d with h' | h' | h' <;> rw[h,h'] <;> decide
theorem yqq1 {a b:Rt} (ha:isRat a=true) (hb:isRat b=true):(cmp a b==0)=decide (a=b):=by
 rw[ycm1,Bool.eq_iff_iff,beq_iff_eq,decide_eq_true_iff]
 exact⟨ydm1 ha hb,fun h=>by rw[h]⟩
section
variable {n:Nat} {p:Nat->Pt} {y:Rt}
structure GdB (n:Nat) (p:Nat->Pt) (y:Rt) (l:List Rt) (m:Nat):Prop where
 srt:Srt l
 rats:Rats l
 snd:∀ x∈l,InB n p y x
 len:l.length<=m
theorem InB.rat (h:Curve n p) (hy:isRat y=true) {x:Rt} (hx:InB n p y x):isRat x=true:=by
 have:=(yys1 h hy hx).1
 simp only[isUnit,Bool.and_eq_true] at this
 exact this.1
theorem putG (h:Curve n p) (hy:isRat y=true) {l:List Rt} {m:Nat} {x:Rt} (hg:GdB n p y l m) (hx:InB n p y x) (hm:m<=1000):Tot (ytc l x) fun r=>GdB n p y r (m+1)/\x∈r/\∀ z∈l,z∈r:=by
 have hr:=hx.rat h hy
 refine(yqz hg.srt hg.rats hr (by have:=hg.len;omega)).mono fun r hp=>⟨⟨hp.srt,hp.rats hg.rats hr,fun z hz=>?_,by have:=hp.len;have:=hg.len;omega⟩,(hp.mem x).2 (.inl rfl),fun z hz=>(hp.mem z).2 (.inr hz)⟩
 rcases(hp.mem z).1 hz with rfl | hz
 ·exact hx
 exact hg.snd z hz
structure Cpl (p:Nat->Pt) (y:Rt) (i:Nat) (l:List Rt):Prop where
 a:∀ j,j+1<i->(p j).2=y->(p j).1∈l
 b:∀ j,j+1<i->(p (j+1)).2=y->(p (j+1)).1∈l
 c:∀ j,j+1<i->Crs p j y->∃ x,backQ (p j) (p (j+1)) y=some x/\x∈l
structure Bef (n:Nat) (p:Nat->Pt) (y:Rt) (l:List Rt):Prop where
 srt:Srt l
 rats:Rats l
 mem:∀ x,x∈l↔InB n p y x
 len:l.length<=100
theorem yqb1 (h:Curve n p) (hy:isRat y=true):Tot (yhl (tab n p) y) fun r=>(¬ BefOk n p y/\r=([],false))\/(BefOk n p y/\r.2=true/\Bef n p y r.1):=by
 have h2:=h.lo
 have h12:=h.hi
 unfold yhl
 refine Tot.bind (P:=fun r:(List Rt×Bool) ⊕ List Rt=>match r with
  | .inl z=>¬ BefOk n p y/\z=([],false)
  | .inr l=>BefOk n p y/\Bef n p y l) ?_ (fun r hr=>?_)
 ·refine Tot.loop (fun x:List Rt×Int=>∃ i:Nat,x.2=(i:Int)/\1<=i/\i<=n/\GdB n p y x.1 (3*i)/\Cpl p y i x.1) (fun x=>n-x.2.toNat) (fun x ⟨i,e,i1,i2,hg,hc⟩=>?_) ([],1) ⟨1,rfl,by omega,by omega,⟨List.Pairwise.nil,fun x hx=>by simp at hx,fun x hx=>by simp at hx,by simp⟩,⟨fun j hj=>by omega,fun j hj=>by omega,fun j hj=>by omega⟩⟩
  obtain⟨l,x2⟩:=x;simp only at e hg hc
  subst e;unfold ywp;rw[yxa];rcases Nat.lt_or_ge i n with hi | hi
  ·obtain⟨j,rfl⟩:∃ j,i=j+1:=⟨i-1,by omega⟩
   simp only[show(((j+1:Nat):Int)<(n:Int)) from by omega,decide_true,if_true,yho (show 0<j+1 by omega) (show j+1<4611686018427387904 by omega),show j+1-1=j by omega,yma (show j<n by omega),yma hi,Option.bind_some,ymb _ _ (ylb (h.yr (show j<n by omega))) (ylb hy),ymb _ _ (ylb (h.yr hi)) (ylb hy),yqq1 (h.yr (show j<n by omega)) hy]
   have k3:∀ l2:List Rt,GdB n p y l2 (3*(j+1)+2)->(∀ z∈l,z∈l2)->((p j).2=y->(p j).1∈l2)->((p (j+1)).2=y->(p (j+1)).1∈l2)->Tot (ywg y (l,((j+1:Nat):Int)) (p j) (p (j+1)) (cmp (p j).2 y) (cmp (p (j+1)).2 y) l2) (Lp (fun x':List Rt×Int=>(∃ i:Nat,x'.2=(i:Int)/\1<=i/\i<=n/\GdB n p y x'.1 (3*i)/\Cpl p y i x'.1)/\n-x'.2.toNat<n-((j+1:Nat):Int).toNat) (fun r:(List Rt×Bool) ⊕ List Rt=>match r with
  | .inl z=>¬ BefOk n p y/\z=([],false)
  | .inr l=>BefOk n p y/\Bef n p y l)):=by
    intro l2 g2 s2 ha hb;unfold ywg;simp only[ypq1];have stp:∀ l3:List Rt,GdB n p y l3 (3*(j+1)+3)->(∀ z∈l2,z∈l3)->(Crs p j y->∃ x,backQ (p j) (p (j+1)) y=some x/\x∈l3)->Cpl p y (j+2) l3:=by
     intro l3 g3 s3 hcr;refine⟨fun k hk e=>?_,fun k hk e=>?_,fun k hk e=>?_⟩
     ·rcases Nat.lt_or_ge k j with q | q
      ·exact s3 _ (s2 _ (hc.a k (by omega) e))
      have:k=j:=by omega
      subst this;exact s3 _ (ha e)
     ·rcases Nat.lt_or_ge k j with q | q
      ·exact s3 _ (s2 _ (hc.b k (by omega) e))
      have:k=j:=by omega
      subst this;exact s3 _ (hb e)
     rcases Nat.lt_or_ge k j with q | q
     ·obtain⟨x,e1,e2⟩:=hc.c k (by omega) e
      exact⟨x,e1,s3 _ (s2 _ e2)⟩
     have:k=j:=by omega
     subst this;exact hcr e
    have out:∀ l3:List Rt,GdB n p y l3 (3*(j+1)+3)->Cpl p y (j+2) l3->(∃ i:Nat,(l3,w64 (((j+1:Nat):Int)+1)).2=(i:Int)/\1<=i/\i<=n/\GdB n p y (l3,w64 (((j+1:Nat):Int)+1)).1 (3*i)/\Cpl p y i (l3,w64 (((j+1:Nat):Int)+1)).1)/\n-(l3,w64 (((j+1:Nat):Int)+1)).2.toNat<n-((j+1:Nat):Int).toNat:=by
     intro l3 g3 c3;refine⟨⟨j+2,yya (show j+1<9223372036854775807 by omega),by omega,by omega,g3,c3⟩,?_⟩
     simp only[yya (show j+1<9223372036854775807 by omega)];omega
    refine Tot.ite (fun q=>?_) (fun q=>?_)
    ·have q:¬ Crs p j y:=by have:=of_decide_eq_true q;unfold Crs;omega
     have g3:GdB n p y l2 (3*(j+1)+3):=⟨g2.srt,g2.rats,g2.snd,by have:=g2.len;omega⟩
     exact Tot.inl (out l2 g3 (stp l2 g3 (fun z hz=>hz) fun hh=>absurd hh q))
    have q:Crs p j y:=by have:=of_decide_eq_false q;unfold Crs;omega
    rw[yad1 h hi hy,Option.bind_some];cases hb':backQ (p j) (p (j+1)) y with
    | none =>
     simp only[unO,Bool.not_false,if_true];exact Tot.inr ⟨fun hh=>hh j hi q hb',rfl⟩
    | some x =>
     simp only[unO,Bool.not_true,Bool.false_eq_true,if_false];refine(putG h hy g2 (.inr ⟨j,hi,q,hb'⟩) (by omega)).bind fun l3 ⟨g3,m3,s3⟩=>Tot.inl (out l3 g3 (stp l3 g3 s3 fun _=>⟨x,hb',m3⟩))
   have k2:∀ l1:List Rt,GdB n p y l1 (3*(j+1)+1)->(∀ z∈l,z∈l1)->((p j).2=y->(p j).1∈l1)->Tot (yxg y (l,((j+1:Nat):Int)) (p j) (p (j+1)) (cmp (p j).2 y) (cmp (p (j+1)).2 y) l1) (Lp (fun x':List Rt×Int=>(∃ i:Nat,x'.2=(i:Int)/\1<=i/\i<=n/\GdB n p y x'.1 (3*i)/\Cpl p y i x'.1)/\n-x'.2.toNat<n-((j+1:Nat):Int).toNat) (fun r:(List Rt×Bool) ⊕ List Rt=>match r with
  | .inl z=>¬ BefOk n p y/\z=([],false)
  | .inr l=>BefOk n p y/\Bef n p y l)):=by
    intro l1 g1 s1 ha;unfold yxg;rw[yqq1 (h.yr hi) hy];refine Tot.ite (fun q=>?_) (fun q=>?_)
    ·have q:=of_decide_eq_true q
     exact(putG h hy g1 (.inl ⟨j+1,hi,q,rfl⟩) (by omega)).bind fun l2 ⟨g2,m2,s2⟩=>k3 l2 g2 (fun z hz=>s2 z (s1 z hz)) (fun e=>s2 _ (ha e)) fun _=>m2
    have q:=of_decide_eq_false q;exact k3 l1 ⟨g1.srt,g1.rats,g1.snd,by have:=g1.len;omega⟩ s1 ha fun e=>absurd e q
   refine Tot.ite (fun q=>?_) (fun q=>?_)
   ·have q:=of_decide_eq_true q
    exact(putG h hy hg (.inl ⟨j,by omega,q,rfl⟩) (by omega)).bind fun l1 ⟨g1,m1,s1⟩=>k2 l1 g1 s1 fun _=>m1
   have q:=of_decide_eq_false q;exact k2 l ⟨hg.srt,hg.rats,hg.snd,by have:=hg.len;omega⟩ (fun z hz=>hz) fun e=>absurd e q
  ·have:i=n:=by omega
   subst this;simp only[Int.lt_irrefl,decide_false,Bool.false_eq_true,if_false];refine Tot.inr ⟨fun j hj hcr=>?_,hg.srt,hg.rats,fun x=>⟨hg.snd x,fun hx=>?_⟩,by have:=hg.len;omega⟩
   ·obtain⟨x,e,_⟩:=hc.c j hj hcr
    rw[e];simp
   rcases hx with⟨j,hj,e1,e2⟩ | ⟨j,hj,hcr,hb⟩
   ·subst e2
    rcases Nat.lt_or_ge (j+1) i with q | q
    ·exact hc.a j q e1
    obtain⟨k,rfl⟩:∃ k,j=k+1:=⟨j-1,by omega⟩
    exact hc.b k (by omega) e1
   obtain⟨x',e,hm⟩:=hc.c j hj hcr;rw[hb] at e;cases e;exact hm
 cases r with
 | inl z=>exact Tot.ret (.inl hr)
 | inr l=>exact Tot.ret (.inr ⟨hr.1,rfl,hr.2⟩)
theorem yrb1 (h:Curve n p) (hy:isRat y=true) (bad:Bool):Tot (yvg bad (tab n p) y) fun r=>r.1.length<=100/\Rats r.1/\(bad=true->r.2=true)/\(¬ BefOk n p y->r.2=true)/\(BefOk n p y->r.2=bad/\Bef n p y r.1):=by
 have h2:=h.lo
 have h12:=h.hi
 unfold yvg
 refine Tot.bind (P:=fun r:Bool×List Rt=>r.2.length<=100/\Rats r.2/\(bad=true->r.1=true)/\(¬ BefOk n p y->r.1=true)/\(BefOk n p y->r.1=bad/\∀ x,x∈r.2↔InB n p y x)) ?_ (fun r ⟨r1,r2,r3,r4,r5⟩=>?_)
 ·refine Tot.loop (fun x:Bool×List Rt×Int=>∃ i:Nat,x.2.2=(i:Int)/\i<=n/\x.2.1.length<=3*i/\Rats x.2.1/\(bad=true->x.1=true)/\((∃ j,j+1<i/\Crs p j y/\backQ (p j) (p (j+1)) y=none)->x.1=true)/\((∀ j,j+1<i->Crs p j y->backQ (p j) (p (j+1)) y≠none)->x.1=bad/\(∀ z∈x.2.1,InB n p y z)/\(∀ j,j<i->(p j).2=y->(p j).1∈x.2.1)/\∀ j,j+1<i->Crs p j y->∃ z,backQ (p j) (p (j+1)) y=some z/\z∈x.2.1)) (fun x=>n-x.2.2.toNat) (fun x ⟨i,e,i2,hl,hr,hb,hbad,hgood⟩=>?_) (bad,[],0) ⟨0,rfl,by omega,by simp,fun x hx=>by simp at hx,fun q=>q,fun ⟨j,hj,_⟩=>by omega,fun _=>⟨rfl,fun z hz=>by simp at hz,fun j hj=>by omega,fun j hj=>by omega⟩⟩
  obtain⟨b,l,x2⟩:=x;simp only at e hl hr hb hbad hgood
  subst e;unfold ymm;rw[yxa];rcases Nat.lt_or_ge i n with hi | hi
  ·simp only[show((i:Int)<(n:Int)) from by omega,decide_true,if_true,yma hi,Option.bind_some]
   have k2:∀ l1:List Rt,l1.length<=3*i+1->Rats l1->(∀ z∈l,z∈l1)->(∀ z∈l1,z∈l\/(z=(p i).1/\(p i).2=y))->((p i).2=y->(p i).1∈l1)->Tot (ypd (tab n p) y (b,l,(i:Int)) (p i) l1) (Lp (fun x:Bool×List Rt×Int=>(∃ i:Nat,x.2.2=(i:Int)/\i<=n/\x.2.1.length<=3*i/\Rats x.2.1/\(bad=true->x.1=true)/\((∃ j,j+1<i/\Crs p j y/\backQ (p j) (p (j+1)) y=none)->x.1=true)/\((∀ j,j+1<i->Crs p j y->backQ (p j) (p (j+1)) y≠none)->x.1=bad/\(∀ z∈x.2.1,InB n p y z)/\(∀ j,j<i->(p j).2=y->(p j).1∈x.2.1)/\∀ j,j+1<i->Crs p j y->∃ z,backQ (p j) (p (j+1)) y=some z/\z∈x.2.1))/\n-x.2.2.toNat<n-((i:Int)).toNat)
     (fun r:Bool×List Rt=>r.2.length<=100/\Rats r.2/\(bad=true->r.1=true)/\(¬ BefOk n p y->r.1=true)/\(BefOk n p y->r.1=bad/\∀ x,x∈r.2↔InB n p y x))):=by
    intro l1 g1 r1 s1 t1 v1;have hw:w64 ((i:Int)+1)=((i+1:Nat):Int):=yya (by omega)
    have snd1:∀ z∈l1,(∀ z∈l,InB n p y z)->InB n p y z:=fun z hz hs=>by
     rcases t1 z hz with q | ⟨q,q'⟩
     ·exact hs z q
     exact .inl ⟨i,hi,q',q⟩
    have ver1:(∀ j,j<i->(p j).2=y->(p j).1∈l)->∀ j,j<i+1->(p j).2=y->(p j).1∈l1:=fun hs j hj e=>by
     rcases Nat.lt_or_ge j i with q | q
     ·exact s1 _ (hs j q e)
     have:j=i:=by omega
     subst this;exact v1 e
    unfold ypd;have stay:(∀ j,j+1=i->¬ Crs p j y)->Tot (some (Sum.inl (b,l1,w64 ((i:Int)+1))):Option ((Bool×List Rt×Int) ⊕ (Bool×List Rt))) (Lp (fun x:Bool×List Rt×Int=>(∃ i:Nat,x.2.2=(i:Int)/\i<=n/\x.2.1.length<=3*i/\Rats x.2.1/\(bad=true->x.1=true)/\((∃ j,j+1<i/\Crs p j y/\backQ (p j) (p (j+1)) y=none)->x.1=true)/\((∀ j,j+1<i->Crs p j y->backQ (p j) (p (j+1)) y≠none)->x.1=bad/\(∀ z∈x.2.1,InB n p y z)/\(∀ j,j<i->(p j).2=y->(p j).1∈x.2.1)/\∀ j,j+1<i->Crs p j y->∃ z,backQ (p j) (p (j+1)) y=some z/\z∈x.2.1))/\n-x.2.2.toNat<n-((i:Int)).toNat)
     (fun r:Bool×List Rt=>r.2.length<=100/\Rats r.2/\(bad=true->r.1=true)/\(¬ BefOk n p y->r.1=true)/\(BefOk n p y->r.1=bad/\∀ x,x∈r.2↔InB n p y x))):=by
     intro hno;refine Tot.inl ⟨⟨i+1,hw,by omega,by show l1.length<=_;omega,r1,hb,fun ⟨j,hj,hc,e⟩=>?_,fun hall=>?_⟩,by simp only[hw];omega⟩
     ·rcases Nat.lt_or_ge (j+1) i with q | q
      ·exact hbad ⟨j,q,hc,e⟩
      exact absurd hc (hno j (by omega))
     obtain⟨a1,a2,a3,a4⟩:=hgood fun j hj=>hall j (by omega)
     refine⟨a1,fun z hz=>snd1 z hz a2,ver1 a3,fun j hj hc=>?_⟩
     rcases Nat.lt_or_ge (j+1) i with q | q
     ·obtain⟨z,e1,e2⟩:=a4 j q hc
      exact⟨z,e1,s1 _ e2⟩
     exact absurd hc (hno j (by omega))
    rcases Nat.eq_zero_or_pos i with h0 | h0
    ·subst h0
     simp only[show ¬ (((0:Nat):Int)>0) from by omega,decide_false,Bool.false_eq_true,if_false,Option.bind_some];exact stay fun j hj=>by omega
    obtain⟨j,rfl⟩:∃ j,i=j+1:=⟨i-1,by omega⟩
    simp only[show(((j+1:Nat):Int)>0) from by omega,decide_true,if_true,yho (show 0<j+1 by omega) (show j+1<4611686018427387904 by omega),show j+1-1=j by omega,yma (show j<n by omega),Option.bind_some,ypn _ _ (ylb (h.yr (show j<n by omega))) (ylb hy),ypn _ _ (ylb (h.yr hi)) (ylb hy),ypq1]
    refine Tot.ite (fun q=>?_) (fun q=>?_)
    ·have q:Crs p j y:=by have:=of_decide_eq_true q;exact this
     obtain⟨v,e0,hv⟩:=yqg1 h hi hy b;rw[e0,Option.bind_some];refine Tot.guard (by simp;omega) (Tot.inl ?_)
     simp only[hw];refine⟨⟨j+1+1,rfl,by omega,by simp;omega,?_,fun q'=>?_,fun ⟨k,hk,hc,e⟩=>?_,fun hall=>?_⟩,by omega⟩
     ·intro z hz
      rcases List.mem_append.1 hz with q' | q'
      ·exact r1 z q'
      rw[List.mem_singleton.1 q'];exact hv.1
     ·have:=hb q'
      subst this;exact ykm1 hv
     ·rcases Nat.lt_or_ge k j with q' | q'
      ·have:=hbad ⟨k,by omega,hc,e⟩
       subst this;exact ykm1 hv
      have:k=j:=by omega
      subst this;have:=hv.2
      rw[e] at this;exact this
     obtain⟨a1,a2,a3,a4⟩:=hgood fun k hk=>hall k (by omega)
     cases hb':backQ (p j) (p (j+1)) y with
     | none=>exact absurd hb' (hall j (by omega) q)
     | some x =>
      have hv2:=hv.2;rw[hb'] at hv2;simp only at hv2
      subst hv2;refine⟨a1,fun z hz=>?_,fun k hk e=>List.mem_append_left _ (ver1 a3 k hk e),fun k hk hc=>?_⟩
      ·rcases List.mem_append.1 hz with q' | q'
       ·exact snd1 z q' a2
       rw[List.mem_singleton.1 q'];exact .inr ⟨j,hi,q,hb'⟩
      rcases Nat.lt_or_ge k j with q' | q'
      ·obtain⟨z,e1,e2⟩:=a4 k (by omega) hc
       exact⟨z,e1,List.mem_append_left _ (s1 _ e2)⟩
      have:k=j:=by omega
      subst this;exact⟨x,hb',by simp⟩
    have q:¬ Crs p j y:=by have:=of_decide_eq_false q;exact this
    exact stay fun k hk=>by have:k=j:=(by omega);subst this;exact q
   refine Tot.ite (fun q=>?_) (fun q=>?_)
   ·have q:(p i).2=y:=by
     simp only[Bool.and_eq_true,beq_iff_eq] at q;exact Prod.ext q.1 q.2
    refine Tot.guard (by simp;omega) (k2 _ (by simp;omega) ?_ (fun z hz=>List.mem_append_left _ hz) (fun z hz=>?_) fun _=>by simp)
    ·intro z hz
     rcases List.mem_append.1 hz with q' | q'
     ·exact hr z q'
     rw[List.mem_singleton.1 q'];exact h.xr hi
    rcases List.mem_append.1 hz with q' | q'
    ·exact .inl q'
    exact .inr ⟨List.mem_singleton.1 q',q⟩
   refine k2 l (by omega) hr (fun z hz=>hz) (fun z hz=>.inl hz) fun e=>?_
   rw[e] at q;simp at q
  have:i=n:=by omega
  subst this;simp only[Int.lt_irrefl,decide_false,Bool.false_eq_true,if_false];refine Tot.inr ⟨by show l.length<=100;omega,hr,hb,fun hno=>?_,fun hok=>?_⟩
  ·refine Classical.byContradiction fun hq=>hno fun j hj hc e=>hq (hbad ⟨j,hj,hc,e⟩)
  obtain⟨a1,a2,a3,a4⟩:=hgood hok;refine⟨a1,fun x=>⟨a2 x,fun hx=>?_⟩⟩
  rcases hx with⟨j,hj,e1,e2⟩ | ⟨j,hj,hc,e⟩
  ·subst e2;exact a3 j hj e1
  obtain⟨z,e1,e2⟩:=a4 j hj hc;rw[e] at e1;cases e1;exact e2
 unfold yki
 refine(ymi1 r2 (by omega)).bind fun l ⟨l1,l2,l3⟩=>Tot.ret ?_
 have hrl:Rats l:=fun x hx=>r2 x ((l2 x).1 hx)
 exact⟨by show l.length<=100;omega,hrl,r3,r4,fun hok=>⟨(r5 hok).1,l1,hrl,fun x=>by rw[l2,(r5 hok).2 x],by show l.length<=100;omega⟩⟩
end
end Go.PV

/-
 Plain laws: intervals shrunk to what is mapped onto another one.
 Conditions: none.
-/
set_option linter.all false
namespace Go.PV
theorem yrq1 {X Y:Type} {w:List Rt} (c:Rt->Bool) (S:List Rt->Nat->X) (out:List Rt->Y) {body:X->Option (X ⊕ Y)} (l0:List Rt)
  (hb:∀ l m (h:m<w.length),l.length<=l0.length+w.length->body (S l m)=some (.inl (if c w[m]=true then S (l++[w[m]]) (m+1) else S l (m+1)))) (he:∀ l,body (S l w.length)=some (.inr (out l))) :
  loopO body (S l0 0)=some (out (l0++w.filter c)):=by
 have:=yrc (body:=body) w.length (fun m=>S (l0++(w.take m).filter c) m) (out (l0++w.filter c)) (fun m hm=>?_) ?_
 ·simpa using this
 ·have hl:((w.take m).filter c).length<=w.length:=Nat.le_trans (List.length_filter_le _ _) (by simp;omega)
  rw[hb _ m hm (by rw[List.length_append];omega),List.take_succ_eq_append_getElem hm,List.filter_append]
  cases hc:c w[m] with
  | true=>simp[hc]
  | false=>simp[hc]
 show body (S (l0++(w.take w.length).filter c) w.length)=_
 rw[List.take_length,he]
theorem ysq1 {w:List Rt} (c:Rt->Bool) {body:List Rt×Int->Option ((List Rt×Int) ⊕ List Rt)} (l0:List Rt) (hs:Srt l0) (hr:Rats l0) (hw:Rats w) (hn:l0.length+w.length<=1000)
  (hb:∀ l (m:Nat) (h:m<w.length),body (l,(m:Int))=if c w[m]=true then(ytc l w[m]).bind fun v=>some (.inl (v,((m+1:Nat):Int))) else some (.inl (l,((m+1:Nat):Int)))) (he:∀ l,body (l,(w.length:Int))=some (.inr l)) :
  Tot (loopO body (l0,0)) fun r=>Srt r/\Rats r/\(∀ x,x∈r↔x∈l0\/(x∈w/\c x=true))/\r.length<=l0.length+w.length:=by
 refine Tot.loop (fun x:List Rt×Int=>∃ m:Nat,x.2=(m:Int)/\m<=w.length/\Srt x.1/\Rats x.1/\(∀ z,z∈x.1↔z∈l0\/(z∈w.take m/\c z=true))/\x.1.length<=l0.length+m) (fun x=>w.length-x.2.toNat) (fun x ⟨m,e,hm,g1,g2,g3,g4⟩=>?_) (l0,0) ⟨0,rfl,by omega,hs,hr,fun z=>by simp,by simp⟩
 obtain⟨l,x2⟩:=x
 simp only at e g1 g2 g3 g4
 subst e
 rcases Nat.lt_or_ge m w.length with h | h
 ·rw[hb l m h]
  refine Tot.ite (fun q=>?_) (fun q=>?_)
  ·have rx:=hw _ (List.getElem_mem h)
   refine(yqz g1 g2 rx (by omega)).bind fun v hp=>Tot.inl ⟨⟨m+1,rfl,by omega,hp.srt,hp.rats g2 rx,fun z=>?_,by have:=hp.len;show v.length<=_;omega⟩,by show w.length-((m+1:Nat):Int).toNat<w.length-(m:Int).toNat;omega⟩
   show z∈v↔_
   rw[hp.mem,g3,List.take_succ_eq_append_getElem h,List.mem_append,List.mem_singleton];constructor
   ·rintro(e | e | ⟨e,e'⟩)
    ·subst e;exact .inr ⟨.inr rfl,q⟩
    ·exact .inl e
    exact .inr ⟨.inl e,e'⟩
   rintro(e | ⟨e | e,e'⟩)
   ·exact .inr (.inl e)
   ·exact .inr (.inr ⟨e,e'⟩)
   exact .inl e
  refine Tot.inl ⟨⟨m+1,rfl,by omega,g1,g2,fun z=>?_,by show l.length<=_;omega⟩,by show w.length-((m+1:Nat):Int).toNat<w.length-(m:Int).toNat;omega⟩
  show z∈l↔_
  rw[g3,List.take_succ_eq_append_getElem h,List.mem_append,List.mem_singleton];constructor
  ·rintro(e | ⟨e,e'⟩)
   ·exact .inl e
   exact .inr ⟨.inl e,e'⟩
  rintro(e | ⟨e | e,e'⟩)
  ·exact .inl e
  ·exact .inr ⟨e,e'⟩
  subst e;rw[q] at e';cases e'
 have:m=w.length:=by omega
 subst this
 rw[he]
 exact Tot.inr ⟨g1,g2,fun x=>by rw[g3,List.take_length],g4⟩
section
variable {n:Nat} {p:Nat->Pt}
noncomputable def isE (n:Nat) (p:Nat->Pt) (k:Iv) (x:Rt):Bool:=decide (atQ n p x=some k.1)||decide (atQ n p x=some k.2)
def inI (i:Iv) (x:Rt):Bool:= !less x i.1 && !less i.2 x
structure Plc (n:Nat) (p:Nat->Pt) (i k:Iv) (L:List Rt):Prop where
 srt:Srt L
 rats:Rats L
 mem:∀ x,x∈L↔((InB n p k.1 x\/InB n p k.2 x)/\inI i x=true)\/((x=i.1\/x=i.2)/\isE n p k x=true)
 len:L.length<=1000
theorem Plc.same {i k:Iv} {L M:List Rt} (h1:Plc n p i k L) (h2:Plc n p i k M):L=M:=yki1 h1.srt h2.srt h1.rats h2.rats fun x=>by rw[h1.mem,h2.mem]
structure PlcX (n:Nat) (p:Nat->Pt) (i k:Iv) (x:Rt):Prop where
 unit:isUnit x=true
 at':atQ n p x=some k.1\/atQ n p x=some k.2
 lo:less x i.1=false
 hi:less i.2 x=false
theorem Plc.el (h:Curve n p) {i k:Iv} (hi:isIv i=true) (hk:isIv k=true) {L:List Rt} (hL:Plc n p i k L) {x:Rt} (hx:x∈L):PlcX n p i k x:=by
 obtain⟨u1,u2,r1,r2⟩:=ybd hi
 obtain⟨_,_,k1,k2⟩:=ybd hk
 have hlt:less i.1 i.2=true:=by simp only[isIv,Bool.and_eq_true] at hi;exact hi.2
 rcases(hL.mem x).1 hx with⟨hb,hin⟩ | ⟨he,hE⟩
 ·simp only[inI,Bool.and_eq_true,Bool.not_eq_true'] at hin
  rcases hb with hb | hb
  ·have:=yys1 h k1 hb;exact⟨this.1,.inl this.2,hin.1,hin.2⟩
  have:=yys1 h k2 hb;exact⟨this.1,.inr this.2,hin.1,hin.2⟩
 simp only[isE,Bool.or_eq_true,decide_eq_true_iff] at hE
 rcases he with e | e
 ·subst e;exact⟨u1,hE,ysg1,yji1 r1 r2 hlt⟩
 subst e;exact⟨u2,hE,yji1 r1 r2 hlt,ysg1⟩
noncomputable def vl (n:Nat) (p:Nat->Pt) (x:Rt):Rt:=(atQ n p x).getD (0,0)
noncomputable def dif (n:Nat) (p:Nat->Pt) (e:Iv):Bool:=decide (vl n p e.1≠vl n p e.2)
noncomputable def fdi (n:Nat) (p:Nat->Pt) (L:List Rt):Option Iv:=match(L.zip L.tail).findIdx? (dif n p) with
 | some m=>some ((L.zip L.tail).getD m ((0,0),(0,0)))
 | none=>none
theorem ycf1 {L:List Rt} {m:Nat} {x:Iv} (h:(L.zip L.tail)[m]?=some x):∃ (h1:m+1<L.length),x=(L[m],L[m+1]):=by
 obtain⟨h1,h2⟩:=List.getElem?_eq_some_iff.1 h
 have hl:m+1<L.length:=by
  rw[List.length_zip,List.length_tail] at h1;omega
 refine⟨hl,?_⟩
 rw[← h2,List.getElem_zip,List.getElem_tail]
theorem ysb1 (L:List Rt):(L.zip L.tail).length=L.length-1:=by rw[List.length_zip,List.length_tail];omega
theorem yzs1 {L:List Rt} {j:Iv} (h:fdi n p L=some j):∃ m,∃ (h1:m+1<L.length),j=(L[m],L[m+1])/\vl n p j.1≠vl n p j.2:=by
 unfold fdi at h
 cases hf:(L.zip L.tail).findIdx? (dif n p) with
 | none=>rw[hf] at h;cases h
 | some m =>
  rw[hf] at h;obtain⟨h1,h2,_⟩:=List.findIdx?_eq_some_iff_getElem.1 hf
  have e:(L.zip L.tail).getD m ((0,0),(0,0))=(L.zip L.tail)[m]:=by rw[List.getD_eq_getElem?_getD,List.getElem?_eq_getElem h1];rfl
  simp only[Option.some.injEq] at h;obtain⟨h3,h4⟩:=ycf1 (List.getElem?_eq_getElem h1)
  refine⟨m,h3,?_,?_⟩
  ·rw[← h,e,h4]
  rw[← h,e];exact of_decide_eq_true h2
theorem yhj1 (h:Curve n p) {i k:Iv} (hi:isIv i=true) (hk:isIv k=true) {L:List Rt} (hL:Plc n p i k L):ycj (tab n p) L=some (match fdi n p L with | some j=>(j,true) | none=>(((0,0),(0,0)),false)):=by
 have hlen:=hL.len
 have key:=yir (xs:=L.zip L.tail) (body:=yzg (tab n p) L) (dif n p) (fun m=>((m+1:Nat):Int)) (fun m=>.inl ((L.zip L.tail).getD m ((0,0),(0,0)),true)) (.inr ()) (fun m x hx=>?_) ?_
 ·unfold ycj
  have key':loopO (yzg (tab n p) L) 1=_:=key
  rw[key',Option.bind_some];unfold fdi ytm
  cases (L.zip L.tail).findIdx? (dif n p) <;> rfl
 ·obtain⟨h1,e⟩:=ycf1 hx
  have g:=List.getElem?_eq_some_iff.1 hx
  have eg:(L.zip L.tail).getD m ((0,0),(0,0))=x:=by rw[List.getD_eq_getElem?_getD,hx];rfl
  have p1:=hL.el h hi hk (List.getElem_mem (show m<L.length by omega))
  have p2:=hL.el h hi hk (List.getElem_mem h1)
  unfold yzg;simp only[show(((m+1:Nat):Int)<(L.length:Int)) from by omega,decide_true,if_true,yho (show 0<m+1 by omega) (show m+1<4611686018427387904 by omega),show m+1-1=m by omega,ybk (show m<L.length by omega),ybk h1,Option.bind_some,yob1 h p1.unit,yob1 h p2.unit,eg,yya (show m+1<9223372036854775807 by omega)]
  have v1:(unO (atQ n p L[m])).1=vl n p L[m]:=by
   unfold vl;rcases p1.at' with q | q <;> rw[q] <;> rfl
  have v2:(unO (atQ n p L[m+1])).1=vl n p L[m+1]:=by
   unfold vl;rcases p2.at' with q | q <;> rw[q] <;> rfl
  simp only[v1,v2,e];unfold dif;by_cases q:vl n p L[m]=vl n p L[m+1]
  ·simp[q]
  have:¬ ((vl n p L[m]).1=(vl n p L[m+1]).1/\(vl n p L[m]).2=(vl n p L[m+1]).2):=fun hh=>q (Prod.ext hh.1 hh.2)
  rw[if_pos (by rw[Bool.not_eq_true',Bool.and_eq_false_iff];simp only[beq_eq_false_iff_ne,ne_eq];omega)]
  simp[q]
 rw[ysb1]
 unfold yzg
 simp only[show ¬ (((L.length-1+1:Nat):Int)<(L.length:Int)) from by omega,decide_false,Bool.false_eq_true,if_false]
theorem yij1 (h:Curve n p) {i k:Iv} (hi:isIv i=true) (hk:isIv k=true) {L:List Rt} (hL:Plc n p i k L):∃ v,(loopO (yzb (tab n p) L) (false,1)).bind (fun y6=>(Sum.elim (fun p=>some p) (fun p=>ytf p)) y6)=some v/\(match fdi n p L with | some j=>v=(j,false) | none=>v.2=true):=by
 have hlen:=hL.len
 have key:=yir (xs:=L.zip L.tail) (body:=yzb (tab n p) L) (dif n p) (fun m=>(false,((m+1:Nat):Int))) (fun m=>.inl ((L.zip L.tail).getD m ((0,0),(0,0)),false)) (.inr false) (fun m x hx=>?_) ?_
 ·have key':loopO (yzb (tab n p) L) (false,1)=_:=key
  rw[key',Option.bind_some];unfold fdi ytf
  cases (L.zip L.tail).findIdx? (dif n p) with
  | some m=>exact⟨_,rfl,rfl⟩
  | none=>exact⟨_,rfl,rfl⟩
 ·obtain⟨h1,e⟩:=ycf1 hx
  have eg:(L.zip L.tail).getD m ((0,0),(0,0))=x:=by rw[List.getD_eq_getElem?_getD,hx];rfl
  have p1:=hL.el h hi hk (List.getElem_mem (show m<L.length by omega))
  have p2:=hL.el h hi hk (List.getElem_mem h1)
  have ev:∀ x:Rt,PlcX n p i k x->yoc false (tab n p) x=some (vl n p x,false):=by
   intro x hx;obtain⟨v,e1,e2⟩:=yfi1 h hx.unit false;rw[e1];have e2:=e2.2;unfold vl;rcases hx.at' with q | q <;> rw[q] at e2 ⊢ <;> simp only at e2 <;> rw[e2] <;> rfl
  unfold yzb;simp only[show(((m+1:Nat):Int)<(L.length:Int)) from by omega,decide_true,Bool.not_false,Bool.and_self,if_true,yho (show 0<m+1 by omega) (show m+1<4611686018427387904 by omega),show m+1-1=m by omega,ybk (show m<L.length by omega),ybk h1,Option.bind_some,ev _ p1,ev _ p2,eg,yya (show m+1<9223372036854775807 by omega),e]
  unfold dif;by_cases q:vl n p L[m]=vl n p L[m+1]
  ·simp[q]
  have:¬ ((vl n p L[m]).1=(vl n p L[m+1]).1/\(vl n p L[m]).2=(vl n p L[m+1]).2):=fun hh=>q (Prod.ext hh.1 hh.2)
  rw[if_pos (by rw[Bool.not_eq_true',Bool.and_eq_false_iff];simp only[beq_eq_false_iff_ne,ne_eq];omega)]
  simp[q]
 rw[ysb1]
 unfold yzb
 simp only[show ¬ (((L.length-1+1:Nat):Int)<(L.length:Int)) from by omega,decide_false,Bool.false_and,Bool.false_eq_true,if_false]
end
end Go.PV

/-
 Plain laws: shrunk intervals on both sides.
 Conditions: none.
-/
set_option linter.all false
namespace Go.PV
section
variable {n:Nat} {p:Nat->Pt} {i k:Iv}
theorem tf:∀ b:Bool,b=true\/b=false:=by decide
theorem yww1 (hi:isIv i=true) (ho:okI n p i=true) {e:Rt} (he:e∈[i.1,i.2]):isUnit e=true/\∃ y,atQ n p e=some y:=by
 obtain⟨u1,u2,r1,r2⟩:=ybd hi
 simp only[okI,Bool.and_eq_true,Option.isSome_iff_exists] at ho
 simp only[List.mem_cons,List.not_mem_nil,or_false] at he
 rcases he with e | e
 ·subst e;exact⟨u1,ho.1⟩
 subst e;exact⟨u2,ho.2⟩
theorem yum1 (a b:Rt):((a.1==b.1)&&(a.2==b.2))=decide (a=b):=by
 rw[Bool.eq_iff_iff,Bool.and_eq_true,beq_iff_eq,beq_iff_eq,decide_eq_true_iff]
 exact⟨fun h=>Prod.ext h.1 h.2,fun h=>by rw[h];exact⟨rfl,rfl⟩⟩
theorem yxw1 {e y:Rt} (h:atQ n p e=some y):(decide (y=k.1)||decide (y=k.2))=isE n p k e:=by
 unfold isE
 rw[h]
 simp
theorem yjj1 (h:Curve n p) (hi:isIv i=true) (hk:isIv k=true) (ho:okI n p i=true) (hc:covI n p i k=true) :
  (BefOk n p k.1/\BefOk n p k.2->∃ L,Plc n p i k L/\ydh (tab n p) i k=some (match fdi n p L with | some j=>(j,true) | none=>(((0,0),(0,0)),false)))/\(¬ (BefOk n p k.1/\BefOk n p k.2)->ydh (tab n p) i k=some (((0,0),(0,0)),false)):=by
 obtain⟨u1,u2,r1,r2⟩:=ybd hi
 obtain⟨_,_,k1,k2⟩:=ybd hk
 obtain⟨v3,e3,s3⟩:=yqb1 h k1
 obtain⟨v4,e4,s4⟩:=yqb1 h k2
 unfold ydh
 rw[yof h hi hk,ho,hc]
 simp only[if_true,Option.bind_some,Bool.not_true,Bool.or_false,Bool.false_eq_true,if_false,e3,e4]
 constructor
 ·rintro⟨b1,b2⟩
  obtain⟨_,q3,B3⟩:=s3.resolve_left fun hh=>hh.1 b1
  obtain⟨_,q4,B4⟩:=s4.resolve_left fun hh=>hh.1 b2
  have l3:=B3.len;have l4:=B4.len;rw[if_neg (by rw[q3,q4];simp),yea (by omega)]
  have hw:Rats (v3.1++v4.1):=fun x hx=>by
   rcases List.mem_append.1 hx with q | q
   ·exact B3.rats x q
   exact B4.rats x q
  obtain⟨L1,f1,f2,f3,f4,f5⟩:=ysq1 (w:=v3.1++v4.1) (inI i) (body:=yej i v3 v4) [] List.Pairwise.nil (fun x hx=>by simp at hx) hw (by simp;omega) (fun l m hm=>by
   have rm:=hw _ (List.getElem_mem hm)
   unfold yej;simp only[show((m:Int)<((v3.1++v4.1).length:Int)) from by omega,decide_true,if_true,ybk hm,Option.bind_some,ymb i.1 _ (ylb r1) (ylb rm),ymb _ i.2 (ylb rm) (ylb r2),yfw1,inI,yya (show m<9223372036854775807 by rw[List.length_append] at hm;omega)]
   rcases tf (less ((v3.1++v4.1)[m]) i.1) with q | q <;> rcases tf (less i.2 ((v3.1++v4.1)[m])) with q' | q' <;> simp only[q,q',Bool.not_true,Bool.not_false,Bool.and_true,Bool.and_false,Bool.false_eq_true,if_true,if_false,Option.bind_some]) (fun l=>by
   unfold yej;simp only[Int.lt_irrefl,decide_false,Bool.false_eq_true,if_false])
  rw[f1,Option.bind_some];unfold yum;have hw2:Rats [i.1,i.2]:=fun x hx=>by
   simp only[List.mem_cons,List.not_mem_nil,or_false] at hx;rcases hx with rfl | rfl
   ·exact r1
   exact r2
  have len1:L1.length<=200:=by rw[List.length_append] at f5;simp only[List.length_nil] at f5;omega
  obtain⟨L2,g1,g2,g3,g4,g5⟩:=ysq1 (w:=[i.1,i.2]) (isE n p k) (body:=ydj (tab n p) i k) L1 f2 f3 hw2 (by simp;omega) (fun l m hm=>by
   obtain⟨ue,y,ey⟩:=yww1 hi ho (List.getElem_mem hm)
   unfold ydj;simp only[show((m:Int)<(([i.1,i.2]:List Rt).length:Int)) from by omega,decide_true,if_true,ybk hm,Option.bind_some,yob1 h ue,ey,unO,yum1,yxw1 ey,yya (show m<9223372036854775807 by simp at hm;omega)]) (fun l=>by
   unfold ydj;simp only[Int.lt_irrefl,decide_false,Bool.false_eq_true,if_false])
  rw[g1,Option.bind_some];have hL:Plc n p i k L2:=⟨g2,g3,fun x=>by
   rw[g4,f4];simp only[List.not_mem_nil,false_or,List.mem_append,B3.mem,B4.mem,List.mem_cons,or_false],by simp only[List.length_cons,List.length_nil] at g5;omega⟩
  exact⟨L2,hL,yhj1 h hi hk hL⟩
 intro hno
 have:(!v3.2 || !v4.2)=true:=by
  rcases s3 with⟨a,b⟩ | ⟨a,b,c⟩
  ·rw[b];rfl
  rcases s4 with⟨a',b'⟩ | ⟨a',b',c'⟩
  ·rw[b'];simp
  exact absurd ⟨a,a'⟩ hno
 rw[if_pos this]
theorem ykj1 (h:Curve n p) (hi:isIv i=true) (hk:isIv k=true) (ho:okI n p i=true) :
  (BefOk n p k.1/\BefOk n p k.2->∃ L v,Plc n p i k L/\yld false (tab n p) i k=some v/\(match fdi n p L with | some j=>v=(j,false) | none=>v.2=true))/\(¬ (BefOk n p k.1/\BefOk n p k.2)->∃ v,yld false (tab n p) i k=some v/\v.2=true):=by
 obtain⟨u1,u2,r1,r2⟩:=ybd hi
 obtain⟨_,_,k1,k2⟩:=ybd hk
 obtain⟨v3,e3,l3,ra3,_,n3,y3⟩:=yrb1 h k1 false
 obtain⟨v4,e4,l4,ra4,b4,n4,y4⟩:=yrb1 h k2 v3.2
 unfold yld
 rw[e3,Option.bind_some,e4,Option.bind_some,yea (by omega)]
 have hw:Rats (v3.1++v4.1):=fun x hx=>by
  rcases List.mem_append.1 hx with q | q
  ·exact ra3 x q
  exact ra4 x q
 have f1:=yrq1 (w:=v3.1++v4.1) (inI i) (S:=fun l m=>(l,(m:Int))) (out:=fun l=>(v4.2,l)) (body:=yrd i v3 v4) [] (fun l m hm hl=>by
  have rm:=hw _ (List.getElem_mem hm)
  have hl2:(v3.1++v4.1).length<=200:=by rw[List.length_append];omega
  unfold yrd;simp only[show((m:Int)<((v3.1++v4.1).length:Int)) from by omega,decide_true,if_true,ybk hm,Option.bind_some,ydd _ i.1 (ylb rm) (ylb r1),ydd i.2 _ (ylb r2) (ylb rm),inI,yya (show m<9223372036854775807 by omega)]
  rcases tf (less ((v3.1++v4.1)[m]) i.1) with q | q <;> rcases tf (less i.2 ((v3.1++v4.1)[m])) with q' | q' <;> simp only[q,q',Bool.not_true,Bool.not_false,Bool.and_true,Bool.and_false,Bool.false_and,Bool.true_and,Bool.false_eq_true,if_true,if_false,Option.bind_some] <;> rw[yea (by simp only[List.length_nil,List.length_cons] at hl ⊢;omega)]) (fun l=>by
  unfold yrd;simp only[Int.lt_irrefl,decide_false,Bool.false_eq_true,if_false])
 have f1:loopO (yrd i v3 v4) ([],0)=some (v4.2,(v3.1++v4.1).filter (inI i)):=f1
 rw[f1,Option.bind_some]
 unfold yni
 have lf:((v3.1++v4.1).filter (inI i)).length<=200:=Nat.le_trans (List.length_filter_le _ _) (by rw[List.length_append];omega)
 have rf:Rats ((v3.1++v4.1).filter (inI i)):=fun x hx=>hw x (List.mem_filter.1 hx).1
 have g1:=yrq1 (w:=[i.1,i.2]) (isE n p k) (S:=fun l m=>(v4.2,l,(m:Int))) (out:=fun l=>(v4.2,l)) (body:=yqd (tab n p) i k) ((v3.1++v4.1).filter (inI i)) (fun l m hm hl=>by
  obtain⟨ue,y,ey⟩:=yww1 hi ho (List.getElem_mem hm)
  obtain⟨v,e1,e2⟩:=yfi1 h ue v4.2;have e2:=e2.2;rw[ey] at e2;simp only at e2
  unfold yqd yrj
  simp only[show((m:Int)<(([i.1,i.2]:List Rt).length:Int)) from by omega,decide_true,if_true,ybk hm,Option.bind_some,e1,e2,yum1,yxw1 ey,yya (show m<9223372036854775807 by simp at hm;omega)]
  cases isE n p k ([i.1,i.2][m]) with
  | true=>
   simp only[if_true];rw[yea (by simp only[List.length_nil,List.length_cons] at hl ⊢;omega)]
  | false=>simp only[Bool.false_eq_true,if_false]) (fun l=>by
  unfold yqd;simp only[Int.lt_irrefl,decide_false,Bool.false_eq_true,if_false])
 have g1:loopO (yqd (tab n p) i k) (v4.2,(v3.1++v4.1).filter (inI i),0)=some (v4.2,(v3.1++v4.1).filter (inI i)++[i.1,i.2].filter (isE n p k)):=g1
 rw[g1,Option.bind_some]
 unfold ymi
 have lg:((v3.1++v4.1).filter (inI i)++[i.1,i.2].filter (isE n p k)).length<=202:=by
  have:([i.1,i.2].filter (isE n p k)).length<=2:=List.length_filter_le _ _
  rw[List.length_append];omega
 have rg:Rats ((v3.1++v4.1).filter (inI i)++[i.1,i.2].filter (isE n p k)):=fun x hx=>by
  rcases List.mem_append.1 hx with q | q
  ·exact rf x q
  have:=(List.mem_filter.1 q).1
  simp only[List.mem_cons,List.not_mem_nil,or_false] at this;rcases this with e | e
  ·subst e;exact r1
  subst e;exact r2
 obtain⟨L,q1,q2,q3,q4⟩:=ymi1 rg (by omega)
 rw[q1,Option.bind_some]
 constructor
 ·rintro⟨b1,b2⟩
  obtain⟨c3,B3⟩:=y3 b1;obtain⟨c4,B4⟩:=y4 b2;have hL:Plc n p i k L:=⟨q2,fun x hx=>rg x ((q3 x).1 hx),fun x=>by
   rw[q3];simp only[List.mem_append,List.mem_filter,B3.mem,B4.mem,List.mem_cons,List.not_mem_nil,or_false],by omega⟩
  obtain⟨v,s1,s2⟩:=yij1 h hi hk hL;refine⟨L,v,hL,?_,s2⟩
  rw[c4,c3];exact s1
 intro hno
 have hbad:v4.2=true:=by
  by_cases b1:BefOk n p k.1
  ·exact n4 fun b2=>hno ⟨b1,b2⟩
  exact b4 (n3 b1)
 rw[hbad]
 have e:loopO (yzb (tab n p) L) (true,1)=some (.inr true):=by
  rw[yzf];unfold yzb;simp only[Bool.not_true,Bool.and_false,Bool.false_eq_true,if_false]
 exact⟨_,by rw[e];rfl,rfl⟩
structure ShrOk (n:Nat) (p:Nat->Pt) (i k j:Iv):Prop where
 iv:isIv j=true
 ok:okI n p j=true
 cov:covI n p j k=true
 lo:less j.1 i.1=false
 hi:less i.2 j.2=false
theorem yyw1 {s:Rt×Rt} {y:Rt} (h1:isRat s.1=true) (h2:isRat s.2=true) (hy:isRat y=true):val (tkR s y).1<=val s.1/\val (tkR s y).1<=val y/\val s.2<=val (tkR s y).2/\val y<=val (tkR s y).2:=by
 unfold tkR
 have a:=yei (yad hy) (yad h1)
 have b:=yed (yad hy) (yad h1)
 have c:=yei (yad h2) (yad hy)
 have d:=yed (yad h2) (yad hy)
 cases q:less y s.1 <;> cases q':less s.2 y <;> simp only[Bool.false_eq_true,if_true,if_false] <;> rw[q] at a b <;> rw[q'] at c d <;> simp only[Bool.false_eq_true,true_iff,false_iff,reduceCtorEq] at a b c d <;> grind
theorem ytq1:∀ (l:List Rt) (s:Rt×Rt),isRat s.1=true->isRat s.2=true->(∀ y∈l,isRat y=true)->val (l.foldl tkR s).1<=val s.1/\val s.2<=val (l.foldl tkR s).2
 | [],s,_,_,_=>⟨Rat.le_refl,Rat.le_refl⟩
 | y::l,s,h1,h2,hl=>by
  have hy:=hl y (by simp)
  have hr:=yni1 h1 h2 hy;have t:=yyw1 h1 h2 hy;have:=ytq1 l (tkR s y) hr.1 hr.2 fun z hz=>hl z (by simp[hz])
  rw[List.foldl_cons];exact⟨Rat.le_trans this.1 t.1,Rat.le_trans t.2.2.1 this.2⟩
theorem ykz1 (h:Curve n p) {a b y z:Rt} (hy:isRat y=true) (hz:isRat z=true):val (imR n p a b y z).1<=val y/\val (imR n p a b y z).1<=val z/\val y<=val (imR n p a b y z).2/\val z<=val (imR n p a b y z).2:=by
 unfold imR
 rw[List.foldl_cons]
 have hr:=yni1 (s:=(y,y)) hy hy hz
 have t:=yyw1 (s:=(y,y)) hy hy hz
 have:=ytq1 (ysB p a b n) (tkR (y,y) z) hr.1 hr.2 (ypb1 h a b n (Nat.le_refl n))
 exact⟨Rat.le_trans this.1 t.1,Rat.le_trans this.1 t.2.1,Rat.le_trans t.2.2.1 this.2,Rat.le_trans t.2.2.2 this.2⟩
theorem ylz1 (h:Curve n p) (hi:isIv i=true) (hk:isIv k=true) {L:List Rt} (hL:Plc n p i k L) {j:Iv} (hj:fdi n p L=some j):ShrOk n p i k j:=by
 obtain⟨_,_,k1,k2⟩:=ybd hk
 have hklt:less k.1 k.2=true:=by simp only[isIv,Bool.and_eq_true] at hk;exact hk.2
 obtain⟨m,h1,rfl,hd⟩:=yzs1 hj
 have p1:=hL.el h hi hk (List.getElem_mem (show m<L.length by omega))
 have p2:=hL.el h hi hk (List.getElem_mem h1)
 simp only at hd
 refine⟨?_,?_,?_,p1.lo,p2.hi⟩
 ·simp only[isIv,Bool.and_eq_true]
  exact⟨⟨p1.unit,p2.unit⟩,hL.srt.get (by omega) h1⟩
 ·unfold okI
  rcases p1.at' with q | q <;> rcases p2.at' with q' | q' <;> simp[q,q']
 have v1:=(yei (yad k1) (yad k2)).1 hklt
 have fin:∀ y z,(y=k.1/\z=k.2)\/(y=k.2/\z=k.1)->(!less k.1 (imR n p L[m] L[m+1] y z).1 && !less (imR n p L[m] L[m+1] y z).2 k.2)=true:=by
  intro y z hyz;have ry:isRat y=true:=by rcases hyz with⟨e,e'⟩ | ⟨e,e'⟩ <;> subst e <;> assumption
  have rz:isRat z=true:=by rcases hyz with⟨e,e'⟩ | ⟨e,e'⟩ <;> subst e' <;> assumption
  have rr:=yoi1 h (a:=L[m]) (b:=L[m+1]) ry rz
  have le:=ykz1 h (a:=L[m]) (b:=L[m+1]) ry rz
  rw[Bool.and_eq_true,Bool.not_eq_true',Bool.not_eq_true',yed (yad k1) (yad rr.1),yed (yad rr.2) (yad k2)];rcases hyz with⟨e,e'⟩ | ⟨e,e'⟩ <;> subst e <;> subst e' <;> exact⟨by grind,by grind⟩
 unfold covI
 unfold vl at hd
 rcases p1.at' with q | q <;> rcases p2.at' with q' | q' <;> simp only[q,q'] <;> rw[q,q'] at hd
 ·exact absurd rfl hd
 ·exact fin _ _ (.inl ⟨rfl,rfl⟩)
 ·exact fin _ _ (.inr ⟨rfl,rfl⟩)
 exact absurd rfl hd
theorem ylj1 (h:Curve n p) (hi:isIv i=true) (hk:isIv k=true) (ho:okI n p i=true) (hc:covI n p i k=true) :
  (∃ j,ShrOk n p i k j/\ydh (tab n p) i k=some (j,true)/\yld false (tab n p) i k=some (j,false)) \/
  (ydh (tab n p) i k=some (((0,0),(0,0)),false)/\∃ v,yld false (tab n p) i k=some v/\v.2=true):=by
 obtain⟨s1,s2⟩:=yjj1 h hi hk ho hc
 obtain⟨t1,t2⟩:=ykj1 h hi hk ho
 by_cases hb:BefOk n p k.1/\BefOk n p k.2
 ·obtain⟨L,hL,e⟩:=s1 hb
  obtain⟨M,v,hM,e',hv⟩:=t1 hb;have:L=M:=hL.same hM
  subst this;cases hf:fdi n p L with
  | none=>rw[hf] at e hv;exact .inr ⟨e,v,e',hv⟩
  | some j =>
   rw[hf] at e hv
   simp only at hv
   subst hv;exact .inl ⟨j,ylz1 h hi hk hL hf,e,e'⟩
 exact .inr ⟨s2 hb,t2 hb⟩
theorem yzw1 (h:Curve n p) {k':Iv} (hk:isIv k=true) (hk':isIv k'=true) (hlo:less k'.1 k.1=false) (hhi:less k.2 k'.2=false) (hc:covI n p i k=true):covI n p i k'=true:=by
 obtain⟨_,_,k1,k2⟩:=ybd hk
 obtain⟨_,_,k1',k2'⟩:=ybd hk'
 unfold covI at hc ⊢
 cases e1:atQ n p i.1 with
 | none=>rw[e1] at hc;cases hc
 | some y =>
  cases e2:atQ n p i.2 with
  | none=>rw[e1,e2] at hc;cases hc
  | some z =>
   rw[e1,e2] at hc;have rr:=yoi1 h (a:=i.1) (b:=i.2) (ynz e1) (ynz e2)
   simp only[Bool.and_eq_true,Bool.not_eq_true'] at hc ⊢;rw[yed (yad k1) (yad rr.1),yed (yad rr.2) (yad k2)] at hc;rw[yed (yad k1') (yad rr.1),yed (yad rr.2) (yad k2')]
   have a:=(yed (yad k1') (yad k1)).1 hlo
   have b:=(yed (yad k2) (yad k2')).1 hhi
   exact⟨Rat.le_trans hc.1 a,Rat.le_trans b hc.2⟩
end
end Go.PV

/-
 Plain laws: chains of intervals.
 Conditions: none.
-/
set_option linter.all false
namespace Go.PV
section
variable {n m:Nat} {p:Nat->Pt} {q:Nat->Iv}
noncomputable def flt (n:Nat) (p:Nat->Pt) (m:Nat) (q:Nat->Iv) (i:Nat):Bool:= !covI n p (q i) (q ((i+1) % m))
noncomputable def faL (n:Nat) (p:Nat->Pt) (m:Nat) (q:Nat->Iv) (i:Nat):List Int:=((List.range i).filter (flt n p m q)).map fun j:Nat=>(j:Int)
theorem yvm1 (i:Nat):faL n p m q (i+1)=if flt n p m q i=true then faL n p m q i++[(i:Int)] else faL n p m q i:=by
 unfold faL
 rw[List.range_succ,List.filter_append]
 cases h:flt n p m q i <;> simp[h]
theorem yuq1 (i:Nat):(faL n p m q i).length<=i:=by
 unfold faL
 rw[List.length_map]
 exact Nat.le_trans (List.length_filter_le _ _) (by simp)
theorem ywm1 (a b:Nat):Int.tmod ((a:Nat):Int) ((b:Nat):Int)=((a % b:Nat):Int):=rfl
theorem ymj1 (h:Curve n p) (hm:m<=8) (m1:1<=m) (hq:∀ a,a<m->isIv (q a)=true) :
  (allOk n p m q->yuf (tab n p) (tab m q)=some (faL n p m q m,true))/\(¬ allOk n p m q->yuf (tab n p) (tab m q)=some ([],false)):=by
 obtain⟨y,e1,e2⟩:=yrq (body:=ybj (tab n p) (tab m q)) (fun x=>∃ i:Nat,i<=m/\x=(faL n p m q i,(i:Int))/\∀ a,a<i->okI n p (q a)=true) (fun x=>m-x.2.toNat)
  (fun y=>(allOk n p m q/\y=.inr (faL n p m q m))\/(¬ allOk n p m q/\y=.inl ([],false))) (fun x ⟨i,hi,e,hall⟩=>by
  subst e;by_cases hlt:i<m
  ·have hmd:(i+1) % m<m:=Nat.mod_lt _ (by omega)
   simp only[ybj,yxa,show((i:Int)<(m:Int)) from by omega,decide_true,if_true,yma hlt,Option.bind_some,yya (show i<9223372036854775807 by omega),ywm1,yma hmd,yof h (hq i hlt) (hq _ hmd)]
   rw[yea (by omega)];cases ho:okI n p (q i)
   ·right
    refine⟨.inl ([],false),by simp,.inr ⟨fun hh=>?_,rfl⟩⟩
    rw[hh i hlt] at ho;cases ho
   left
   refine⟨(faL n p m q (i+1),((i+1:Nat):Int)),?_,⟨i+1,by omega,rfl,fun a ha=>?_⟩,by simp only[Int.toNat_natCast];omega⟩
   ·have hl:=yuq1 (n:=n) (p:=p) (m:=m) (q:=q) i
    rw[yvm1];unfold flt;cases hc:covI n p (q i) (q ((i+1) % m))
    ·simp only[Bool.not_false,if_true,Bool.not_true,Bool.false_eq_true,if_false]
     rw[yea (by simp;omega)]
    simp only[Bool.not_true,Bool.false_eq_true,if_false,if_true]
   by_cases hai:a=i
   ·subst hai;exact ho
   exact hall a (by omega)
  right
  have:i=m:=by omega
  subst this;exact⟨.inr (faL n p i q i),by simp only[ybj,yxa,Int.lt_irrefl,decide_false,Bool.false_eq_true,if_false],.inl ⟨hall,rfl⟩⟩) ([],0) ⟨0,by omega,rfl,fun a ha=>by omega⟩
 unfold yuf
 rw[e1]
 refine⟨fun hh=>?_,fun hh=>?_⟩
 ·rcases e2 with⟨_,e2⟩ | ⟨e2,_⟩
  ·rw[e2];rfl
  exact absurd hh e2
 rcases e2 with⟨e2,_⟩ | ⟨_,e2⟩
 ·exact absurd e2 hh
 rw[e2];rfl
theorem ynj1 (h:Curve n p) (hm:m<=8) (m1:1<=m) (hq:∀ a,a<m->isIv (q a)=true) :
  (allOk n p m q->(loopO (ylc (tab n p) (tab m q)) (false,[],0)).bind (fun y6=>yuc y6)=some (faL n p m q m,true))/\(¬ allOk n p m q->(loopO (ylc (tab n p) (tab m q)) (false,[],0)).bind (fun y6=>yuc y6)=some ([],false)):=by
 obtain⟨y,e1,e2⟩:=yrq (body:=ylc (tab n p) (tab m q)) (fun x=>∃ i:Nat,i<=m/\x.2.2=(i:Int)/\x.2.1.length<=i/\((x.1=false/\x.2.1=faL n p m q i/\∀ a,a<i->okI n p (q a)=true)\/(x.1=true/\¬ allOk n p m q))) (fun x=>m-x.2.2.toNat)
  (fun y=>(allOk n p m q/\y=(false,faL n p m q m))\/(¬ allOk n p m q/\y.1=true)) (fun x ⟨i,hi,e,hl,hx⟩=>by
  obtain⟨b,out,x2⟩:=x;simp only at e hl hx
  subst e;by_cases hlt:i<m
  ·have hmd:(i+1) % m<m:=Nat.mod_lt _ (by omega)
   obtain⟨v,v1,v2,v3,v4⟩:=yno h (hq i hlt) (hq _ hmd) b
   left
   simp only[ylc,yxa,show((i:Int)<(m:Int)) from by omega,decide_true,if_true,yma hlt,Option.bind_some,yya (show i<9223372036854775807 by omega),ywm1,yma hmd,v1]
   rw[yea (by omega)];refine⟨(v.2,if v.1=true then out else out++[(i:Int)],((i+1:Nat):Int)),?_,⟨i+1,by omega,rfl,?_,?_⟩,by simp only[Int.toNat_natCast];omega⟩
   ·cases hv:v.1
    ·simp only[Bool.not_false,if_true,Bool.false_eq_true,if_false]
     rw[yea (by simp;omega)]
    simp only[Bool.not_true,Bool.false_eq_true,if_false,if_true]
   ·show(if v.1=true then out else out++[(i:Int)]).length<=i+1
    split
    ·omega
    simp;omega
   rcases hx with⟨rfl,rfl,hall⟩ | ⟨rfl,hno⟩
   ·cases ho:okI n p (q i)
    ·exact .inr ⟨v3 ho,fun hh=>by rw[hh i hlt] at ho;cases ho⟩
    have hv:=v2 ho;subst hv;refine .inl ⟨rfl,?_,fun a ha=>?_⟩
    ·show(if covI n p (q i) (q ((i+1) % m))=true then _ else _)=_
     rw[yvm1];unfold flt;cases covI n p (q i) (q ((i+1) % m)) <;> rfl
    by_cases hai:a=i
    ·subst hai;exact ho
    exact hall a (by omega)
   exact .inr ⟨v4 rfl,hno⟩
  right
  have:i=m:=by omega
  subst this;refine⟨(b,out),by simp only[ylc,yxa,Int.lt_irrefl,decide_false,Bool.false_eq_true,if_false],?_⟩
  rcases hx with⟨rfl,rfl,hall⟩ | ⟨rfl,hno⟩
  ·exact .inl ⟨hall,rfl⟩
  exact .inr ⟨hno,rfl⟩) (false,[],0) ⟨0,by omega,rfl,by simp,.inl ⟨rfl,rfl,fun a ha=>by omega⟩⟩
 rw[e1,Option.bind_some]
 unfold yuc
 refine⟨fun hh=>?_,fun hh=>?_⟩
 ·rcases e2 with⟨_,e2⟩ | ⟨e2,_⟩
  ·rw[e2];rfl
  exact absurd hh e2
 rcases e2 with⟨e2,_⟩ | ⟨_,e2⟩
 ·exact absurd e2 hh
 rw[if_pos e2]
structure ShI (n:Nat) (p:Nat->Pt) (m:Nat) (q Q:Nat->Iv) (t:Nat):Prop where
 iv:∀ j,t<=j->j<m->isIv (Q j)=true/\less (Q j).1 (q j).1=false/\less (q j).2 (Q j).2=false
 shr:∀ j,t<=j->j+1<m->ShrOk n p (q j) (Q (j+1)) (Q j)
 lst:Q (m-1)=q (m-1)
theorem ytb1 (h:Curve n p) (hm:m<=8) (m1:1<=m) (hq:∀ a,a<m->isIv (q a)=true) (hok:allOk n p m q) (hcov:∀ i,i+1<m->covI n p (q i) (q (i+1))=true):∀ (t:Nat) (Q:Nat->Iv),t<m->ShI n p m q Q t ->
  (∃ Q',ShI n p m q Q' 0/\loopO (yac (tab n p) (tab m q)) (tab m Q,(t:Int)-1)=some (.inr (tab m Q'))/\loopO (ysb (tab n p) (tab m q)) (false,tab m Q,(t:Int)-1)=some (false,tab m Q')) \/
  (loopO (yac (tab n p) (tab m q)) (tab m Q,(t:Int)-1)=some (.inl ([],false))/\∃ S,loopO (ysb (tab n p) (tab m q)) (false,tab m Q,(t:Int)-1)=some (true,S))
 | 0,Q,ht,hI=>by
  refine .inl ⟨Q,hI,?_,?_⟩
  ·rw[yzf]
   simp[yac]
  rw[yzf];simp[ysb]
 | t+1,Q,ht,hI=>by
  have e0:((t+1:Nat):Int)-1=(t:Int):=by omega
  obtain⟨i1,i2,i3⟩:=hI.iv (t+1) (by omega) ht
  have c1:=yzw1 h (hq (t+1) ht) i1 i2 i3 (hcov t ht)
  have hwp:w64 ((t:Int)+1)=((t+1:Nat):Int):=yya (by omega)
  have hwm:w64 ((t:Int)-1)=(t:Int)-1:=ytb (by omega) (by omega)
  rw[e0];rcases ylj1 h (hq t (by omega)) i1 (hok t (by omega)) c1 with⟨j,hj,s1,s2⟩ | ⟨s1,v,s2,s3⟩
  ·have hI':ShI n p m q (fun a=>if a=t then j else Q a) t:=by
    refine⟨fun a ha ha'=>?_,fun a ha ha'=>?_,?_⟩
    ·by_cases q':a=t
     ·subst q';rw[if_pos rfl];exact⟨hj.iv,hj.lo,hj.hi⟩
     rw[if_neg q'];exact hI.iv a (by omega) ha'
    ·by_cases q':a=t
     ·subst q'
      rw[if_pos rfl,if_neg (by omega)];exact hj
     rw[if_neg q',if_neg (by omega)];exact hI.shr a (by omega) ha'
    show(if m-1=t then j else Q (m-1))=_
    rw[if_neg (by omega)];exact hI.lst
   have ih:=ytb1 h hm m1 hq hok hcov t _ (by omega) hI'
   have q1:loopO (yac (tab n p) (tab m q)) (tab m Q,(t:Int))=loopO (yac (tab n p) (tab m q)) (tab m (fun a=>if a=t then j else Q a),(t:Int)-1):=by
    rw[yzf];simp only[yac,show((t:Int)>=0) from by omega,decide_true,if_true,yma (show t<m by omega),hwp,yma ht,Option.bind_some,s1,Bool.not_true,Bool.false_eq_true,if_false,Int.toNat_natCast,ybw (show t<m by omega),hwm]
   have q2:loopO (ysb (tab n p) (tab m q)) (false,tab m Q,(t:Int))=loopO (ysb (tab n p) (tab m q)) (false,tab m (fun a=>if a=t then j else Q a),(t:Int)-1):=by
    rw[yzf];simp only[ysb,show((t:Int)>=0) from by omega,decide_true,Bool.not_false,Bool.and_self,if_true,yma (show t<m by omega),hwp,yma ht,Option.bind_some,s2,Int.toNat_natCast,ybw (show t<m by omega),hwm]
   rw[q1,q2];exact ih
  right
  constructor
  ·rw[yzf]
   simp only[yac,show((t:Int)>=0) from by omega,decide_true,if_true,yma (show t<m by omega),hwp,yma ht,Option.bind_some,s1,Bool.not_false]
  refine⟨(tab m Q).set t v.1,?_⟩
  rw[yzf];simp only[ysb,show((t:Int)>=0) from by omega,decide_true,Bool.not_false,Bool.and_self,if_true,yma (show t<m by omega),hwp,yma ht,Option.bind_some,s2,Int.toNat_natCast,hwm]
  rw[yzf];simp only[ysb,s3,Bool.not_true,Bool.and_false,Bool.false_eq_true,if_false]
def chB (m:Nat) (F:List Int):Bool:=match F with
 | []=>true
 | x::_=>x==((m:Int)-1)
theorem yax1 {x:Int} (h:x∈faL n p m q m):0<=x/\x<m:=by
 unfold faL at h
 obtain⟨j,hj,rfl⟩:=List.mem_map.1 h
 have:=List.mem_range.1 (List.mem_filter.1 hj).1
 omega
theorem ybx1 (h:chB m (faL n p m q m)=true) {i:Nat} (hi:i+1<m):covI n p (q i) (q (i+1))=true:=by
 cases hc:covI n p (q i) (q (i+1)) with
 | true=>rfl
 | false =>
  exfalso
  have hf:flt n p m q i=true:=by unfold flt;rw[Nat.mod_eq_of_lt hi,hc];rfl
  have hmem:(i:Int)∈faL n p m q m:=List.mem_map.2 ⟨i,List.mem_filter.2 ⟨List.mem_range.2 (by omega),hf⟩,rfl⟩
  have hs:(faL n p m q m).Pairwise fun a b=>a<b:=by
   unfold faL;refine List.pairwise_map.2 ?_
   exact(List.Pairwise.sublist List.filter_sublist List.pairwise_lt_range).imp fun {a b} h=>by omega
  cases hF:faL n p m q m with
  | nil=>rw[hF] at hmem;simp at hmem
  | cons x F =>
   rw[hF] at h hmem hs
   unfold chB at h;have hx:x=(m:Int)-1:=by simpa using h
   rcases List.mem_cons.1 hmem with e | e
   ·omega
   have:=(List.pairwise_cons.1 hs).1 _ e
   omega
end
end Go.PV

/-
 Plain laws: chains on both sides.
 Conditions: none.
-/
set_option linter.all false
namespace Go.PV
structure ChNo (f:List Pt) (l:List Iv):Prop where
 a1:ymd f l=some ([],false)
 a2:ynd f l=some ([],false)
 b1:yeh f l=some (false,false)
 b2:yfh f l=some (false,false)
 c1:ytd f l=some (false,false)
 c2:yfj f l=some (false,false)
 d1:ypc f l=some ([],false)
 d2:yec f l=some ([],false)
structure ChYes (f:List Pt) (l:List Iv) (F:List Int):Prop where
 len:1<=l.length/\l.length<=8
 fl:F.length<=8
 a1:ymd f l=some (F,true)
 a2:ynd f l=some (F,true)
 b1:yeh f l=some ((F.length:Int)==0,true)
 b2:yfh f l=some ((F.length:Int)==0,true)
 c1:ytd f l=some (chB l.length F,true)
 c2:yfj f l=some (chB l.length F,true)
 d:(ypc f l=some ([],false)/\yec f l=some ([],false))\/(chB l.length F=true/\∃ (n m:Nat) (p:Nat->Pt) (q Q:Nat->Iv),f=tab n p/\l=tab m q/\Curve n p/\1<=m/\m<=8/\(∀ a,a<m->isIv (q a)=true)/\ymg f=some true/\ShI n p m q Q 0/\ypc f l=some (tab m Q,true)/\yec f l=some (tab m Q,true))
theorem ycx1 (m:Nat) (F:List Int) (m1:1<=m) (m8:m<=8):(if((F.length:Int)==0)=true then some true else(idxO F 0).bind fun v=>some (v==w64 ((m:Int)-1)))=some (chB m F):=by
 cases F with
 | nil=>rfl
 | cons x F =>
  rw[if_neg (by simp;omega),ytb (by omega) (by omega)]
  rfl
theorem yoj1 (f:List Pt) (l:List Iv) (hf:f.length<=4611686018427387904) (hl:l.length<=4611686018427387904):ChNo f l\/∃ F,ChYes f l F:=by
 obtain⟨c,s1,s2,s3⟩:=ykr f hf
 have hask:ysr f l=some (c&&areIv l):=by
  unfold ysr;rw[s2,Option.bind_some,ymh l hl];cases c <;> rfl
 have hask2:yhd f l=some (c&&areIv l):=by
  unfold yhd;rw[s1,Option.bind_some,ysl l hl];cases c <;> rfl
 have ask3:yec f l=_:=rfl
 cases ha:(c&&areIv l) with
 | false =>
  left
  rw[ha] at hask hask2
  have e:yvc f l=some ([],false):=by unfold yvc;rw[hask];rfl
  have ec:ytd f l=some (false,false):=by unfold ytd;rw[e];rfl
  exact⟨by unfold ymd;rw[e];rfl,by unfold ynd;rw[hask2];rfl,by unfold yeh;rw[e];rfl,by unfold yfh;rw[hask2];rfl,ec,by unfold yfj;rw[hask2];rfl,by unfold ypc;rw[ec];rfl,by unfold yec;rw[hask2];rfl⟩
 | true =>
  rw[ha] at hask hask2
  rw[Bool.and_eq_true] at ha;obtain⟨rfl,ha⟩:=ha;obtain⟨n,p,rfl,n2,n12,hp⟩:=s3 rfl;have hc:=Curve.of_map hp n2 n12;have ha':=ha
  simp only[areIv,Bool.and_eq_true,inB_iff,List.all_eq_true] at ha'
  obtain⟨⟨l1,l8⟩,hall⟩:=ha'
  obtain⟨m,hm⟩:∃ m,l.length=m:=⟨_,rfl⟩
  obtain⟨q,hqd⟩:∃ q:Nat->Iv,∀ i,q i=l.getD i default:=⟨_,fun _=>rfl⟩
  have e:l=tab m q:=by
   have e:=yzl1 l;rw[hm] at e;exact e.trans (yjr fun i _=>(hqd i).symm)
  have hq:∀ a,a<m->isIv (q a)=true:=fun a ha=>by
   refine hall _ ?_
   have:l[a]?=some (q a):=by rw[e,yqx ha]
   exact List.mem_of_getElem? this
  rw[hm] at l1 l8
  subst e;obtain⟨g1,g2⟩:=ymj1 hc (show m<=8 by omega) (by omega) hq
  obtain⟨i1,i2⟩:=ynj1 hc (show m<=8 by omega) (by omega) hq
  have hcf:yvc (tab n p) (tab m q)=(loopO (ylc (tab n p) (tab m q)) (false,[],0)).bind (fun y6=>yuc y6):=by
   unfold yvc;rw[hask];rfl
  by_cases hok:allOk n p m q
  ·right
   have g1:=g1 hok;have i1:=hcf.trans (i1 hok)
   have hF:=yuq1 (n:=n) (p:=p) (m:=m) (q:=q) m
   obtain⟨F,hFd⟩:∃ F,F=faL n p m q m:=⟨_,rfl⟩
   rw[← hFd] at g1 i1 hF
   have hic:ytd (tab n p) (tab m q)=some (chB (tab m q).length F,true):=by
    unfold ytd;rw[i1,Option.bind_some];simp only[if_true];rw[yxa,ycx1 m F (by omega) (by omega)];rfl
   refine⟨F,⟨by rw[yxa];omega,by omega,by unfold ymd;rw[i1];rfl,by unfold ynd;rw[hask2,Option.bind_some];simp only[Bool.not_true,Bool.false_eq_true,if_false];rw[g1];rfl,by unfold yeh;rw[i1];rfl,by unfold yfh ytr;rw[hask2,Option.bind_some];simp only[Bool.not_true,Bool.false_eq_true,if_false];rw[g1];rfl,hic,?_,?_⟩⟩
   ·unfold yfj
    rw[hask2,Option.bind_some];simp only[Bool.not_true,Bool.false_eq_true,if_false];rw[g1,Option.bind_some];simp only[Bool.not_true,Bool.false_eq_true,if_false];rw[yxa,ycx1 m F (by omega) (by omega)]
    rfl
   have hw5:(if(!true)=true then some true else if(decide ((F.length:Int)>0))=true then(idxO F 0).bind fun v4=>some (decide (v4<(w64 (((tab m q).length:Int)-1)))) else some false)=some (!chB (tab m q).length F):=by
    rw[yxa,ytb (by omega) (by omega)];have hrng:∀ x∈F,0<=x/\x<m:=fun x hx=>yax1 (hFd▸hx)
    cases F with
    | nil=>rfl
    | cons x F =>
     have:=hrng x (by simp)
     simp only[Bool.not_true,Bool.false_eq_true,if_false,List.length_cons,show(((F.length+1:Nat):Int)>0) from by omega,decide_true,if_true];show(some x).bind _=_
     rw[Option.bind_some];unfold chB;by_cases hx:x=(m:Int)-1
     ·subst hx;simp
     have:x<(m:Int)-1:=by omega
     simp[this,hx]
   unfold ypc yec
   rw[hic,hask2,Option.bind_some,Option.bind_some];simp only[Bool.not_true,Bool.false_eq_true,if_false,Bool.false_or];rw[g1,Option.bind_some];simp only[Bool.not_true,Bool.false_eq_true,if_false] at hw5 ⊢
   rw[hw5,Option.bind_some];cases hch:chB (tab m q).length F with
   | false=>exact .inl ⟨rfl,rfl⟩
   | true =>
    have hcov:∀ i,i+1<m->covI n p (q i) (q (i+1))=true:=fun i hi=>ybx1 (by rw[← hFd];rw[yxa] at hch;exact hch) hi
    have hI0:ShI n p m q q (m-1):=⟨fun j hj hj'=>⟨hq j hj',ysg1,ysg1⟩,fun j hj hj'=>by omega,rfl⟩
    simp only[Bool.not_true,Bool.false_eq_true,if_false];unfold yhb;have hlen:(tab m q).length<=1099511627776:=by rw[yxa];omega
    have hst:w64 (((tab m q).length:Int)-2)=((m-1:Nat):Int)-1:=by rw[yxa,ytb (by omega) (by omega)];omega
    rw[yea hlen,yea hlen,Option.bind_some,hst];rcases ytb1 hc (show m<=8 by omega) (by omega) hq hok hcov (m-1) q (by omega) hI0 with⟨Q,hQ,e1,e2⟩ | ⟨e1,S,e2⟩
    ·right
     refine⟨trivial,n,m,p,q,Q,rfl,rfl,hc,by omega,by omega,hq,s2,hQ,?_,?_⟩
     ·rw[e2];rfl
     rw[e1];rfl
    left
    rw[e1,e2];exact⟨rfl,rfl⟩
  left
  have g2:=g2 hok;have i2:=hcf.trans (i2 hok)
  have ec:ytd (tab n p) (tab m q)=some (false,false):=by unfold ytd;rw[i2];rfl
  refine⟨by unfold ymd;rw[i2];rfl,?_,by unfold yeh;rw[i2];rfl,?_,ec,?_,by unfold ypc;rw[ec];rfl,?_⟩
  ·unfold ynd;rw[hask2,Option.bind_some];simp only[Bool.not_true,Bool.false_eq_true,if_false];rw[g2];rfl
  ·unfold yfh ytr;rw[hask2,Option.bind_some];simp only[Bool.not_true,Bool.false_eq_true,if_false];rw[g2];rfl
  ·unfold yfj;rw[hask2,Option.bind_some];simp only[Bool.not_true,Bool.false_eq_true,if_false];rw[g2];rfl
  unfold yec;rw[hask2,Option.bind_some];simp only[Bool.not_true,Bool.false_eq_true,if_false];rw[g2];rfl
def apart (i k:Iv):Bool:=less i.2 k.1||less k.2 i.1
noncomputable def hsV (n:Nat) (p:Nat->Pt) (i k:Iv):Bool×Bool:=if okI n p i=true/\okI n p k=true then(apart i k&&covI n p i i&&covI n p i k&&covI n p k i&&covI n p k k,true) else(false,false)
theorem yat1 {n:Nat} {p:Nat->Pt} {i k:Iv} (h:(hsV n p i k).2=true):hsV n p k i=hsV n p i k:=by
 unfold hsV at h ⊢
 by_cases hh:okI n p i=true/\okI n p k=true
 ·rw[if_pos hh,if_pos hh.symm]
  unfold apart;cases less i.2 k.1 <;> cases less k.2 i.1 <;> cases covI n p i i <;> cases covI n p i k <;> cases covI n p k i <;> cases covI n p k k <;> rfl
 rw[if_neg hh] at h;cases h
theorem ydf1 {n:Nat} {p:Nat->Pt} (hc:Curve n p) (s1:ycf (tab n p)=some true) (s2:ymg (tab n p)=some true) {i k:Iv} (hi:isIv i=true) (hk:isIv k=true):ywc (tab n p) i k=some (hsV n p i k)/\yod (tab n p) i k=some (hsV n p i k):=by
 have hsp:yog i=some (isIv i):=yrl i
 have hsp2:yog k=some (isIv k):=yrl k
 have ha:areIv [i,k]=(isIv i&&isIv k):=by simp[areIv,inB]
 obtain⟨u1,u2,r1,r2⟩:=ybd hi
 obtain⟨_,_,k1,k2⟩:=ybd hk
 obtain⟨q,q0,q1⟩:∃ q:Nat->Iv,q 0=i/\q 1=k:=⟨fun a=>if a=0 then i else k,rfl,rfl⟩
 have el:[i,k]=tab 2 q:=by simp[tab,List.range_succ,q0,q1]
 have hq:∀ a,a<2->isIv (q a)=true:=fun a ha=>by
  have:a=0\/a=1:=by omega
  rcases this with rfl | rfl
  ·rw[q0];exact hi
  rw[q1];exact hk
 obtain⟨b,F,i1,i2,i3⟩:=yut hc (show 2<=8 by omega) hq
 have hok:allOk n p 2 q↔okI n p i=true/\okI n p k=true:=by
  unfold allOk;constructor
  ·intro hh
   have a:=hh 0 (by omega)
   have b:=hh 1 (by omega)
   rw[q0] at a;rw[q1] at b;exact⟨a,b⟩
  rintro⟨a,b⟩ x hx
  have:x=0\/x=1:=by omega
  rcases this with rfl | rfl
  ·rw[q0];exact a
  rw[q1];exact b
 have hap:yaq i k=some (apart i k):=by
  unfold yaq apart
  rw[ymb _ _ (ylb r2) (ylb k1),ymb _ _ (ylb k2) (ylb r1)];simp only[Option.bind_some,yem1];cases less i.2 k.1 <;> rfl
 have hto:yyt i k=some (!apart i k):=by
  unfold yyt apart
  rw[ydd _ _ (ylb r2) (ylb k1),ydd _ _ (ylb k2) (ylb r1)];simp only[Option.bind_some];cases less i.2 k.1 <;> rfl
 have hg:ysc (tab n p) [i,k]=some (if b=true then([],false) else(mat 2 2 F,true)):=by
  unfold ysc;rw[s2,ymh _ (by simp),ha,hi,hk,el];simp only[Option.bind_some,Bool.and_self,Bool.not_true,Bool.false_eq_true,if_false,yxa,yhj 2 (by omega),i1,yug]
  cases b <;> rfl
 have hrow:∀ (x:Iv),isIv x=true->∀ (al:Bool),loopO (yxc (tab n p) i k x) (al,0)=some (if okI n p x=true then .inr (al&&covI n p x i&&covI n p x k) else .inl (false,false)):=by
  intro x hx al;rw[yzf];have e0:idxO [i,k] 0=some i:=rfl
  have e1:idxO [i,k] 1=some k:=rfl
  cases ho:okI n p x with
  | false =>
   simp only[yxc,List.length_cons,List.length_nil,show((0:Int)<((0+1+1:Nat):Int)) from by omega,decide_true,if_true,e0,Option.bind_some,yof hc hx hi,ho,Bool.false_eq_true,if_false,Bool.not_false]
  | true =>
   simp only[yxc,List.length_cons,List.length_nil,show((0:Int)<((0+1+1:Nat):Int)) from by omega,decide_true,if_true,e0,Option.bind_some,yof hc hx hi,ho,Bool.false_eq_true,if_false,Bool.not_true]
   rw[show w64 (0+1)=1 from rfl,yzf];simp only[yxc,List.length_cons,List.length_nil,show((1:Int)<((0+1+1:Nat):Int)) from by omega,decide_true,if_true,e1,Option.bind_some,yof hc hx hk,ho,Bool.false_eq_true,if_false,Bool.not_true]
   rw[show w64 (1+1)=2 from rfl,yzf];simp only[yxc,List.length_cons,List.length_nil,show ¬ ((2:Int)<((0+1+1:Nat):Int)) from by omega,decide_false,Bool.false_eq_true,if_false]
 have hspec:yod (tab n p) i k=some (if okI n p i=true/\okI n p k=true then(apart i k&&covI n p i i&&covI n p i k&&covI n p k i&&covI n p k k,true) else(false,false)):=by
  unfold yod;rw[s1,hsp,hsp2,hi,hk];simp only[Option.bind_some,Bool.not_true,Bool.false_eq_true,if_false,hap];have e0:idxO [i,k] 0=some i:=rfl
  have e1:idxO [i,k] 1=some k:=rfl
  rw[yzf];simp only[yyf,List.length_cons,List.length_nil,show((0:Int)<((0+1+1:Nat):Int)) from by omega,decide_true,if_true,e0,Option.bind_some,hrow i hi];cases ho:okI n p i with
  | false=>simp
  | true =>
   simp only[if_true,Sum.elim_inr,yxf,show w64 (0+1)=1 from rfl];rw[yzf];simp only[yyf,List.length_cons,List.length_nil,show((1:Int)<((0+1+1:Nat):Int)) from by omega,decide_true,if_true,e1,Option.bind_some,hrow k hk]
   cases ho':okI n p k with
   | false=>simp
   | true =>
    simp only[if_true,Sum.elim_inr,yxf,show w64 (1+1)=2 from rfl];rw[yzf];simp only[yyf,List.length_cons,List.length_nil,show ¬ ((2:Int)<((0+1+1:Nat):Int)) from by omega,decide_false,Bool.false_eq_true,if_false,Option.bind_some,Sum.elim_inr,yoi,and_self,if_true]
 rw[hspec]
 unfold hsV
 unfold ywc
 rw[hg,Option.bind_some]
 by_cases hh:okI n p i=true/\okI n p k=true
 ·obtain⟨b0,hF⟩:=i3 (hok.2 hh)
  subst b0;rw[if_pos hh];simp only[Bool.false_eq_true,if_false,Bool.not_true,hto,Option.bind_some,Bool.not_not];refine⟨?_,trivial⟩
  cases hap':apart i k with
  | false=>simp
  | true =>
   have a0:idxO (mat 2 2 F) 0=some (tab 2 (F 0)):=ysq (i:=0) (by omega)
   have a1:idxO (mat 2 2 F) 1=some (tab 2 (F 1)):=ysq (i:=1) (by omega)
   have b0:∀ r,idxO (tab 2 (F r)) 0=some (F r 0):=fun r=>yma (i:=0) (by omega)
   have b1:∀ r,idxO (tab 2 (F r)) 1=some (F r 1):=fun r=>yma (i:=1) (by omega)
   have c00:=hF 0 0 (by omega) (by omega)
   have c01:=hF 0 1 (by omega) (by omega)
   have c10:=hF 1 0 (by omega) (by omega)
   have c11:=hF 1 1 (by omega) (by omega)
   unfold cvM at c00 c01 c10 c11
   rw[q0] at c00 c01 c10
   rw[q1] at c01 c10 c11
   simp only[if_true,a0,a1,b0,b1,Option.bind_some,c00,c01,c10,c11];cases covI n p i i <;> cases covI n p i k <;> cases covI n p k i <;> cases covI n p k k <;> rfl
 have b1:=i2 fun h'=>hh (hok.1 h')
 subst b1
 rw[if_neg hh]
 exact⟨rfl,rfl⟩
theorem yid1 (f:List Pt) (i k:Iv) (hf:f.length<=4611686018427387904):∃ r,ywc f i k=some r/\yod f i k=some r/\(r.2=true->ywc f k i=some r):=by
 obtain⟨c,s1,s2,s3⟩:=ykr f hf
 have hsp:yog i=some (isIv i):=yrl i
 have hsp2:yog k=some (isIv k):=yrl k
 have ha:areIv [i,k]=(isIv i&&isIv k):=by simp[areIv,inB]
 by_cases hgo:c=true/\isIv i=true/\isIv k=true
 ·obtain⟨rfl,hi,hk⟩:=hgo
  obtain⟨n,p,rfl,n2,n12,hp⟩:=s3 rfl;have hc:=Curve.of_map hp n2 n12;obtain⟨e1,e2⟩:=ydf1 hc s1 s2 hi hk;exact⟨_,e1,e2,fun h=>by rw[(ydf1 hc s1 s2 hk hi).1,yat1 h]⟩
 refine⟨(false,false),?_,?_,fun h=>by cases h⟩
 ·unfold ywc ysc
  rw[s2,ymh _ (by simp),ha];cases c
  ·rfl
  cases h1:isIv i
  ·rfl
  cases h2:isIv k
  ·rfl
  exact absurd ⟨rfl,h1,h2⟩ hgo
 unfold yod
 rw[s1,hsp,hsp2]
 cases c
 ·rfl
 cases h1:isIv i
 ·rfl
 cases h2:isIv k
 ·rfl
 exact absurd ⟨rfl,h1,h2⟩ hgo
theorem ykw {n:Nat} {p:Nat->Pt} (hc:Curve n p) (hm:ymg (tab n p)=some true) {i k:Iv} (hi:isIv i=true) (hk:isIv k=true) (ho:okI n p i=true):yvf (tab n p) i k=some (covI n p i k,true):=by
 obtain⟨v,e,h1,_,_⟩:=yno hc hi hk false
 have:=h1 ho
 subst this
 unfold yvf
 rw[hm,ydn,ydn,hi,hk]
 simp only[Option.bind_some,Bool.not_true,Bool.false_eq_true,if_false,e]
end Go.PV

/-
 Plain laws: the end values of iterates.
 Conditions: none.
-/
set_option linter.all false
namespace Go.PV
def btw (cuts:List Rt) (a b:Rt):List Rt:=if less b a=true then(cuts.filter fun x=>less b x&&less x a).reverse else cuts.filter fun x=>less a x&&less x b
section
variable {cuts:List Rt} {a b:Rt}
end
def wayN (cuts:List Rt) (e:Nat->Rt):Nat->List Rt
 | 0=>[e 0]
 | k+1=>wayN cuts e k++btw cuts (e k) (e (k+1))++[e (k+1)]
section
variable {n:Nat} {p:Nat->Pt}
noncomputable def valsO (n:Nat) (p:Nat->Pt) (o:Option (List Rt)) (xs:List Rt):Option (List Rt):=xs.foldl (fun o x=>o.bind fun l=>(atQ n p x).map fun y=>l++[y]) o
def RelA (o:Option (List Rt)) (k:Nat) (s:Bool×List Rt):Prop:=s.2.length=k/\match o with
 | some l=>s=(false,l)
 | none=>s.1=true
noncomputable def nextO (n:Nat) (p:Nat->Pt) (cuts:List Rt) (m:Nat) (e:Nat->Rt):Option (List Rt):=if(wayN cuts e (m-1)).length<=4097 then valsO n p (some []) (wayN cuts e (m-1)) else none
end
end Go.PV

/-
 Plain laws: laps,end values and variations of iterates.
 Conditions: none.
-/
set_option linter.all false
namespace Go.PV
section
variable {n:Nat} {p:Nat->Pt}
noncomputable def itO (n:Nat) (p:Nat->Pt) (cuts:List Rt):Nat->Option (List Rt)
 | 0=>some [(0,1),(1,1)]
 | k+1=>(itO n p cuts k).bind fun l=>nextO n p cuts l.length (fun i=>l.getD i default)
noncomputable def itL (n:Nat) (p:Nat->Pt) (cuts:List Rt) (k:Nat):List Rt:=(itO n p cuts k).getD []
structure Ends (l:List Rt):Prop where
 lo:2<=l.length
 hi:l.length<=4097
 u:∀ x∈l,isUnit x=true
theorem Ends.at {l:List Rt} (h:Ends l) {i:Nat} (hi:i<l.length):isUnit (l.getD i default)=true:=by
 refine h.u _ ?_
 simp[hi]
theorem yxm1 (hm:isMapT n p) (h2:2<=n) (hn:n<=12):∃ cuts:List Rt,yhf1 (tab n p)=some cuts/\ypp (tab n p)=some cuts/\(∀ x∈cuts,isUnit x=true)/\cuts.length<=12:=by
 have hl:=ygp1 (p:=p) h2
 have hb:=(yye1 (wayOf p) (n-1)).bd
 have hb':∀ t∈lapsT n p,t.1<n:=fun t ht=>by have:=hb t ht;omega
 have e1:=yze1 hm h2 hn
 have e2:=yua1 hm h2 hn
 generalize lapsT n p=L at hl hb' e1 e2
 have hd:((L.map encT).drop (Int.toNat 1))=(L.drop 1).map encT:=by simp[List.map_drop]
 have loop:loopO (yyn (tab n p) (L.map encT)) ([],0)=some ((L.drop 1).map fun t=>(p t.1).1):=by
  have hx:=yrc (body:=yyn (tab n p) (L.map encT)) (L.drop 1).length (fun i=>(((L.drop 1).take i).map (fun t=>(p t.1).1),(i:Int))) ((L.drop 1).map fun t=>(p t.1).1) (fun i hi=>by
   have hmem:(L.drop 1)[i]∈L:=List.mem_of_mem_drop (List.getElem_mem hi)
   have hlt:=hb' _ hmem
   have g1:idxO ((L.drop 1).map encT) (i:Int)=some (encT (L.drop 1)[i]):=by rw[ylt,List.getElem?_map,List.getElem?_eq_getElem hi];rfl
   have g2:idxO (encT (L.drop 1)[i]) 0=some (((L.drop 1)[i].1:Nat):Int):=rfl
   simp only[yyn,hd,List.length_map,show((i:Int)<((L.drop 1).length:Int)) from by omega,decide_true,if_true,g1,g2,Option.bind_some,yma hlt];rw[yea (by rw[List.length_take];simp;omega),yya (show i<9223372036854775807 by simp at hi;omega)]
   have htk:(L.drop 1).take (i+1)=(L.drop 1).take i++[(L.drop 1)[i]]:=by rw[List.take_add_one,List.getElem?_eq_getElem hi];rfl
   rw[htk,List.map_append];rfl) (by
   simp only[yyn,hd,List.length_map,Int.lt_irrefl,decide_false,Bool.false_eq_true,if_false,List.take_length])
  exact hx
 have gl:((0:Nat)<=1/\(1:Int)<=((L.map encT).length:Int)):=by rw[List.length_map];omega
 refine⟨(L.drop 1).map fun t=>(p t.1).1,?_,?_,fun x hx=>?_,by simp;omega⟩
 ·unfold yhf1
  rw[e1,Option.bind_some,yea gl,loop];rfl
 ·unfold ypp
  have loop':loopO (yyq (tab n p) (L.map encT)) ([],0)=some ((L.drop 1).map fun t=>(p t.1).1):=loop
  rw[e2,Option.bind_some,yea gl,loop'];rfl
 obtain⟨t,h3,rfl⟩:=List.mem_map.1 hx
 have hlt:=hb' t (List.mem_of_mem_drop h3)
 have hc:=(hm.1 _ hlt).1
 simp only[coord,Bool.and_eq_true] at hc
 exact hc.1
end
end Go.PV

/-
 Plain laws: draws of intervals always come to an end.
 Conditions: none.
-/
set_option linter.all false
namespace Go.PV
theorem yym1 {B:Nat} (hB:B<=10000000) {c:Cur} (hc:Ck B c):Tot (yyg c) fun r=>Ck (B+10) r.2:=by
 unfold yyg
 refine(yji hc (by omega) _).bind fun v1 ⟨⟨p1,p2⟩,h1⟩=>?_
 have p3:=p2 (by omega)
 rw[ytb (n:=1+v1.1) (by omega) (by omega)]
 refine(ytj h1 (by omega) _ (by simp)).bind fun v2 ⟨m2,h2⟩=>?_
 have hv:1<=v2.1/\v2.1<=60:=by
  simp only[List.mem_cons,List.not_mem_nil,or_false] at m2;omega
 rw[ytb (n:=v2.1+1) (by omega) (by omega)]
 refine(yji h2 (by omega) _).bind fun v3 ⟨⟨q1,q2⟩,h3⟩=>?_
 have q3:=q2 (by omega)
 exact(yhp (by omega) (by omega) (by omega) (by omega)).bind fun v4 _=>Tot.ret (Ck.mono (c:=v3.2) h3 (by omega))
theorem ybt1 {B:Nat} (hB:B<=1000000) {c:Cur} (hc:Ck B c) (f:List Pt) (hf:f.length<=13):Tot (yqh c f) fun r=>Ck (B+30) r.2:=by
 unfold yqh
 refine(yji hc (by omega) _).bind fun v1 ⟨_,h1⟩=>?_
 have k2:∀ b,Tot (ysd v1 b) fun r=>Ck (B+30) r.2:=by
  intro b;unfold ysd;refine Tot.ite (fun _=>?_) (fun _=>Tot.ite (fun _=>?_) fun _=>?_)
  ·refine(ytj h1 (by omega) _ (by simp)).bind fun v2 ⟨m2,h2⟩=>?_
   have hv:1<=v2.1/\v2.1<=60:=by
    simp only[List.mem_cons,List.not_mem_nil,or_false] at m2;omega
   exact(ytt (by omega) h2 (by omega) (by omega)).bind fun v3 ⟨_,h3⟩=>Tot.ret (h3.mono (by omega))
  ·exact(yym1 (by omega) h1).bind fun v3 h3=>Tot.ret (h3.mono (by omega))
  exact(yjw (by omega) h1).bind fun v3 h3=>Tot.ret (h3.mono (by omega))
 have k1:∀ b,Tot (yif f v1 b) fun r=>Ck (B+30) r.2:=by
  intro b;unfold yif;refine Tot.ite (fun _=>Tot.ite (fun hp=>?_) fun _=>?_) (fun _=>Tot.ite (fun _=>Tot.ite (fun hp=>?_) fun _=>?_) fun _=>Tot.ite (fun _=>k2 _) fun _=>Tot.ite (fun _=>k2 _) fun _=>k2 _)
  ·have hp:=of_decide_eq_true hp
   refine(yji h1 (by omega) _).bind fun v5 ⟨⟨q1,q2⟩,h5⟩=>?_
   exact Tot.idx q1 (q2 (by omega)) fun v6 _=>Tot.ret (Ck.mono (c:=v5.2) h5 (by omega))
  ·exact(yjw (by omega) h1).bind fun v3 h3=>Tot.ret (h3.mono (by omega))
  ·have hp:=of_decide_eq_true hp
   refine(yji h1 (by omega) _).bind fun v5 ⟨⟨q1,q2⟩,h5⟩=>?_
   exact Tot.idx q1 (q2 (by omega)) fun v6 _=>Tot.ret (Ck.mono (c:=v5.2) h5 (by omega))
  exact(yjw (by omega) h1).bind fun v3 h3=>Tot.ret (h3.mono (by omega))
 exact Tot.ite (fun _=>k1 _) fun _=>k1 _
theorem ytz (x:Rt):Tot (ybf x) fun r=>r=isUnit x:=by
 unfold ybf
 rw[ygs,Option.bind_some,yvk]
 unfold isUnit
 cases isRat x <;> exact⟨_,rfl,rfl⟩
theorem yvt {B:Nat} (hB:B<=100000) {c:Cur} (hc:Ck B c) (f:List Pt) (hf:f.length<=13):Tot (yjc c f) fun r=>Ck (B+70) r.2:=by
 unfold yjc
 refine(ybt1 (by omega) hc f hf).bind fun v1 h1=>?_
 refine(ybt1 (by omega) h1 f hf).bind fun v2 h2=>?_
 refine(ytz v1.1).bind fun v3 _=>?_
 refine Tot.bind (P:=fun w=>Ck (B+70) (cur4 w)) ?_ fun w6 h6=>?_
 ·refine Tot.ite (fun _=>?_) fun _=>Tot.ret (Ck.mono (c:=v2.2) h2 (by omega))
  refine(ytz v2.1).bind fun v4 _=>?_
  refine Tot.ite (fun _=>?_) fun _=>Tot.ret (Ck.mono (c:=v2.2) h2 (by omega))
  exact(yew h2 (by omega) _).bind fun v5 h5=>Tot.ret (Ck.mono (c:=v5.2) h5 (by omega))
 refine Tot.ite (fun _=>?_) fun _=>Tot.ret h6
 obtain⟨r,e⟩:=ygi1 v1.1 v2.1
 rw[e,Option.bind_some]
 refine Tot.ite (fun _=>Tot.ret h6) fun _=>?_
 unfold yhu ypo
 rw[e,Option.bind_some,Option.bind_some]
 cases decide (r<0) <;> exact Tot.ret h6
theorem yuz (l:List Rt) (hl:l.length<=1048576):yqj l=some (l.zip l.tail):=by
 unfold yqj
 have hz:=ysb1 l
 have hx:=yrc (body:=yjf l) (l.length-1) (fun i=>((l.zip l.tail).take i,((i+1:Nat):Int))) (l.zip l.tail) (fun i hi=>by
  have hiz:i<(l.zip l.tail).length:=by omega
  obtain⟨h1,e⟩:=ycf1 (List.getElem?_eq_getElem hiz)
  simp only[yjf,show(((i+1:Nat):Int)<(l.length:Int)) from by omega,decide_true,if_true,yho (show 0<i+1 by omega) (show i+1<4611686018427387904 by omega),show i+1-1=i by omega,ybk (show i<l.length by omega),ybk h1,Option.bind_some]
  rw[yea (by simp;omega),yya (show i+1<9223372036854775807 by omega),List.take_succ_eq_append_getElem hiz,e]) (by
  simp only[yjf,show ¬ (((l.length-1+1:Nat):Int)<(l.length:Int)) from by omega,decide_false,Bool.false_eq_true,if_false];rw[← hz,List.take_length])
 have hx:loopO (yjf l) ([],1)=some (l.zip l.tail):=hx
 rw[hx];rfl
theorem yvg1 {B:Nat} (hB:B<=10000) {c:Cur} (hc:Ck B c) (f:List Pt) (hf:f.length<=13):Tot (yme c f) fun r=>r.1.length<=100/\Ck (B+2100) r.2:=by
 unfold yme
 refine(ytj hc (by omega) _ (by simp)).bind fun v1 ⟨m1,h1⟩=>?_
 refine(yew h1 (by omega) _).bind fun v17 h17=>?_
 have k1:∀ x2:List Int×Int×Int×Int,Ck (B+6) (cur4 x2)->Tot (ync f x2) fun r=>r.1.length<=100/\Ck (B+2100) r.2:=by
  intro x2 hx2;unfold ync;refine Tot.bind (P:=fun y:List Int×Int×Int×List Rt=>y.2.2.2.length<=60/\Ck (B+6+30*60) (cur4 y)) ?_ fun y ⟨yl,yc⟩=>?_
  ·refine Tot.loop (fun x:List Int×Int×Int×List Rt×Int=>∃ i:Nat,x.2.2.2.2=(i:Int)/\i<=60/\x.2.2.2.1.length<=i/\Ck (B+6+30*i) (cur4 x)) (fun x=>60-x.2.2.2.2.toNat) (fun x ⟨i,e,hi,hl,hk⟩=>?_) _ ⟨0,rfl,by omega,by simp,hx2.mono (by omega)⟩
   obtain⟨c1,c2,c3,l,i'⟩:=x;simp only[cur4] at e hl hk;subst e;unfold yhi;refine Tot.ite (fun q=>?_) fun _=>Tot.inr ⟨by show l.length<=60;omega,hk.mono (by omega)⟩
   simp only[Bool.and_eq_true,decide_eq_true_iff] at q;have hi':i<60:=by have:=q.2;omega
   refine(ybt1 (by omega) hk f hf).bind fun v13 h13=>?_
   refine(ytz v13.1).bind fun v14 _=>?_
   have hw:w64 ((i:Int)+1)=((i+1:Nat):Int):=yya (by omega)
   simp only[hw];refine Tot.ite (fun _=>?_) fun _=>Tot.inl ⟨⟨i+1,rfl,by omega,by show l.length<=_;omega,Ck.mono (c:=v13.2) h13 (by omega)⟩,by show 60-((i+1:Nat):Int).toNat<60-(i:Int).toNat;omega⟩
   refine(ymm1 l v13.1 (by omega)).bind fun v16 ⟨_,m2⟩=>Tot.inl ⟨⟨i+1,rfl,by omega,by show v16.length<=_;omega,Ck.mono (c:=v13.2) h13 (by omega)⟩,by show 60-((i+1:Nat):Int).toNat<60-(i:Int).toNat;omega⟩
  unfold yre;have hz:=ysb1 y.2.2.2;rw[yuz _ (by omega),Option.bind_some];refine(yji yc (by omega) _).bind fun v5 ⟨_,h5⟩=>?_
  refine Tot.ite (fun _=>?_) fun _=>Tot.ite (fun _=>Tot.ret ⟨by simp,Ck.mono (c:=v5.2) h5 (by omega)⟩) fun _=>Tot.ret ⟨by show(y.2.2.2.zip _).length<=100;omega,Ck.mono (c:=v5.2) h5 (by omega)⟩
  refine(yvt (by omega) h5 f hf).bind fun v7 h7=>Tot.guard (by simp;omega) (Tot.ret ⟨by show(_++_:List Iv).length<=100;rw[List.length_append,hz];simp;omega,Ck.mono (c:=v7.2) h7 (by omega)⟩)
 refine Tot.ite (fun _=>?_) fun _=>k1 _ (Ck.mono (c:=v17.2) h17 (by omega))
 exact(yji h17 (by omega) _).bind fun v19 ⟨_,h19⟩=>k1 _ (Ck.mono (c:=v19.2) h19 (by omega))
theorem yjd1 {x:Rt} (h:isUnit x=true):isRat x=true:=by simp only[isUnit,Bool.and_eq_true] at h;exact h.1
structure Part (l:List Rt):Prop where
 srt:Srt l
 unit:∀ x∈l,isUnit x=true
 two:2<=l.length
theorem Part.rats {l:List Rt} (h:Part l):Rats l:=fun x hx=>yjd1 (h.unit x hx)
theorem Part.put {l r:List Rt} {x:Rt} (h:Part l) (hx:isUnit x=true) (hp:PutOk l x r):Part r:=⟨hp.srt,fun y hy=>by
 rcases(hp.mem y).1 hy with rfl | hy
 ·exact hx
 exact h.unit y hy,by
 by_cases hm:x∈l
 ·have:l=r:=yki1 h.srt hp.srt h.rats (hp.rats h.rats (yjd1 hx)) fun y=>by
   rw[hp.mem];exact⟨.inr,fun q=>by rcases q with rfl | q;exact hm;exact q⟩
  rw[← this];exact h.two
 have:=hp.new hm;have:=h.two;omega⟩
theorem yzm1 (l:List Rt) (x:Rt) (hl:l.length<=1048576):Tot (yrr l x) fun r=>r<0->x∉l:=by
 unfold yrr
 refine Tot.bind (P:=fun y:Int ⊕ Unit=>match y with
  | .inl r=>0<=r
  | .inr _=>x∉l) ?_ fun y hy=>?_
 ·refine Tot.loop (fun y=>∃ i:Nat,y=(i:Int)/\i<=l.length/\∀ j (h:j<l.length),j<i->l[j]≠x) (fun y=>l.length-y.toNat) (fun y ⟨i,e,hi,ha⟩=>?_) 0 ⟨0,rfl,by omega,fun j _ h=>by omega⟩
  subst e;unfold yqs;by_cases hlt:i<l.length
  ·simp only[show((i:Int)<(l.length:Int)) from by omega,decide_true,if_true,ybk hlt,Option.bind_some,yya (show i<9223372036854775807 by omega),yum1]
   refine Tot.ite (fun q=>Tot.inr ?_) fun q=>Tot.inl ⟨⟨i+1,rfl,by omega,fun j hj hji=>?_⟩,by show l.length-((i+1:Nat):Int).toNat<l.length-(i:Int).toNat;omega⟩
   ·show(0:Int)<=(i:Int);omega
   have q:=of_decide_eq_false q;rcases Nat.lt_or_ge j i with h | h
   ·exact ha j hj h
   have:j=i:=by omega
   subst this;exact fun e=>q e.symm
  simp only[show ¬ ((i:Int)<(l.length:Int)) from by omega,decide_false,Bool.false_eq_true,if_false];refine Tot.inr fun hm=>?_
  obtain⟨j,hj,e⟩:=List.mem_iff_getElem.1 hm;exact ha j hj (by omega) e
 cases y with
 | inl r=>exact Tot.ret fun h=>by simp only at hy;omega
 | inr u=>exact Tot.ret fun _=>hy
section
variable {n:Nat} {p:Nat->Pt}
theorem ywg1 (h:Curve n p):Tot (yeo (tab n p)) fun r=>r.length<=13/\∀ x∈r,∃ i,i<n/\x=p i:=by
 have h2:=h.lo
 have h12:=h.hi
 unfold yeo
 rw[ypy (by omega),Option.bind_some]
 refine Tot.bind (P:=fun r:List Pt=>r.length<=13/\∀ x∈r,∃ i,i<n/\x=p i) ?_ fun r hr=>Tot.ret hr
 refine Tot.loop (fun x:List Pt×Int=>∃ i:Nat,x.2=((i+1:Nat):Int)/\i+1<=n/\x.1.length<=i+1/\∀ z∈x.1,∃ i,i<n/\z=p i) (fun x=>n-x.2.toNat) (fun x ⟨i,e,hi,hl,hm⟩=>?_) _ ⟨0,rfl,by omega,by simp,fun z hz=>⟨0,by omega,by simpa using hz⟩⟩
 obtain⟨l,x2⟩:=x
 simp only at e hl hm
 subst e
 unfold yyp
 rw[yxa]
 have hw:w64 (((i+1:Nat):Int)+1)=((i+1+1:Nat):Int):=yya (by omega)
 by_cases hlt:i+1<n
 ·obtain⟨u,v,hs⟩:=h.piece hlt
  simp only[show(((i+1:Nat):Int)<(n:Int)) from by omega,decide_true,if_true,hw,yho (show 0<i+1 by omega) (show i+1<4611686018427387904 by omega),show i+1-1=i by omega,yma (show i<n by omega),yma hlt,Option.bind_some,yck (h.x i (by omega)) (h.y i (by omega)) (h.x (i+1) hlt) (h.y (i+1) hlt) hs]
  refine Tot.bind (P:=fun _=>True) ?_ fun w _=>?_
  ·refine Tot.ite (fun _=>Tot.ret trivial) fun q=>?_
   have hlt2:i+1+1<n:=by simp at q;omega
   obtain⟨u2,v2,hs2⟩:=h.piece hlt2;rw[yma hlt2,Option.bind_some,yck (h.x (i+1) (by omega)) (h.y (i+1) (by omega)) (h.x (i+1+1) hlt2) (h.y (i+1+1) hlt2) hs2];exact Tot.ret trivial
  have mu:n-((i+1+1:Nat):Int).toNat<n-((i+1:Nat):Int).toNat:=by omega
  refine Tot.ite (fun _=>Tot.guard (by simp;omega) (Tot.inl ⟨⟨i+1,rfl,by omega,by simp;omega,fun z hz=>?_⟩,mu⟩)) fun _=>Tot.inl ⟨⟨i+1,rfl,by omega,by show l.length<=_;omega,hm⟩,mu⟩
  rcases List.mem_append.1 hz with q | q
  ·exact hm z q
  exact⟨i+1,hlt,List.mem_singleton.1 q⟩
 simp only[show ¬ (((i+1:Nat):Int)<(n:Int)) from by omega,decide_false,Bool.false_eq_true,if_false]
 exact Tot.inr ⟨by show l.length<=13;omega,hm⟩
theorem yct1 (f:List Pt) (hf:f.length<=1048576):ynw f=some (f.map (·.1)):=by
 unfold ynw
 have hx:=yrc (body:=ynn f) f.length (fun i=>((f.take i).map (·.1),(i:Int))) (f.map (·.1)) (fun i hi=>by
  simp only[ynn,show((i:Int)<(f.length:Int)) from by omega,decide_true,if_true,ybk hi,Option.bind_some];rw[yea (by simp;omega),yya (show i<9223372036854775807 by omega),List.take_succ_eq_append_getElem hi,List.map_append]
  rfl) (by
  simp only[ynn,Int.lt_irrefl,decide_false,Bool.false_eq_true,if_false,List.take_length])
 have hx:loopO (ynn f) ([],0)=some (f.map (·.1)):=hx
 rw[hx];rfl
theorem yxg1 (hm:isMapT n p) (h2:2<=n) (hn:n<=12) (b:Bool):Tot (yfo (tab n p) b) fun r=>r.length<=13/\∀ x∈r,isUnit x=true:=by
 have h:=Curve.of_map hm h2 hn
 unfold yfo
 refine Tot.ite (fun _=>?_) fun _=>?_
 ·refine(ywg1 h).bind fun r ⟨r1,r2⟩=>?_
  rw[yct1 r (by omega)];refine Tot.ret ⟨by simp;omega,fun x hx=>?_⟩
  obtain⟨z,hz,rfl⟩:=List.mem_map.1 hx;obtain⟨i,hi,rfl⟩:=r2 z hz;exact(ybx (h.xr hi)).2 (ylr (h.x i hi))
 obtain⟨cuts,_,e,e2,e3⟩:=yxm1 hm h2 hn
 rw[e]
 exact Tot.ret ⟨by omega,e2⟩
theorem yya1 (hm:isMapT n p) (h2:2<=n) (hn:n<=12) (b:Bool):Tot (yaj (tab n p) b) fun r=>r.2=true->Part r.1/\r.1.length<=100:=by
 have h:=Curve.of_map hm h2 hn
 unfold yaj ypb
 have hput:ytc [((0:Int),(1:Int))] (1,1)=some [(0,1),(1,1)]:=by
  obtain⟨r,e,hr⟩:=yqz (l:=[((0:Int),(1:Int))]) (x:=(1,1)) (List.pairwise_singleton _ _) (fun x hx=>by rw[List.mem_singleton.1 hx];exact yrt) yny (by simp)
  rw[e];congr 1
  exact yki1 hr.srt (by simp[Srt,less]) (hr.rats (fun x hx=>by rw[List.mem_singleton.1 hx];exact yrt) yny) (fun x hx=>by
   simp only[List.mem_cons,List.not_mem_nil,or_false] at hx;rcases hx with rfl | rfl
   ·exact yrt
   ·exact yny) fun x=>by
   rw[hr.mem];simp only[List.mem_cons,List.not_mem_nil,or_false];exact⟨fun q=>q.symm,fun q=>q.symm⟩
 simp only[Option.bind_some]
 rw[hput,Option.bind_some]
 refine(yxg1 hm h2 hn b).bind fun v19 ⟨l19,u19⟩=>?_
 have p0:Part [((0:Int),(1:Int)),(1,1)]:=⟨by simp[Srt,less],fun x hx=>by
  simp only[List.mem_cons,List.not_mem_nil,or_false] at hx;rcases hx with rfl | rfl <;> decide,by simp⟩
 refine Tot.bind (P:=fun l:List Rt=>Part l/\l.length<=20) ?_ fun l4 ⟨hp4,hl4⟩=>?_
 ·refine Tot.loop (fun x:List Rt×Int=>∃ i:Nat,x.2=(i:Int)/\i<=v19.length/\Part x.1/\x.1.length<=2+i) (fun x=>v19.length-x.2.toNat) (fun x ⟨i,e,hi,hp,hl⟩=>?_) _ ⟨0,rfl,by omega,p0,by simp⟩
  obtain⟨l,x2⟩:=x;simp only at e hp hl
  subst e;unfold yqm;by_cases hlt:i<v19.length
  ·have hu:=u19 _ (List.getElem_mem hlt)
   simp only[show((i:Int)<(v19.length:Int)) from by omega,decide_true,if_true,ybk hlt,Option.bind_some,yya (show i<9223372036854775807 by omega)];refine(yqz hp.srt hp.rats (yjd1 hu) (by omega)).bind fun v hv=>Tot.inl ⟨⟨i+1,rfl,by omega,hp.put hu hv,by have:=hv.len;show v.length<=_;omega⟩,by show v19.length-((i+1:Nat):Int).toNat<v19.length-(i:Int).toNat;omega⟩
  simp only[show ¬ ((i:Int)<(v19.length:Int)) from by omega,decide_false,Bool.false_eq_true,if_false];exact Tot.inr ⟨hp,by show l.length<=20;omega⟩
 unfold yli
 refine Tot.bind (P:=fun y:(List Rt×Bool) ⊕ List Rt=>match y with
  | .inl r=>r.2=true->Part r.1/\r.1.length<=100
  | .inr l=>Part l/\l.length<=100) ?_ fun y hy=>?_
 ·refine Tot.loop (fun x:List Rt×Bool=>Part x.1/\x.1.length<=20) (fun x=>2*(30-x.1.length)+(if x.2=true then 1 else 0)) (fun x ⟨hp,hl⟩=>?_) _ ⟨hp4,hl4⟩
  obtain⟨l,ch⟩:=x;simp only at hp hl
  unfold ypm;refine Tot.ite (fun q=>?_) fun q=>Tot.inr ⟨hp,by show l.length<=100;omega⟩
  simp only at q
  subst q;refine Tot.ite (fun q=>Tot.inr fun hh=>by cases hh) fun q=>?_
  have q:¬ ((l.length:Int)>9):=of_decide_eq_false q
  refine Tot.bind (P:=fun y:(List Rt×Bool) ⊕ (List Rt×Bool)=>match y with
   | .inl r=>r.2=false
   | .inr r=>Part r.1/\r.1.length<=20/\2*(30-r.1.length)+(if r.2=true then 1 else 0)<2*(30-l.length)+1) ?_ fun y hy=>?_
  ·refine Tot.loop (fun x:Int=>∃ i:Nat,x=(i:Int)/\i<=l.length) (fun x=>l.length-x.toNat) (fun x ⟨i,e,hi⟩=>?_) 0 ⟨0,rfl,by omega⟩
   subst e;unfold yom;by_cases hlt:i<l.length
   ·have hu:=hp.unit _ (List.getElem_mem hlt)
    simp only[show((i:Int)<(l.length:Int)) from by omega,decide_true,if_true,ybk hlt,Option.bind_some,yya (show i<9223372036854775807 by omega),yob1 h hu];cases ha:atQ n p l[i] with
    | none=>exact Tot.inr rfl
    | some y =>
     have hy:=yts1 h (fun i hi=>(hm.1 i hi).2) hu ha
     simp only[unO,Bool.not_true,Bool.false_eq_true,if_false];refine(yzm1 l y (by omega)).bind fun v16 h16=>?_
     refine Tot.ite (fun q'=>?_) fun _=>Tot.inl ⟨⟨i+1,rfl,by omega⟩,by show l.length-((i+1:Nat):Int).toNat<l.length-(i:Int).toNat;omega⟩
     have hnew:=h16 (of_decide_eq_true q')
     refine(yqz hp.srt hp.rats (yjd1 hy) (by omega)).bind fun v hv=>Tot.inr ⟨hp.put hy hv,by have:=hv.len;show v.length<=20;omega,?_⟩
     have:=hv.new hnew
     show 2*(30-v.length)+1<_
     omega
   simp only[show ¬ ((i:Int)<(l.length:Int)) from by omega,decide_false,Bool.false_eq_true,if_false];exact Tot.inr ⟨hp,hl,by show 2*(30-l.length)+0<_;omega⟩
  cases y with
  | inl r=>exact Tot.inr fun hh=>by simp only at hy;rw[hy] at hh;cases hh
  | inr r=>exact Tot.inl ⟨⟨hy.1,hy.2.1⟩,by simpa using hy.2.2⟩
 cases y with
 | inl r=>exact Tot.ret hy
 | inr l=>exact Tot.ret fun _=>hy
end
end Go.PV

/-
 Plain laws: draws of chains always come to an end.
 Conditions: none.
-/
set_option linter.all false
namespace Go.PV
def AllIv (l:List Iv):Prop:=∀ x∈l,isIv x=true
theorem yan1 {l:List Rt} (h:Part l):AllIv (l.zip l.tail)/\1<=(l.zip l.tail).length:=by
 refine⟨fun x hx=>?_,by have:=ysb1 l;have:=h.two;omega⟩
 obtain⟨m,hm⟩:=List.mem_iff_getElem?.1 hx
 obtain⟨h1,rfl⟩:=ycf1 hm
 simp only[isIv,Bool.and_eq_true]
 exact⟨⟨h.unit _ (List.getElem_mem _),h.unit _ (List.getElem_mem _)⟩,h.srt.get (by omega) h1⟩
section
variable {n:Nat} {p:Nat->Pt}
theorem ywt (h:Curve n p) {B:Nat} (hB:B<=100000) (x7:List Int×Int×Int×List Pt×List Iv) (hf:x7.2.2.2.1=tab n p) (hl:AllIv x7.2.2.2.2) (l1:1<=x7.2.2.2.2.length) (l2:x7.2.2.2.2.length<=1000) (hc:Ck B (x7.1,x7.2.1,x7.2.2.1)) :
  Tot (ykc x7) fun r=>(r.1.length<=13/\r.2.1.length<=100)/\Ck (B+80) r.2.2:=by
 have h12:=h.hi
 unfold ykc
 refine(yji hc (by omega) _).bind fun v8 ⟨⟨q1,q2⟩,h8⟩=>?_
 refine Tot.idx q1 (q2 (by omega)) fun v9 hv9=>?_
 refine(yji h8 (by omega) _).bind fun v10 ⟨⟨r1,r2⟩,h10⟩=>?_
 have r3:=r2 (by omega)
 refine Tot.bind (P:=fun y:List Int×Int×Int×List Iv=>(1<=y.2.2.2.length/\y.2.2.2.length<=31)/\Ck (B+4+60) (cur4 y)) ?_ fun y ⟨⟨y1,y2⟩,yc⟩=>?_
 ·refine Tot.loop (fun x:List Int×Int×Int×List Iv×Int=>∃ i:Nat,x.2.2.2.2=(i:Int)/\i<=30/\AllIv x.2.2.2.1/\(1<=x.2.2.2.1.length/\x.2.2.2.1.length<=i+1)/\Ck (B+4+2*i) (cur4 x)) (fun x=>30-x.2.2.2.2.toNat) (fun x ⟨i,e,hi,ha,⟨o1,o2⟩,hk⟩=>?_) _ ⟨0,rfl,by omega,fun z hz=>by rw[List.mem_singleton.1 hz];exact hl _ hv9,by simp,h10.mono (by omega)⟩
  obtain⟨c1,c2,c3,out,i'⟩:=x;simp only[cur4] at e ha o1 o2 hk;subst e;unfold ywj;refine Tot.ite (fun q=>?_) fun _=>Tot.inr ⟨⟨o1,by show out.length<=31;omega⟩,hk.mono (by omega)⟩
  simp only[Bool.and_eq_true,decide_eq_true_iff] at q;have hi':i<30:=by have:=q.1;omega
  refine(yji hk (by omega) _).bind fun v24 ⟨⟨s1,s2⟩,h24⟩=>?_
  refine Tot.idx s1 (s2 (by omega)) fun v25 hv25=>?_
  rw[show w64 (((c1,c2,c3,out,(i:Int)).2.2.2.1.length:Int)-1)=((out.length-1:Nat):Int) from by show w64 ((out.length:Int)-1)=_;rw[ytb (by omega) (by omega)];omega]
  refine Tot.idx (by omega) (by show((out.length-1:Nat):Int)<(out.length:Int);omega) fun v26 hv26=>?_
  rw[hf,yof h (ha _ hv26) (hl _ hv25),Option.bind_some];have hw:w64 ((i:Int)+1)=((i+1:Nat):Int):=yya (by omega)
  simp only[hw];have mu:30-((i+1:Nat):Int).toNat<30-(i:Int).toNat:=by omega
  refine Tot.ite (fun _=>Tot.guard (by simp;omega) (Tot.inl ⟨⟨i+1,rfl,by omega,fun z hz=>?_,⟨by simp,by simp;omega⟩,Ck.mono (c:=v24.2) h24 (by omega)⟩,mu⟩)) fun _=>Tot.inl ⟨⟨i+1,rfl,by omega,ha,⟨o1,by show out.length<=_;omega⟩,Ck.mono (c:=v24.2) h24 (by omega)⟩,mu⟩
  rcases List.mem_append.1 hz with q' | q'
  ·exact ha z q'
  rw[List.mem_singleton.1 q'];exact hl _ hv25
 have hfl:x7.2.2.2.1.length<=13:=by rw[hf,yxa];omega
 unfold yhg
 refine(yew yc (by omega) _).bind fun v13 h13=>?_
 unfold yvd
 refine Tot.ite (fun _=>?_) fun _=>Tot.ret ⟨⟨hfl,by show y.2.2.2.length<=100;omega⟩,Ck.mono (c:=v13.2) h13 (by omega)⟩
 refine(yji h13 (by omega) _).bind fun v15 ⟨⟨s1,s2⟩,h15⟩=>?_
 have s3:=s2 (by omega)
 refine Tot.bind (P:=fun z:List Int×Int×Int×List Iv=>z.2.2.2.length<=31/\cur4 z=v15.2) ?_ fun z ⟨z1,z2⟩=>Tot.ret ⟨⟨hfl,by show z.2.2.2.length<=100;omega⟩,by show Ck _ (cur4 z);rw[z2];exact Ck.mono (c:=v15.2) h15 (by omega)⟩
 refine Tot.loop (fun x=>1<=x.length/\x.length<=31) (fun x=>31-x.length) (fun x ⟨hx1,hx2⟩=>?_) _ ⟨y1,y2⟩
 unfold yvj
 rw[ytb (n:=8+v15.1) (by omega) (by omega)]
 refine Tot.ite (fun q=>?_) fun _=>Tot.inr ⟨hx2,rfl⟩
 have q:=of_decide_eq_true q
 exact Tot.idx (by omega) (by omega) fun v19 _=>Tot.guard (by simp;omega) (Tot.inl ⟨⟨by simp,by simp;omega⟩,by simp;omega⟩)
end
theorem ybn1 (f:List Pt) (l:List Iv) (hf:f.length<=4611686018427387904) (hl:l.length<=4611686018427387904):∃ c,yhd f l=some c/\(c=true->(∃ n p,f=tab n p/\2<=n/\n<=12/\isMapT n p)/\AllIv l/\1<=l.length):=by
 obtain⟨c,s1,s2,s3⟩:=ykr f hf
 refine⟨c&&areIv l,?_,fun hc=>?_⟩
 ·unfold yhd
  rw[s1,Option.bind_some,ysl l hl];cases c <;> rfl
 rw[Bool.and_eq_true] at hc
 refine⟨s3 hc.1,?_⟩
 have h2:=hc.2
 simp only[areIv,Bool.and_eq_true,inB_iff,List.all_eq_true] at h2
 exact⟨h2.2,by omega⟩
theorem yef1 {c:Cur} (hc:Ck 0 c):Tot (yee c) fun r=>(r.1.length<=13/\r.2.1.length<=100)/\Ck 10000 r.2.2:=by
 unfold yee
 refine(yog1 (by omega) hc).bind fun v1 ⟨l1,h1⟩=>?_
 refine(yvg1 (by omega) h1 v1.1 l1).bind fun v2 ⟨l2,h2⟩=>?_
 obtain⟨a,ha,hask⟩:=ybn1 v1.1 v2.1 (by omega) (by omega)
 rw[ha,Option.bind_some]
 refine Tot.bind (P:=fun w:List Int×Int×Int×Bool=>(w.2.2.2=false->a=true)/\Ck 3000 (cur4 w)) ?_ fun w5 ⟨hw,h5⟩=>?_
 ·refine Tot.ite (fun _=>Tot.ret ⟨fun h=>(by cases h),Ck.mono (c:=v2.2) h2 (by omega)⟩) fun q=>?_
  have qa:a=true:=by simpa using q
  exact(yew h2 (by omega) _).bind fun v4 h4=>Tot.ret (⟨fun _=>qa,Ck.mono (c:=v4.2) h4 (by omega)⟩:_/\_)
 refine Tot.ite (fun _=>Tot.ret ⟨⟨l1,l2⟩,h5.mono (by omega)⟩) fun q=>?_
 obtain⟨⟨n,p,hf,n2,n12,hm⟩,hiv,hl1⟩:=hask (hw q)
 have hcv:=Curve.of_map hm n2 n12
 refine(yew h5 (by omega) _).bind fun v30 h30=>?_
 refine Tot.ite (fun _=>?_) fun _=>(ywt hcv (B:=3100) (by omega) _ hf hiv hl1 (by show v2.1.length<=1000;omega) (Ck.mono (c:=v30.2) h30 (by omega))).mono fun r ⟨r1,r2⟩=>⟨r1,r2.mono (by omega)⟩
 refine(ypg1 (by omega) h30).bind fun v32 ⟨l32,h32⟩=>?_
 obtain⟨g,g1,_,g3⟩:=ykr v32.1 (by omega)
 rw[g1,Option.bind_some]
 refine Tot.ite (fun _=>Tot.ret ⟨⟨l32,l2⟩,Ck.mono (c:=v32.2) h32 (by omega)⟩) fun q=>?_
 have qg:g=true:=by simpa using q
 obtain⟨n',p',hf',n2',n12',hm'⟩:=g3 qg
 have hcv':=Curve.of_map hm' n2' n12'
 refine(yew h32 (by omega) _).bind fun v35 h35=>?_
 rw[hf']
 refine(yya1 hm' n2' n12' v35.1).bind fun v36 h36=>?_
 refine Tot.ite (fun q=>?_) fun _=>(ywt hcv' (B:=4000) (by omega) _ rfl hiv hl1 (by show v2.1.length<=1000;omega) (Ck.mono (c:=v35.2) h35 (by omega))).mono fun r ⟨r1,r2⟩=>⟨r1,r2.mono (by omega)⟩
 obtain⟨hp,hpl⟩:=h36 q
 obtain⟨hb1,hb2⟩:=yan1 hp
 have hz:=ysb1 v36.1
 rw[yuz _ (by omega),Option.bind_some]
 exact(ywt hcv' (B:=4000) (by omega) _ rfl hb1 hb2 (by show(v36.1.zip v36.1.tail).length<=1000;omega) (Ck.mono (c:=v35.2) h35 (by omega))).mono fun r ⟨r1,r2⟩=>⟨r1,r2.mono (by omega)⟩
theorem yfx {l:List Int} (h:Bytes l):Tot (yne l) fun r=>r.1.length<=13/\r.2.length<=100:=by
 unfold yne yrm
 exact Tot.bind ((yef1 (ck0 h)).bind fun v1 ⟨h1,_⟩=>Tot.ret (P:=fun r:List Pt×List Iv=>r.1.length<=13/\r.2.length<=100) h1) fun r hr=>Tot.ret hr
theorem yfy {l:List Int} (h:Bytes l):Tot (ywf l) fun r=>r.1.length<=13/\r.2.1.length<=100:=by
 unfold ywf yig
 refine(yef1 (ck0 h)).bind fun v1 ⟨h1,h2⟩=>Tot.bind (P:=fun _=>True) ?_ fun v2 _=>Tot.ret h1
 refine(ytj h2 (by omega) _ (by simp)).bind fun v3 ⟨_,h3⟩=>(ytj h3 (by omega) _ (by simp)).bind fun v4 _=>Tot.ret trivial
theorem ygx {l:List Int} (h:Bytes l):Tot (yoe l) fun r=>r.1.length<=13:=by
 unfold yoe
 refine(yew (ck0 h) (by omega) _).bind fun v5 h5=>?_
 refine Tot.ite (fun _=>?_) fun _=>?_
 ·refine(ytj h5 (by omega) _ (by simp)).bind fun v7 ⟨m7,h7⟩=>?_
  have hv:2<=v7.1/\v7.1<=4:=by
   simp only[List.mem_cons,List.not_mem_nil,or_false] at m7;omega
  refine Tot.bind (P:=fun r:List Pt=>r.length<=13) ?_ fun r hr=>?_
  ·refine Tot.loop (fun x:List Pt×Int=>∃ i:Nat,x.2=(i:Int)/\(i:Int)<=v7.1+1/\x.1.length<=i) (fun x=>10-x.2.toNat) (fun x ⟨i,e,hi,hl⟩=>?_) _ ⟨0,rfl,by omega,by simp⟩
   obtain⟨f,x2⟩:=x;simp only at e hl
   subst e;unfold yii;refine Tot.ite (fun q=>?_) fun _=>Tot.inr (by show f.length<=13;omega)
   have q:(i:Int)<=v7.1:=of_decide_eq_true q
   refine(yhp (by omega) (by omega) (by omega) (by omega)).bind fun v16 _=>?_
   refine(yls _).bind fun v17 _=>?_
   have hw:w64 ((i:Int)+1)=((i+1:Nat):Int):=yya (by omega)
   simp only[hw];exact Tot.guard (by simp;omega) (Tot.inl ⟨⟨i+1,rfl,by omega,by simp;omega⟩,by show 10-((i+1:Nat):Int).toNat<10-(i:Int).toNat;omega⟩)
  unfold yte;rw[ytb (n:=v7.1-1) (by omega) (by omega)];refine(yhp (by omega) (by omega) (by omega) (by omega)).bind fun v9 _=>?_
  refine(yhp (by omega) (by omega) (by omega) (by omega)).bind fun v10 _=>?_
  exact(yls _).bind fun v11 _=>(yls _).bind fun v12 _=>Tot.ret hr
 unfold yse
 refine(yog1 (by omega) h5).bind fun v2 ⟨l2,h2⟩=>?_
 refine(yvt (by omega) h2 v2.1 l2).bind fun v3 h3=>?_
 exact(yvt (by omega) h3 v2.1 l2).bind fun v4 h4=>Tot.ret l2
end Go.PV

/-
 Plain laws: sequences of whole numbers,their sums and products.
 Conditions: none.
-/
set_option linter.all false
namespace Go.PV
def cv (f g:Nat->Int):Nat->Int
 | 0=>f 0*g 0
 | k+1=>f 0*g (k+1)+cv (fun i=>f (i+1)) g k
def Ser:Type:=Nat->Int
namespace Ser
def mk (f:Nat->Int):Ser:=f
def at' (f:Ser) (k:Nat):Int:=f k
theorem ext {f g:Ser} (h:∀ k,f.at' k=g.at' k):f=g:=funext h
instance:Add Ser:=⟨fun f g k=>f k+g k⟩
instance:Mul Ser:=⟨cv⟩
def C (a:Int):Ser:=fun k=>if k=0 then a else 0
def sh (f:Ser):Ser:=fun k=>match k with | 0=>0 | k+1=>f k
def D (f:Ser):Ser:=fun k=>(k:Int)*f k
theorem ywm (f g:Ser) (k:Nat):(f+g).at' k=f.at' k+g.at' k:=rfl
theorem yub1 (f:Ser):(sh f).at' 0=0:=rfl
theorem yvz (f:Ser) (k:Nat):(sh f).at' (k+1)=f.at' k:=rfl
theorem D_at (f:Ser) (k:Nat):(D f).at' k=(k:Int)*f.at' k:=rfl
theorem ynp1 (a:Int):(C a).at' 0=a:=rfl
theorem ydt1 (a:Int) (k:Nat):(C a).at' (k+1)=0:=rfl
theorem cv_add (k:Nat):∀ f g h:Nat->Int,cv f (fun i=>g i+h i) k=cv f g k+cv f h k:=by
 induction k with
 | zero=>intro f g h;simp only[cv];rw[Int.mul_add]
 | succ k ih=>intro f g h;simp only[cv];rw[ih,Int.mul_add];omega
theorem cv_add' (k:Nat):∀ f g h:Nat->Int,cv (fun i=>f i+g i) h k=cv f h k+cv g h k:=by
 induction k with
 | zero=>intro f g h;simp only[cv];rw[Int.add_mul]
 | succ k ih=>intro f g h;simp only[cv];rw[ih (fun i=>f (i+1)) (fun i=>g (i+1)),Int.add_mul];omega
theorem ymz1 (k:Nat) (a:Int):∀ f g:Nat->Int,cv (fun i=>a*f i) g k=a*cv f g k:=by
 induction k with
 | zero=>intro f g;simp only[cv];rw[Int.mul_assoc]
 | succ k ih=>intro f g;simp only[cv];rw[ih (fun i=>f (i+1)),Int.mul_add,Int.mul_assoc]
theorem cv_succ' (k:Nat):∀ f g:Nat->Int,cv f g (k+1)=cv f (fun i=>g (i+1)) k+f (k+1)*g 0:=by
 induction k with
 | zero=>intro f g;simp only[cv]
 | succ k ih=>intro f g;rw[show cv f g (k+1+1)=f 0*g (k+1+1)+cv (fun i=>f (i+1)) g (k+1) from rfl,ih,show cv f (fun i=>g (i+1)) (k+1)=f 0*g (k+1+1)+cv (fun i=>f (i+1)) (fun i=>g (i+1)) k from rfl];omega
theorem ydx1 (k:Nat):∀ f g:Nat->Int,cv f g k=cv g f k:=by
 induction k with
 | zero=>intro f g;exact Int.mul_comm ..
 | succ k ih=>intro f g;rw[cv_succ' k g f,show cv f g (k+1)=f 0*g (k+1)+cv (fun i=>f (i+1)) g k from rfl,ih,Int.mul_comm];omega
theorem yet1 (k:Nat):∀ f g h:Nat->Int,cv (cv f g) h k=cv f (cv g h) k:=by
 induction k with
 | zero=>intro f g h;exact Int.mul_assoc ..
 | succ k ih =>
  intro f g h;have e1:cv (cv f g) h (k+1)=f 0*g 0*h (k+1)+cv (fun i=>f 0*g (i+1)+cv (fun i=>f (i+1)) g i) h k:=rfl
  have e2:cv f (cv g h) (k+1)=f 0*(g 0*h (k+1)+cv (fun i=>g (i+1)) h k)+cv (fun i=>f (i+1)) (cv g h) k:=rfl
  rw[e1,e2,cv_add' k (fun i=>f 0*g (i+1)),ymz1 k (f 0) (fun i=>g (i+1)),ih,Int.mul_add,Int.mul_assoc];omega
theorem mul_comm' (f g:Ser):f*g=g*f:=funext fun k=>ydx1 k f g
theorem mul_assoc' (f g h:Ser):f*g*h=f*(g*h):=funext fun k=>yet1 k f g h
theorem mul_add' (f g h:Ser):f*(g+h)=f*g+f*h:=funext fun k=>cv_add k f g h
theorem add_mul' (f g h:Ser):(f+g)*h=f*h+g*h:=funext fun k=>cv_add' k f g h
theorem add_comm' (f g:Ser):f+g=g+f:=funext fun k=>Int.add_comm ..
theorem add_assoc' (f g h:Ser):f+g+h=f+(g+h):=funext fun k=>Int.add_assoc ..
instance:Std.Associative (α:=Ser) (·*·):=⟨mul_assoc'⟩
instance:Std.Commutative (α:=Ser) (·*·):=⟨mul_comm'⟩
instance:Std.Associative (α:=Ser) (·+·):=⟨add_assoc'⟩
instance:Std.Commutative (α:=Ser) (·+·):=⟨add_comm'⟩
theorem yop1 (f g:Ser):sh f*g=sh (f*g):=funext fun k=>by
 cases k with
 | zero=>show(0:Int)*g 0=0;omega
 | succ k=>show(0:Int)*g (k+1)+cv (fun i=>f i) g k=cv f g k;simp
theorem yzu (f g:Ser):f*sh g=sh (f*g):=by rw[mul_comm',yop1,mul_comm']
theorem yio (a:Int) (f:Ser) (k:Nat):(C a*f).at' k=a*f.at' k:=by
 cases k with
 | zero=>rfl
 | succ k =>
  show a*f (k+1)+cv (fun i=>C a (i+1)) f k=_
  have:∀ k,cv (fun _=>(0:Int)) f k=0:=by
   intro k;induction k with
   | zero=>show 0*f 0=0;omega
   | succ k ih=>show 0*f (k+1)+cv (fun _=>(0:Int)) f k=0;rw[ih];omega
  rw[show(fun i=>C a (i+1))=fun _=>(0:Int) from rfl,this];show a*f (k+1)+0=a*f (k+1)
  omega
theorem ykd1 (a:Int) (f:Ser) (k:Nat):(f*C a).at' k=f.at' k*a:=by rw[mul_comm',yio,Int.mul_comm]
theorem one_mul' (f:Ser):C 1*f=f:=ext fun k=>by rw[yio,Int.one_mul]
theorem mul_one' (f:Ser):f*C 1=f:=by rw[mul_comm',one_mul']
theorem zero_mul' (f:Ser):C 0*f=C 0:=ext fun k=>by rw[yio];cases k <;> simp[ynp1,ydt1]
theorem add_zero' (f:Ser):f+C 0=f:=ext fun k=>by rw[ywm];cases k <;> simp[ynp1,ydt1]
theorem zero_add' (f:Ser):C 0+f=f:=by rw[add_comm',add_zero']
theorem ygy (f g:Ser):sh (f+g)=sh f+sh g:=funext fun k=>by cases k <;> rfl
theorem sh_0:sh (C 0)=C 0:=funext fun k=>by
 cases k with
 | zero=>rfl
 | succ k=>show C 0 k=0;unfold C;split <;> rfl
theorem yyg1 {f g h:Ser} (e:f+g=f+h):g=h:=ext fun k=>by have:=congrArg (fun s=>at' s k) e;simp only[ywm] at this;omega
theorem yex1 (f g:Ser):D (f+g)=D f+D g:=ext fun k=>by simp only[D_at,ywm];rw[Int.mul_add]
theorem D_C (a:Int):D (C a)=C 0:=ext fun k=>by
 cases k with
 | zero=>simp[D_at,ynp1]
 | succ k=>simp[D_at,ydt1]
theorem D_sh (f:Ser):D (sh f)=sh f+sh (D f):=ext fun k=>by
 cases k with
 | zero=>simp[D_at,ywm,yub1]
 | succ k=>rw[D_at,ywm,yvz,yvz,D_at];rw[show((k+1:Nat):Int)=(k:Int)+1 by omega,Int.add_mul];omega
theorem yfx1 (f g:Ser):D (f*g)=D f*g+f*D g:=by
 have key:∀ k:Nat,∀ f g:Nat->Int,(k:Int)*cv f g k=cv (fun i=>(i:Int)*f i) g k+cv f (fun i=>(i:Int)*g i) k:=by
  intro k;induction k with
  | zero=>intro f g;simp[cv]
  | succ k ih =>
   intro f g;have h:=ih (fun i=>f (i+1)) g
   have e1:(fun i:Nat=>((i+1:Nat):Int)*f (i+1))=fun i:Nat=>(i:Int)*f (i+1)+f (i+1):=funext fun i=>by rw[show((i+1:Nat):Int)=(i:Int)+1 by omega,Int.add_mul];omega
   have e2:cv (fun i=>(i:Int)*f i) g (k+1)=((0:Nat):Int)*f 0*g (k+1)+cv (fun i:Nat=>((i+1:Nat):Int)*f (i+1)) g k:=rfl
   have e3:cv f (fun i=>(i:Int)*g i) (k+1)=f 0*(((k+1:Nat):Int)*g (k+1))+cv (fun i=>f (i+1)) (fun i=>(i:Int)*g i) k:=rfl
   have e4:cv f g (k+1)=f 0*g (k+1)+cv (fun i=>f (i+1)) g k:=rfl
   rw[e2,e3,e4,e1,cv_add' k (fun i=>(i:Int)*f (i+1)),Int.mul_add];have e5:((k+1:Nat):Int)*cv (fun i=>f (i+1)) g k=(k:Int)*cv (fun i=>f (i+1)) g k+cv (fun i=>f (i+1)) g k:=by rw[show((k+1:Nat):Int)=(k:Int)+1 by omega,Int.add_mul];omega
   have e6:f 0*(((k+1:Nat):Int)*g (k+1))=((k+1:Nat):Int)*(f 0*g (k+1)):=by rw[Int.mul_left_comm]
   rw[e5,e6,h];simp only[Int.ofNat_zero,Int.zero_mul,Int.natCast_zero];omega
 exact funext fun k=>key k f g
def ls:List Nat->(Nat->Ser)->Ser
 | [],_=>C 0
 | v::S,f=>f v+ls S f
theorem yen {f g:Nat->Ser}:∀ {S:List Nat},(∀ i,i∈S->f i=g i)->ls S f=ls S g
 | [],_=>rfl
 | v::S,h=>by simp only[ls];rw[h v (by simp),yen fun i hi=>h i (by simp[hi])]
theorem ywz (f g:Nat->Ser):∀ S,ls S (fun i=>f i+g i)=ls S f+ls S g
 | []=>(add_zero' _).symm
 | v::S=>by simp only[ls];rw[ywz f g S];ac_rfl
theorem ls_mul (c:Ser) (f:Nat->Ser):∀ S,ls S (fun i=>c*f i)=c*ls S f
 | []=>by simp only[ls];rw[mul_comm',zero_mul']
 | v::S=>by simp only[ls];rw[ls_mul c f S,mul_add']
theorem ls_mul' (c:Ser) (f:Nat->Ser) (S:List Nat):ls S (fun i=>f i*c)=ls S f*c:=by
 rw[mul_comm',← ls_mul];exact yen fun i _=>mul_comm' ..
theorem yzg1:∀ S,ls S (fun _=>C 0)=C 0
 | []=>rfl
 | v::S=>by simp only[ls];rw[yzg1 S,add_zero']
theorem yvb1 (f:Nat->Nat->Ser) (T:List Nat):∀ S,ls S (fun i=>ls T fun j=>f i j)=ls T fun j=>ls S fun i=>f i j
 | []=>(yzg1 T).symm
 | v::S=>by simp only[ls];rw[yvb1 f T S,← ywz]
theorem yft1 (f:Nat->Ser):∀ S,ls S (fun i=>sh (f i))=sh (ls S f)
 | []=>sh_0.symm
 | v::S=>by simp only[ls];rw[yft1 f S,ygy]
theorem ls_D (f:Nat->Ser):∀ S,ls S (fun i=>D (f i))=D (ls S f)
 | []=>(D_C 0).symm
 | v::S=>by simp only[ls];rw[ls_D f S,yex1]
theorem ynz1 {f g:Nat->Ser} {a b:Nat}:∀ {S:List Nat},(∀ i,i∈S->(f i).at' a=(g i).at' b)->(ls S f).at' a=(ls S g).at' b\/S=[]
 | [],_=>.inr rfl
 | [v],h=>by left;simp only[ls,add_zero'];exact h v (by simp)
 | v::w::S,h=>by
  left
  rcases ynz1 (S:=w::S) fun i hi=>h i (List.mem_cons_of_mem _ hi) with e | e
  ·have:=h v (by simp)
   simp only[ls,ywm] at e ⊢;omega
  cases e
theorem ygt1 {f g:Nat->Ser} {a:Nat} {S:List Nat} (h:∀ i,i∈S->(f i).at' a=(g i).at' a):(ls S f).at' a=(ls S g).at' a:=by
 rcases ynz1 h with e | e
 ·exact e
 subst e;rfl
theorem yff1 {f:Nat->Ser} {a:Nat}:∀ {S:List Nat},(∀ i,i∈S->(f i).at' a=0)->(ls S f).at' a=0
 | [],_=>by cases a <;> rfl
 | v::S,h=>by simp only[ls,ywm];rw[h v (by simp),yff1 fun i hi=>h i (by simp[hi])];rfl
end Ser
end Go.PV

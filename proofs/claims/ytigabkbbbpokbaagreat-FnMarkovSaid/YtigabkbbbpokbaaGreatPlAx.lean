/-
  Plain laws of what the functions answer.
  Conditions: none.
-/
import Derived.KernelRfl
import Derived.Test.YtigabkbbbpokbaaGreatPvCx
import Derived.Test.YtigabkbbbpokbaaGreatDf
set_option linter.all false
/-
 Plain laws: bounds,lists of numbers,vectors.
 Conditions: none.
-/
namespace Go.PV
def inB (a b n:Int):Bool:=decide (a<=n)&&decide (n<=b)
theorem inB_iff {a b n:Int}:inB a b n=true↔a<=n/\n<=b:=by simp[inB]
theorem yqe (v a b:Int):yxj v a b=some (inB a b v):=rfl
theorem yxc (v a b:Int):ybf v a b=some (inB a b v):=rfl
theorem yqa1 (xs:List Int) (a b:Int) (hl:xs.length<=4611686018427387904):yly xs a b=some (xs.all (inB a b)):=by
 have h:=ydk1 (xs:=xs) (body:=yyr xs a b) (fun x=> !inB a b x) (fun i=>(i:Int)) (.inl false) (.inr ()) (fun i x hx=>by
  have hi:=getElem?_lt hx
  simp only[yyr,ydj,hx,yqe,Option.bind_some,yta (show i<9223372036854775807 by omega),show((i:Int)<(xs.length:Int)) from by omega,decide_true,if_true];cases inB a b x <;> rfl) (by simp[yyr])
 unfold yly
 rw[show(0:Int)=((0:Nat):Int) from rfl,h,List.any_eq_not_all_not]
 simp only[Bool.not_not]
 cases xs.all (inB a b) <;> rfl
def isVec (xs:List Int):Bool:=inB 1 8 xs.length&&xs.all (inB 1 1000000)
theorem yqq (xs:List Int) (f:Int->Option Bool) (p:Int->Bool) (hf:∀ x,f x=some (p x)) (hl:xs.length<=4611686018427387904) :
  ycd xs f=some (match xs.findIdx? p with | some i=>(i:Int) | none => -1):=by
 have h:=yvm (xs:=xs) (body:=ypc xs f) p (fun i=>(i:Int)) (fun i=>.inl (i:Int)) (.inr ()) (fun i x hx=>by
  have hi:=getElem?_lt hx
  simp only[ypc,ydj,hx,hf,Option.bind_some,yta (show i<9223372036854775807 by omega),show((i:Int)<(xs.length:Int)) from by omega,decide_true,if_true]
  cases p x <;> rfl) (by simp[ypc])
 unfold ycd
 rw[show(0:Int)=((0:Nat):Int) from rfl,h]
 cases xs.findIdx? p <;> rfl
theorem yhp (xs:List Int) (f:Int->Option Bool) (p:Int->Bool) (hf:∀ x,f x=some (p x)) (hl:xs.length<=4611686018427387904):yqc xs f=some (xs.any p):=by
 simp only[yqc,yqq xs f p hf hl,Option.bind_some]
 cases h:xs.findIdx? p with
 | none =>
  have hn:=List.findIdx?_eq_none_iff.1 h
  have:xs.any p=false:=by simpa using hn
  simp[this]
 | some m =>
  obtain⟨hm,hp,_⟩:=List.findIdx?_eq_some_iff_getElem.1 h
  have:xs.any p=true:=by simp;exact⟨xs[m],List.getElem_mem hm,hp⟩
  simp[this]
end Go.PV

/-
 Plain laws: lists and tables by their places.
 Conditions: none.
-/
namespace Go.PV
section
variable {α β:Type}
def tab (n:Nat) (f:Nat->α):List α:=(List.range n).map f
theorem yab (n:Nat) (f:Nat->α):(tab n f).length=n:=by simp[tab]
theorem yxr {n i:Nat} {f:Nat->α} (h:i<n):(tab n f)[i]?=some (f i):=by simp[tab,h]
theorem ynl {n i:Nat} {f:Nat->α} (h:n<=i):(tab n f)[i]?=none:=by simp[tab,h]
theorem yua {n i:Nat} {f:Nat->α} (h:i<n):idxO (tab n f) (i:Int)=some (f i):=by rw[ydj,yxr h]
theorem yzl {n:Nat} {f g:Nat->α} (h:∀ i,i<n->f i=g i):tab n f=tab n g:=List.map_congr_left fun i hi=>h i (List.mem_range.1 hi)
theorem yzx {n i:Nat} {f:Nat->α} {v:α} (h:i<n):(tab n f).set i v=tab n (fun k=>if k=i then v else f k):=by
 apply List.ext_getElem?
 intro j
 rw[List.getElem?_set]
 by_cases hij:i=j
 ·subst hij
  rw[if_pos rfl,if_pos (by rw[yab];exact h),yxr h,if_pos rfl]
 rw[if_neg hij]
 by_cases hj:j<n
 ·rw[yxr hj,yxr hj,if_neg (Ne.symm hij)]
 rw[ynl (by omega),ynl (by omega)]
theorem yei1 (n:Nat) (v:α):List.replicate n v=tab n (fun _=>v):=by
 apply List.ext_getElem?
 intro j
 by_cases hj:j<n
 ·rw[yxr hj];simp[hj]
 rw[ynl (by omega)];simp[hj]
theorem yqc1 (n:Nat) (f:Nat->α):tab n f++[f n]=tab (n+1) f:=by simp[tab,List.range_succ]
theorem yek1 (f:Nat->α):tab 0 f=[]:=rfl
theorem yye1 [Inhabited α] (xs:List α):xs=tab xs.length (fun i=>xs.getD i default):=by
 apply List.ext_getElem?
 intro j
 by_cases hj:j<xs.length
 ·rw[yxr hj];simp[hj]
 rw[ynl (by omega)];simp;omega
theorem tab_mem {n:Nat} {f:Nat->α} {x:α}:x∈tab n f↔∃ i,i<n/\f i=x:=by simp[tab]
theorem yjp1 {n:Nat} {f:Nat->α} {p:α->Bool}:(tab n f).all p=true↔∀ i,i<n->p (f i)=true:=by simp[tab]
def mat (n m:Nat) (f:Nat->Nat->α):List (List α):=tab n fun i=>tab m (f i)
theorem yqu {n m:Nat} {f g:Nat->Nat->α} (h:∀ i j,i<n->j<m->f i j=g i j):mat n m f=mat n m g:=yzl fun i hi=>yzl fun j hj=>h i j hi hj
theorem yzt1 {n m i j:Nat} {f:Nat->Nat->α} {v:α} (hi:i<n) (hj:j<m):(mat n m f).set i ((tab m (f i)).set j v)=mat n m (fun a b=>if a=i/\b=j then v else f a b):=by
 unfold mat
 rw[yzx hi,yzx hj]
 refine yzl fun a _=>?_
 by_cases ha:a=i
 ·subst ha;simp
 rw[if_neg ha];exact yzl fun b _=>by simp[ha]
theorem ykp1 {n m i j:Nat} {f:Nat->Nat->α} {r:Nat->α} {v:α} (hi:i<n) (hj:j<m):(mat n m f).set i ((tab m r).set j v)=mat n m (fun a b=>if a=i then(if b=j then v else r b) else f a b):=by
 unfold mat
 rw[yzx hi,yzx hj]
 refine yzl fun a _=>?_
 by_cases ha:a=i
 ·subst ha;simp
 rw[if_neg ha];exact yzl fun b _=>by simp[ha]
theorem ysg (n m:Nat) (f:Nat->Nat->α):(mat n m f).length=n:=yab _ _
theorem yjs {n m i:Nat} {f:Nat->Nat->α} (h:i<n):idxO (mat n m f) (i:Int)=some (tab m (f i)):=yua h
def foldN (n:Nat) (g:β->Nat->β) (s:β):β:=(List.range n).foldl g s
theorem yru (n:Nat) (g:β->Nat->β) (s:β):foldN (n+1) g s=g (foldN n g s) n:=by simp[foldN,List.range_succ]
theorem yfi1 (g:β->Nat->β) (s:β):foldN 0 g s=s:=rfl
theorem yis1 {n:Nat} {g h:β->Nat->β} {s:β} (H:∀ b i,i<n->g b i=h b i):foldN n g s=foldN n h s:=by
 induction n with
 | zero=>rfl
 | succ n ih=>rw[yru,yru,ih fun b i hi=>H b i (by omega),H _ _ (by omega)]
end
end Go.PV

/-
 Plain laws: graphs,numbers of walks.
 Conditions: none.
-/
namespace Go.PV
def sized (g:List (List Int)):Prop:=g.length<=1048576/\∀ row∈g,row.length<=1048576
def isGraph (g:List (List Int)):Bool:=inB 1 8 g.length&&g.all fun row=>(row.length:Int)==g.length&&row.all (inB 0 9)
theorem yuz (xs:List (List Int)) (f:List Int->Option Bool) (p:List Int->Bool) (hf:∀ x∈xs,f x=some (p x)) (hl:xs.length<=4611686018427387904):ybb xs f=some (xs.any p):=by
 have h:=yvm (xs:=xs) (body:=ymb xs f) p (fun i=>(i:Int)) (fun i=>.inl (i:Int)) (.inr ()) (fun i x hx=>by
  have hi:=getElem?_lt hx
  simp only[ymb,ydj,hx,hf x (List.mem_of_getElem? hx),Option.bind_some,yta (show i<9223372036854775807 by omega),show((i:Int)<(xs.length:Int)) from by omega,decide_true,if_true]
  cases p x <;> rfl) (by simp[ymb])
 unfold ybb yac
 rw[show(0:Int)=((0:Nat):Int) from rfl,h]
 cases hx:xs.findIdx? p with
 | none =>
  have hn:=List.findIdx?_eq_none_iff.1 hx
  have:xs.any p=false:=by simpa using hn
  simp[this,ylb]
 | some m =>
  obtain⟨hm,hp,_⟩:=List.findIdx?_eq_some_iff_getElem.1 hx
  have:xs.any p=true:=by simp;exact⟨xs[m],List.getElem_mem hm,hp⟩
  simp[this]
theorem yay (x:Int):ytg x=some (!inB 0 9 x):=by simp[ytg,yxc]
theorem ygb1 (row:List Int) (g:List (List Int)) (hl:row.length<=4611686018427387904):yzj row g=some (!((row.length:Int)==g.length&&row.all (inB 0 9))):=by
 unfold yzj
 rw[yhp row (fun x0=>ytg x0) _ yay hl]
 by_cases hc:(row.length:Int)=g.length
 ·simp[hc,List.any_eq_not_all_not]
 simp[hc]
theorem yuo (g:List (List Int)) (h:sized g):yyq g=some (isGraph g):=by
 obtain⟨hl,hr⟩:=h
 unfold yyq
 rw[yxc,Option.bind_some,yuz g (fun x0=>yzj x0 g) _ (fun x hx=>ygb1 x g (by have:=hr x hx;omega)) (by omega)]
 simp only[Option.bind_some,isGraph,List.any_eq_not_all_not,Bool.not_not]
 cases inB 1 8 g.length <;> rfl
theorem yzf1 (g:List (List Int)) (h:sized g):yia1 g=some (isGraph g):=by
 obtain⟨hl,hr⟩:=h
 have hx:=ydk1 (xs:=g) (body:=ybq g) (fun row=> !((row.length:Int)==g.length&&row.all (inB 0 9))) (fun i=>(i:Int)) (.inl false) (.inr ()) (fun i x hx=>by
  have hi:=getElem?_lt hx
  have hlx:=hr x (List.mem_of_getElem? hx)
  simp only[ybq,ydj,hx,Option.bind_some,yqa1 x 0 9 (by omega),yta (show i<9223372036854775807 by omega),show((i:Int)<(g.length:Int)) from by omega,decide_true,if_true,bne]
  cases (x.length:Int)==g.length
  ·rfl
  cases x.all (inB 0 9) <;> rfl) (by simp[ybq])
 unfold yia1 isGraph
 rw[yqe,Option.bind_some,show(0:Int)=((0:Nat):Int) from rfl,hx,List.any_eq_not_all_not]
 simp only[Bool.not_not]
 cases inB 1 8 g.length
 ·rfl
 simp only[Bool.not_true,Bool.false_eq_true,if_false,Bool.true_and,Option.bind_some]
 cases (g.all fun row=>(row.length:Int)==g.length&&row.all (inB 0 9)) <;> rfl
theorem yrm1 {g:List (List Int)} (h:isGraph g=true):∃ (n:Nat) (G:Nat->Nat->Int),1<=n/\n<=8/\g=mat n n G/\∀ i j,i<n->j<n->0<=G i j/\G i j<=9:=by
 simp only[isGraph,Bool.and_eq_true,inB_iff,List.all_eq_true,beq_iff_eq] at h
 obtain⟨⟨h1,h2⟩,h3⟩:=h
 refine⟨g.length,fun i j=>(g.getD i []).getD j 0,by omega,by omega,?_,fun i j hi hj=>?_⟩
 ·refine(yye1 g).trans (yzl fun i hi=>?_)
  have hlen:=(h3 g[i] (List.getElem_mem hi)).1
  have e:g.getD i default=g[i]:=by simp[hi]
  have e2:g.getD i []=g[i]:=by simp[hi]
  rw[e];show g[i]=tab g.length (fun j=>(g.getD i []).getD j 0)
  rw[e2];refine(yye1 g[i]).trans ?_
  rw[show g[i].length=g.length by omega]
  rfl
 have hrow:=h3 g[i] (List.getElem_mem hi)
 have e:g.getD i []=g[i]:=by simp[hi]
 have hj':j<g[i].length:=by omega
 have e2:g[i].getD j 0=g[i][j]:=by simp[hj']
 simp only[e,e2]
 exact hrow.2 _ (List.getElem_mem hj')
end Go.PV

/-
 Plain laws: marks on lists,and that they are held.
 Conditions: none.
-/
set_option linter.all false
namespace Go.PV
section
variable {α:Type}
def marks (w:Nat) (f:Int->α) (n:Nat) (k:Int):List α:=tab n fun i=>f (k+(w:Int)*i)
end
def markI (n:Nat) (k:Int):List Int:=marks 1 (fun c=>c) n k
def markR (n:Nat) (k:Int):List (Int×Int):=marks 2 (fun c=>(c,c+1)) n k
end Go.PV

/-
 Plain laws: powers of graphs' tables,numbers of all walks.
 Conditions: none.
-/
namespace Go.PV
def capMul (most acc w a:Int):Int:=if most<w64 (acc+w64 (w*a)) then most else w64 (acc+w64 (w*a))
def powStep (n:Nat) (G:Nat->Nat->Int) (most:Int) (F:Nat->Nat->Int):Nat->Nat->Int:=fun i j=>foldN n (fun acc k=>capMul most acc (F i k) (G k j)) 0
def idM:Nat->Nat->Int:=fun i j=>if i=j then 1 else 0
def powN (n:Nat) (G:Nat->Nat->Int) (most:Int):Nat->Nat->Nat->Int
 | 0=>idM
 | m+1=>powStep n G most (powN n G most m)
theorem ybo (n:Nat) (hn:n<=1048576):ylg (n:Int)=some (mat n n fun _ _=>0):=by
 have hx:=ydc (body:=yug (n:Int)) n (fun i=>(tab n (fun a=>if a<i then tab n (fun _=>(0:Int)) else[]),(i:Int))) (mat n n fun _ _=>0) (fun i hi=>by
  simp only[yug,Int.toNat_natCast,List.length_replicate,yua hi,Option.bind_some,yta (show i<9223372036854775807 by omega),show((i:Int)<(n:Int)) from by omega,decide_true,if_true]
  rw[yzx hi,yei1];congr 3
  refine yzl fun a _=>?_
  by_cases h1:a=i
  ·subst h1;simp
  ·by_cases h2:a<i
   ·simp[h1,h2,show a<i+1 by omega]
   simp[h1,h2,show ¬ a<i+1 by omega]) (by
  simp only[yug,Int.toNat_natCast,List.length_replicate,Int.lt_irrefl,decide_false,Bool.false_eq_true,if_false];congr 2
  exact yzl fun a ha=>by simp[ha])
 unfold ylg
 rw[yea (by omega),Int.toNat_natCast,yei1]
 simp only[Nat.not_lt_zero,if_false] at hx
 rw[show(0:Int)=((0:Nat):Int) from rfl,hx]
 rfl
section impl
variable {n:Nat} {G:Nat->Nat->Int} {most:Int}
theorem yez1 (hn:n<=8) {i k:Nat} (hi:i<n) (N:Nat->Nat->Int) (X:List (List Int)) (w:Int) :
  loopO (ycf most (X,(i:Int)) w (tab n (G k))) (mat n n N,0)=some (mat n n (fun a b=>if a=i then capMul most (N a b) w (G k b) else N a b)):=by
 have hx:=ydc (body:=ycf most (X,(i:Int)) w (tab n (G k))) n (fun j=>(mat n n (fun a b=>if a=i/\b<j then capMul most (N a b) w (G k b) else N a b),(j:Int))) (mat n n (fun a b=>if a=i then capMul most (N a b) w (G k b) else N a b)) (fun j hj=>by
  simp only[ycf,yab,yua hj,yjs hi,Option.bind_some,yta (show j<9223372036854775807 by omega),show((j:Int)<(n:Int)) from by omega,decide_true,if_true,Int.toNat_natCast]
  rw[ykp1 hi hj];congr 3
  refine yqu fun a b _ _=>?_
  by_cases ha:a=i
  ·subst ha
   by_cases hb:b=j
   ·subst hb;simp[capMul]
   by_cases h2:b<j
   ·simp[hb,h2,show b<j+1 by omega]
   simp[hb,h2,show ¬ b<j+1 by omega]
  ·simp[ha]) (by
  simp only[ycf,yab,Int.lt_irrefl,decide_false,Bool.false_eq_true,if_false];congr 2
  exact yqu fun a b _ hb=>by simp[hb])
 simpa using hx
theorem yfz1 (hn:n<=8) {i:Nat} (hi:i<n) (N:Nat->Nat->Int) (X:List (List Int)) (w:Nat->Int) :
  loopO (ydf (mat n n G) most (X,(i:Int)) (tab n w)) (mat n n N,0)=some (mat n n (fun a b=>if a=i then foldN n (fun acc k=>capMul most acc (w k) (G k b)) (N a b) else N a b)):=by
 have hx:=ydc (body:=ydf (mat n n G) most (X,(i:Int)) (tab n w)) n (fun k=>(mat n n (fun a b=>if a=i then foldN k (fun acc k=>capMul most acc (w k) (G k b)) (N a b) else N a b),(k:Int))) (mat n n (fun a b=>if a=i then foldN n (fun acc k=>capMul most acc (w k) (G k b)) (N a b) else N a b)) (fun k hk=>by
  simp only[ydf,yab,yua hk,yjs hk,Option.bind_some,yez1 hn hi,ygl,yta (show k<9223372036854775807 by omega),show((k:Int)<(n:Int)) from by omega,decide_true,if_true]
  congr 3
  refine yqu fun a b _ _=>?_
  by_cases ha:a=i
  ·subst ha;simp[yru]
  simp[ha]) (by simp only[ydf,yab,Int.lt_irrefl,decide_false,Bool.false_eq_true,if_false])
 simp only[yfi1] at hx
 rw[show(fun a b=>if a=i then N a b else N a b)=N from by funext a b;split <;> rfl] at hx
 simpa using hx
theorem ygz1 (hn:n<=8) (F:Nat->Nat->Int) (t:Int) :
  loopO (yef (mat n n G) most (mat n n F,t)) (mat n n (fun _ _=>0),0)=some (mat n n (powStep n G most F)):=by
 have hx:=ydc (body:=yef (mat n n G) most (mat n n F,t)) n (fun i=>(mat n n (fun a b=>if a<i then powStep n G most F a b else 0),(i:Int))) (mat n n (powStep n G most F)) (fun i hi=>by
  simp only[yef,ysg,yjs hi,Option.bind_some,yfz1 hn hi,yfl,yta (show i<9223372036854775807 by omega),show((i:Int)<(n:Int)) from by omega,decide_true,if_true]
  congr 3
  refine yqu fun a b _ _=>?_
  by_cases ha:a=i
  ·subst ha;simp[powStep]
  ·by_cases h2:a<i
   ·simp[ha,h2,show a<i+1 by omega]
   simp[ha,h2,show ¬ a<i+1 by omega]) (by
  simp only[yef,ysg,Int.lt_irrefl,decide_false,Bool.false_eq_true,if_false];congr 2
  exact yqu fun a b ha _=>by simp[ha])
 simpa using hx
theorem yhz1 (hn:n<=8) (m:Nat) (hm:m<=1048576):loopO (yff (mat n n G) (m:Int) most) (mat n n idM,0)=some (mat n n (powN n G most m)):=by
 have hx:=ydc (body:=yff (mat n n G) (m:Int) most) m (fun t=>(mat n n (powN n G most t),(t:Int))) (mat n n (powN n G most m)) (fun t ht=>by
  simp only[yff,ysg,ybo n (by omega),ygz1 hn,Option.bind_some,yel,ydl,yta (show t<9223372036854775807 by omega),show((t:Int)<(m:Int)) from by omega,decide_true,if_true]
  rfl) (by simp only[yff,Int.lt_irrefl,decide_false,Bool.false_eq_true,if_false])
 exact hx
theorem yup (hn:n<=8) (m:Nat) (hm:m<=1048576):yym (mat n n G) (m:Int) most=some (mat n n (powN n G most m)):=by
 have hx:=ydc (body:=yai (mat n n fun _ _=>0)) n (fun i=>(mat n n (fun a b=>if a<i then idM a b else 0),(i:Int))) (mat n n idM) (fun i hi=>by
  simp only[yai,ysg,yjs hi,yua hi,Option.bind_some,yta (show i<9223372036854775807 by omega),show((i:Int)<(n:Int)) from by omega,decide_true,if_true,Int.toNat_natCast]
  rw[ykp1 hi hi];congr 3
  refine yqu fun a b _ _=>?_
  by_cases ha:a=i
  ·subst ha
   by_cases hb:b=a
   ·subst hb;simp[idM]
   simp[hb,idM,Ne.symm hb]
  ·by_cases h2:a<i
   ·simp[ha,h2,show a<i+1 by omega]
   simp[ha,h2,show ¬ a<i+1 by omega]) (by
  simp only[yai,ysg,Int.lt_irrefl,decide_false,Bool.false_eq_true,if_false];congr 2
  exact yqu fun a b ha _=>by simp[ha])
 unfold yym
 rw[ysg,ybo n (by omega),Option.bind_some]
 simp only[Nat.not_lt_zero,if_false] at hx
 rw[show(0:Int)=((0:Nat):Int) from rfl,show(fun (_ _:Nat)=>((0:Nat):Int))=fun _ _=>(0:Int) from rfl,hx,Option.bind_some,yhl,yhz1 hn m hm]
 rfl
end impl
section spec
variable {n:Nat} {G:Nat->Nat->Int}
theorem ygi1 (v:Int):ycv v=some (if(1000000001:Int)<v then 1000000001 else v):=by
 unfold ycv yql
 by_cases h:v<1000000001
 ·simp[h,show ¬ (1000000001:Int)<v by omega]
 by_cases h2:(1000000001:Int)<v
 ·simp[h,h2]
 have:v=1000000001:=by omega
 subst this;simp
theorem yiz1 (hn:n<=8) {i j:Nat} (hi:i<n) (hj:j<n) (F:Nat->Nat->Int) (t:Int) (Y:List (List Int)) (Z:List Int) (R:Nat->Int) :
  loopO (ygi (mat n n G) (t,mat n n F) (Y,(i:Int)) (Z,(j:Int))) (tab n R,0)=some (tab n (fun b=>if b=j then foldN n (fun acc k=>capMul 1000000001 acc (F i k) (G k j)) (R b) else R b)):=by
 have hx:=ydc (body:=ygi (mat n n G) (t,mat n n F) (Y,(i:Int)) (Z,(j:Int))) n (fun l=>(tab n (fun b=>if b=j then foldN l (fun acc k=>capMul 1000000001 acc (F i k) (G k j)) (R b) else R b),(l:Int))) (tab n (fun b=>if b=j then foldN n (fun acc k=>capMul 1000000001 acc (F i k) (G k j)) (R b) else R b)) (fun l hl=>by
  simp only[ygi,ysg,yua hj,yjs hi,yjs hl,yua hl,Option.bind_some,ygi1,yta (show l<9223372036854775807 by omega),show((l:Int)<(n:Int)) from by omega,decide_true,if_true,Int.toNat_natCast]
  rw[yzx hj];congr 3
  refine yzl fun b _=>?_
  by_cases hb:b=j
  ·subst hb;simp only[if_true,yru];rfl
  simp[hb]) (by simp only[ygi,ysg,Int.lt_irrefl,decide_false,Bool.false_eq_true,if_false])
 simp only[yfi1] at hx
 rw[show(fun b=>if b=j then R b else R b)=R from by funext b;split <;> rfl] at hx
 simpa using hx
theorem yjz1 (hn:n<=8) {i:Nat} (hi:i<n) (F:Nat->Nat->Int) (t:Int) (Y:List (List Int)) :
  loopO (yhi (mat n n G) (t,mat n n F) (Y,(i:Int))) (tab n (fun _=>0),0)=some (tab n (powStep n G 1000000001 F i)):=by
 have hx:=ydc (body:=yhi (mat n n G) (t,mat n n F) (Y,(i:Int))) n (fun j=>(tab n (fun b=>if b<j then powStep n G 1000000001 F i b else 0),(j:Int))) (tab n (powStep n G 1000000001 F i)) (fun j hj=>by
  simp only[yhi,ysg,yiz1 hn hi hj,Option.bind_some,yzo,yta (show j<9223372036854775807 by omega),show((j:Int)<(n:Int)) from by omega,decide_true,if_true]
  congr 3
  refine yzl fun b _=>?_
  by_cases hb:b=j
  ·subst hb;simp[powStep]
  ·by_cases h2:b<j
   ·simp[hb,h2,show b<j+1 by omega]
   simp[hb,h2,show ¬ b<j+1 by omega]) (by
  simp only[yhi,ysg,Int.lt_irrefl,decide_false,Bool.false_eq_true,if_false];congr 2
  exact yzl fun b hb=>by simp[hb])
 simpa using hx
theorem ykz1 (hn:n<=8) (F:Nat->Nat->Int) (t:Int):loopO (yii (mat n n G) (t,mat n n F)) ([],0)=some (mat n n (powStep n G 1000000001 F)):=by
 have hx:=ydc (body:=yii (mat n n G) (t,mat n n F)) n (fun i=>(tab i (fun a=>tab n (powStep n G 1000000001 F a)),(i:Int))) (mat n n (powStep n G 1000000001 F)) (fun i hi=>by
  simp only[yii,ysg,show((i:Int)<(n:Int)) from by omega,decide_true,if_true];rw[yea (by omega),Int.toNat_natCast,yei1,yjz1 hn hi,Option.bind_some,yyo,yea (by simp[yab];omega),yxo]
  simp only[yta (show i<9223372036854775807 by omega)];rw[yqc1 i (fun a=>tab n (powStep n G 1000000001 F a))]) (by simp only[yii,ysg,Int.lt_irrefl,decide_false,Bool.false_eq_true,if_false];rfl)
 simpa [yek1] using hx
theorem ylz1 (hn:n<=8) (m:Nat) (hm:m<=1048576):loopO (yji (mat n n G)) ((m:Int),mat n n idM)=some (mat n n (powN n G 1000000001 m)):=by
 have hx:=ydc (body:=yji (mat n n G)) m (fun t=>(((m-t:Nat):Int),mat n n (powN n G 1000000001 t))) (mat n n (powN n G 1000000001 m)) (fun t ht=>by
  simp only[yji,show(((m-t:Nat):Int)>0) from by omega,decide_true,if_true,ykz1 hn,Option.bind_some,ywo,yvo];rw[yec (by omega) (by omega),show((m-t:Nat):Int)-1=((m-(t+1):Nat):Int) by omega]
  rfl) (by simp[yji])
 simpa [powN] using hx
theorem yhw (hn:n<=8) (m:Nat) (hm:m<=1048576):yeo (mat n n G) (m:Int)=some (mat n n (powN n G 1000000001 m)):=by
 have hx:=ydc (body:=ysk (mat n n G)) n (fun i=>(tab i (fun a=>tab n (idM a)),(i:Int))) (mat n n idM) (fun i hi=>by
  simp only[ysk,ysg,show((i:Int)<(n:Int)) from by omega,decide_true,if_true];rw[yea (by omega),yea (by simp[yab];omega),Int.toNat_natCast,Int.toNat_natCast,yei1]
  have e:tab i (fun a=>tab n (idM a))++[tab n fun _=>(0:Int)]=tab (i+1) (fun a=>if a<i then tab n (idM a) else tab n fun _=>0):=by
   rw[← yqc1];simp only[Nat.lt_irrefl,if_false];congr 1
   exact yzl fun a ha=>by simp[ha]
  rw[e,yua (Nat.lt_succ_self i),Option.bind_some];simp only[Nat.lt_irrefl,if_false,yua hi,Option.bind_some,yta (show i<9223372036854775807 by omega)];rw[yzx (Nat.lt_succ_self i),yzx hi]
  congr 3
  refine yzl fun a ha=>?_
  by_cases h1:a=i
  ·subst h1
   simp only[if_true];exact yzl fun b _=>by simp[idM,eq_comm]
  simp[h1,show a<i by omega]) (by simp only[ysk,ysg,Int.lt_irrefl,decide_false,Bool.false_eq_true,if_false];rfl)
 unfold yeo
 simp only[yek1] at hx
 rw[show(0:Int)=((0:Nat):Int) from rfl,hx,Option.bind_some,yap,ylz1 hn m hm]
 rfl
end spec
theorem yfk1 {most acc w a:Int} (hm:0<=most) (hm2:most<=1000000000000000000) (h1:0<=acc) (h2:acc<=most) (h3:0<=w) (h4:w<=most) (h5:0<=a) (h6:a<=9) (hs:most<=100000000000000000\/w*a<=8000000000000000000):0<=capMul most acc w a/\capMul most acc w a<=most:=by
 have hwa:0<=w*a:=Int.mul_nonneg h3 h5
 have hwa2:w*a<=w*9:=Int.mul_le_mul_of_nonneg_left h6 h3
 have:w*a<=8000000000000000000:=by rcases hs with h | h <;> omega
 unfold capMul
 rw[yec (n:=w*a) (by omega) (by omega),yec (n:=acc+w*a) (by omega) (by omega)]
 split <;> omega
theorem yjs1 {β:Type} {g:β->Nat->β} {s:β} {n:Nat} (I:β->Prop) (h0:I s) (hs:∀ b i,i<n->I b->I (g b i)):I (foldN n g s):=by
 induction n with
 | zero=>exact h0
 | succ n ih=>rw[yru];exact hs _ n (by omega) (ih fun b i hi=>hs b i (by omega))
theorem yby {n:Nat} {G:Nat->Nat->Int} {most:Int} (hG:∀ i j,i<n->j<n->0<=G i j/\G i j<=9) (hm:1<=most) (hm2:most<=100000000000000000):∀ (m i j:Nat),i<n->j<n->0<=powN n G most m i j/\powN n G most m i j<=most
 | 0,i,j,_,_=>by unfold powN idM;split <;> omega
 | m+1,i,j,hi,hj=>by
  show 0<=foldN n _ 0/\foldN n _ 0<=most
  exact yjs1 (fun x=>0<=x/\x<=most) ⟨by omega,by omega⟩ fun b k hk hb=>by
   have h1:=yby hG hm hm2 m i k hi hk;have h2:=hG k j hk hj;exact yfk1 (by omega) (by omega) hb.1 hb.2 h1.1 h1.2 h2.1 h2.2 (.inl hm2)
theorem ymz1 (xs:List Int) (v:Int) (hv:0<=v/\v<=1000000000000) (hx:∀ x∈xs,0<=x/\x<=1000000001) (hl:xs.length<=8) :
  loopO (yje xs) (v,0)=some (v+xs.sum):=by
 have hb:∀ i,i<=xs.length->0<=(xs.take i).sum/\(xs.take i).sum<=1000000001*i:=by
  intro i;induction i with
  | zero=>simp
  | succ i ih =>
   intro hi;have h1:=ih (by omega)
   have h2:=hx xs[i] (List.getElem_mem (by omega))
   rw[List.take_add_one,List.sum_append,List.getElem?_eq_getElem (by omega)];simp only[Option.toList_some,List.sum_cons,List.sum_nil];omega
 have h:=ydc (body:=yje xs) xs.length (fun i=>(v+(xs.take i).sum,(i:Int))) (v+xs.sum) (fun i hi=>by
  have h1:=hb i (by omega)
  have h2:=hb (i+1) (by omega)
  have h3:(xs.take (i+1)).sum=(xs.take i).sum+xs[i]:=by
   rw[List.take_add_one,List.sum_append,List.getElem?_eq_getElem hi];simp
  simp only[yje,ytf hi,Option.bind_some,yta (show i<9223372036854775807 by omega),show((i:Int)<(xs.length:Int)) from by omega,decide_true,if_true];rw[yec (by omega) (by omega),h3,Int.add_assoc]) (by simp[yje])
 simpa using h
def capAt (x:Int):Int:=if 1000000001<x then 1000000001 else x
def total (g:List (List Int)):Int:=(g.map List.sum).sum
theorem yrc1 {xs:List Int} (hx:∀ x∈xs,0<=x/\x<=1000000001):0<=xs.sum/\xs.sum<=1000000001*xs.length:=by
 induction xs with
 | nil=>simp
 | cons x xs ih =>
  have h1:=hx x (by simp)
  have h2:=ih fun y hy=>hx y (by simp[hy])
  simp only[List.sum_cons,List.length_cons];omega
theorem yhi1 {g:List (List Int)} (hx:∀ row∈g,row.length<=8/\∀ x∈row,0<=x/\x<=1000000001):∀ i,i<=g.length->0<=total (g.take i)/\total (g.take i)<=10000000000*i:=by
 intro i
 induction i with
 | zero=>simp[total]
 | succ i ih =>
  intro hi;have h1:=ih (by omega)
  have h2:=hx g[i] (List.getElem_mem (by omega))
  have h3:=yrc1 h2.2;unfold total at h1 ⊢
  rw[List.take_add_one,List.map_append,List.sum_append,List.getElem?_eq_getElem (by omega)];simp only[Option.toList_some,List.map_cons,List.map_nil,List.sum_cons,List.sum_nil];omega
theorem yii1 {g:List (List Int)} {i:Nat} (hi:i<g.length):total (g.take (i+1))=total (g.take i)+g[i].sum:=by
 unfold total
 rw[List.take_add_one,List.map_append,List.sum_append,List.getElem?_eq_getElem hi];simp
theorem yji1 (g:List (List Int)) (hl:g.length<=8) (hx:∀ row∈g,row.length<=8/\∀ x∈row,0<=x/\x<=1000000001):loopO (yke g) (0,0)=some (total g):=by
 have h:=ydc (body:=yke g) g.length (fun i=>(total (g.take i),(i:Int))) (total g) (fun i hi=>by
  have h1:=yhi1 hx i (by omega)
  have h2:=hx g[i] (List.getElem_mem hi)
  simp only[yke,ytf hi,Option.bind_some,ymz1 g[i] _ ⟨h1.1,by omega⟩ h2.2 h2.1,ybk,yta (show i<9223372036854775807 by omega),show((i:Int)<(g.length:Int)) from by omega,decide_true,if_true]
  rw[yii1 hi]) (by simp[yke])
 exact h
theorem ygk1 {n:Nat} {F:Nat->Nat->Int} (hn:n<=8) (hF:∀ i j,i<n->j<n->0<=F i j/\F i j<=1000000001):∀ row∈mat n n F,row.length<=8/\∀ x∈row,0<=x/\x<=1000000001:=by
 intro row hr
 obtain⟨i,hi,rfl⟩:=tab_mem.1 hr
 refine⟨by rw[yab];exact hn,fun x hx=>?_⟩
 obtain⟨j,hj,rfl⟩:=tab_mem.1 hx
 exact hF i j hi hj
def totalWalks (g:List (List Int)) (m:Int):Int×Bool :=
 if isGraph g&&inB 0 12 m then
  let t:=total (mat g.length g.length (powN g.length (fun i j=>(g.getD i []).getD j 0) 1000000001 m.toNat))
  if t>1000000000 then(0,false) else(t,true)
 else(0,false)
theorem ylp1 {n:Nat} {G:Nat->Nat->Int} (i j:Nat) (hi:i<n) (hj:j<n):((mat n n G).getD i []).getD j 0=G i j:=by
 simp[List.getD,mat,yxr hi,yxr hj]
theorem ysc1 {n:Nat} {G G':Nat->Nat->Int} {most:Int} (h:∀ i j,i<n->j<n->G i j=G' i j):∀ m i j,j<n->powN n G most m i j=powN n G' most m i j
 | 0,_,_,_=>rfl
 | m+1,i,j,hj=>by
  show foldN n _ 0=foldN n _ 0
  exact yis1 fun b k hk=>by rw[ysc1 h m i k hk,h k j hk hj]
theorem yvz (g:List (List Int)) (m:Int) (hs:sized g):yki g m=some (totalWalks g m):=by
 unfold yki totalWalks ycm
 rw[yuo g hs]
 simp only[Option.bind_some,yxc]
 cases hg:isGraph g
 ·rfl
 cases hm:inB 0 12 m
 ·rfl
 obtain⟨n,G,h1,h2,rfl,hG⟩:=yrm1 hg
 have hm':=inB_iff.1 hm
 obtain⟨k,rfl⟩:=Int.eq_ofNat_of_zero_le hm'.1
 have e:mat n n (powN n (fun i j=>((mat n n G).getD i []).getD j 0) 1000000001 k)=mat n n (powN n G 1000000001 k):=yqu fun i j _ hj=>ysc1 (fun i j hi hj=>ylp1 i j hi hj) k i j hj
 simp only[if_true,Bool.not_true,Bool.false_eq_true,if_false,Bool.and_self,yzq,yup h2 k (by omega),Option.bind_some,ysg,Int.toNat_natCast,e]
 rw[yji1 _ (by rw[ysg];exact h2) (ygk1 h2 fun i j hi hj=>yby hG (by decide) (by decide) k i j hi hj)]
 simp only[Option.bind_some,yak]
 by_cases ht:total (mat n n (powN n G 1000000001 k))>1000000000 <;> simp[ht]
end Go.PV

/-
 Plain laws: characteristic polynomials.
 Conditions: none.
-/
set_option linter.all false
namespace Go.PV
def mulW (n:Nat) (A M:Nat->Nat->Int) (i j:Nat):Int:=foldN n (fun s l=>w64 (s+w64 (A i l*M l j))) 0
def trW (n:Nat) (P:Nat->Nat->Int):Int:=foldN n (fun s i=>w64 (s+P i i)) 0
def addD (M:Nat->Nat->Int) (c:Int) (i j:Nat):Int:=if i=j then w64 (M i j+c) else M i j
section
variable {n:Nat} {A:Nat->Nat->Int}
def chN (n:Nat) (A:Nat->Nat->Int):Nat->(Nat->Int)×(Nat->Nat->Int)
 | 0=>(fun i=>if i=n then 1 else 0,fun _ _=>0)
 | k+1=>(fun i=>if i=n-(k+1) then w64 (Int.tdiv (w64 (0-trW n (mulW n A (addD (chN n A k).2 ((chN n A k).1 (n-k)))))) ((k+1:Nat):Int)) else(chN n A k).1 i,mulW n A (addD (chN n A k).2 ((chN n A k).1 (n-k))))
end
def isPoly (c:List Int):Bool:=decide ((c.length:Int)<=9)&&(c.all (inB (-1000000) 1000000))
end Go.PV

/-
 Plain laws: greatest divisors,fractions,floors,fractions reduced.
 Conditions: none.
-/
namespace Go.PV
theorem ycy (a b:Nat) (hb:b≠0):Nat.gcd b (a % b)=Nat.gcd a b:=by
 rw[Nat.gcd_comm a b,Nat.gcd_rec b a,Nat.gcd_comm]
theorem yki1 (b:Nat):∀ a:Nat,loopO yld ((a:Int),(b:Int))=some ((Nat.gcd a b:Nat):Int):=by
 induction b using Nat.strongRecOn with
 | ind b ih =>
  intro a;rw[ybu];by_cases hb:b=0
  ·subst hb;simp[yld]
  have hb':((b:Int) != 0)=true:=by simp;omega
  simp only[yld,hb',if_true,yea (show(b:Int)≠0 by omega)];have:Int.tmod (a:Int) (b:Int)=((a % b:Nat):Int):=rfl
  rw[this,ih (a % b) (Nat.mod_lt _ (by omega)) b,ycy a b hb]
theorem yli1 (b:Nat):∀ a:Nat,loopO yfj ((a:Int),(b:Int))=some ((Nat.gcd a b:Nat):Int):=by
 induction b using Nat.strongRecOn with
 | ind b ih =>
  intro a;rw[ybu];by_cases hb:b=0
  ·subst hb;simp[yfj]
  have hb':decide ((b:Int)>0)=true:=by simp;omega
  simp only[yfj,hb',if_true,yea (show(b:Int)≠0 by omega)];have:Int.tmod (a:Int) (b:Int)=((a % b:Nat):Int):=rfl
  rw[this,ih (a % b) (Nat.mod_lt _ (by omega)) b,ycy a b hb]
theorem yze1 (a:Int) (h : -9223372036854775808<a) (h2:a<=9223372036854775807):yha1 a=some (a.natAbs:Int):=by
 unfold yha1
 by_cases ha:a<0
 ·simp only[ha,decide_true,if_true];rw[yec (by omega) (by omega)];congr 1;omega
 simp only[ha,decide_false,Bool.false_eq_true,if_false];congr 1;omega
theorem ysu (a:Int) (h : -9223372036854775808<a) (h2:a<=9223372036854775807):yvq a=some (a.natAbs:Int):=by
 unfold yvq yco
 rw[yec (by omega) (by omega)]
 by_cases ha:a>0-a
 ·simp only[ha,decide_true,if_true,Option.bind_some];congr 1;omega
 simp only[ha,decide_false,Bool.false_eq_true,if_false,Option.bind_some];congr 1;omega
theorem yun (a b:Int) (h : -9223372036854775808<a) (h2:a<=9223372036854775807) (h3 : -9223372036854775808<b) (h4:b<=9223372036854775807) :
  ynd a b=some ((Int.gcd a b:Nat):Int):=by
 simp only[ynd,yze1 a h h2,yze1 b h3 h4,Option.bind_some,yki1,yve]
 rfl
theorem ytu (a b:Int) (h:0<=a) (h2:0<=b):yam a b=some ((Int.gcd a b:Nat):Int):=by
 obtain⟨m,rfl⟩:=Int.eq_ofNat_of_zero_le h
 obtain⟨n,rfl⟩:=Int.eq_ofNat_of_zero_le h2
 simp only[yam]
 rw[yli1]
 rfl
def isRat (r:Int×Int):Bool:=inB 1 1000000000 r.2&&(inB (-1000000000) 1000000000 r.1&&(Int.gcd r.1 r.2:Int)==1)
theorem isRat_iff {r:Int×Int}:isRat r=true↔1<=r.2/\r.2<=1000000000 /\ -1000000000<=r.1/\r.1<=1000000000/\Int.gcd r.1 r.2=1:=by
 simp only[isRat,Bool.and_eq_true,inB_iff,beq_iff_eq]
 constructor
 ·rintro⟨⟨h1,h2⟩,⟨h3,h4⟩,h5⟩;exact⟨h1,h2,h3,h4,by omega⟩
 rintro⟨h1,h2,h3,h4,h5⟩;exact⟨⟨h1,h2⟩,⟨h3,h4⟩,by omega⟩
theorem yuu (r:Int×Int):yxq r=some (isRat r):=by
 unfold yxq isRat
 simp only[yxc,Option.bind_some]
 cases h1:inB 1 1000000000 r.2
 ·rfl
 cases h2:inB (-1000000000) 1000000000 r.1
 ·rfl
 have h1':=inB_iff.1 h1
 have h2':=inB_iff.1 h2
 simp only[if_true,yun r.1 r.2 (by omega) (by omega) (by omega) (by omega),Option.bind_some,Bool.true_and]
theorem yaq (r:Int×Int):ybm r=some (isRat r):=by
 unfold ybm isRat
 simp only[yqe,Option.bind_some]
 cases h1:inB 1 1000000000 r.2
 ·rfl
 cases h2:inB (-1000000000) 1000000000 r.1
 ·rfl
 have h1':=inB_iff.1 h1
 have h2':=inB_iff.1 h2
 simp only[if_true,ysu r.1 (by omega) (by omega),ytu _ r.2 (Int.natCast_nonneg _) (by omega),Option.bind_some,Bool.true_and]
 rfl
theorem yks (l:List (Int×Int)) (hl:l.length<=4611686018427387904):yol l=some (l.all isRat):=by
 have h:=ydk1 (xs:=l) (body:=yrk l) (fun x=> !isRat x) (fun i=>(i:Int)) (.inl false) (.inr ()) (fun i x hx=>by
  have hi:=getElem?_lt hx
  simp only[yrk,ydj,hx,yuu,Option.bind_some,yta (show i<9223372036854775807 by omega),show((i:Int)<(l.length:Int)) from by omega,decide_true,if_true];cases isRat x <;> rfl) (by simp[yrk])
 unfold yol
 rw[show(0:Int)=((0:Nat):Int) from rfl,h,List.any_eq_not_all_not]
 simp only[Bool.not_not]
 cases l.all isRat <;> rfl
def lowest (n d:Int):(Int×Int)×Bool :=
 let g:=if d<0 then -(Int.gcd n d:Int) else Int.gcd n d
 if isRat (Int.tdiv n g,Int.tdiv d g) then((Int.tdiv n g,Int.tdiv d g),true) else((0,0),false)
theorem yag1 (n g:Int) (h : -9223372036854775808<n) (h2:n<=9223372036854775807) (hg:g≠0):w64 (Int.tdiv n g)=Int.tdiv n g:=by
 have h1:(Int.tdiv n g).natAbs<=n.natAbs:=by rw[Int.natAbs_tdiv];exact Nat.div_le_self _ _
 exact yec (by omega) (by omega)
theorem ymt (n d:Int) (hd:d≠0) (h : -9223372036854775808<n) (h2:n<=9223372036854775807) (h3 : -9223372036854775808<d) (h4:d<=9223372036854775807):ydo n d=some (lowest n d):=by
 have hg0:Int.gcd n d≠0:=by rw[Ne,Int.gcd_eq_zero_iff];omega
 have hgl:(Int.gcd n d:Int)<=9223372036854775807:=by
  have:Int.gcd n d<=d.natAbs:=Nat.gcd_le_right _ (by omega)
  omega
 have key:∀ g:Int,g≠0->yyj n d g=some (if isRat (Int.tdiv n g,Int.tdiv d g) then((Int.tdiv n g,Int.tdiv d g),true) else((0,0),false)):=fun g hg=>by
  simp only[yyj,yea hg,yag1 n g h h2 hg,yag1 d g h3 h4 hg,yuu,Option.bind_some];cases isRat (Int.tdiv n g,Int.tdiv d g) <;> rfl
 unfold ydo lowest
 simp only[yun n d h h2 h3 h4,Option.bind_some]
 by_cases hneg:d<0
 ·simp only[hneg,decide_true,if_true]
  rw[show(0:Int)-(Int.gcd n d:Int) = -(Int.gcd n d:Int) by omega,yec (by omega) (by omega),key _ (by omega)]
 simp only[hneg,decide_false,Bool.false_eq_true,if_false]
 rw[key _ (by omega)]
theorem yvp {a b:Int} (ha : -1000000000<=a) (ha2:a<=1000000000) (hb : -1000000000<=b) (hb2:b<=1000000000) : -1000000000000000000<=a*b/\a*b<=1000000000000000000:=by
 have h1:(a*b).natAbs<=1000000000*1000000000:=by
  rw[Int.natAbs_mul];exact Nat.mul_le_mul (by omega) (by omega)
 omega
theorem ybe1 (a b:Int×Int):ypl a b=some (if isRat a&&isRat b then lowest (a.1*b.2+b.1*a.2) (a.2*b.2) else((0,0),false)):=by
 unfold ypl
 rw[yks _ (by simp)]
 simp only[Option.bind_some,List.all_cons,List.all_nil,Bool.and_true]
 cases ha:isRat a
 ·rfl
 cases hb:isRat b
 ·rfl
 obtain⟨a1,a2,a3,a4,_⟩:=isRat_iff.1 ha
 obtain⟨b1,b2,b3,b4,_⟩:=isRat_iff.1 hb
 have m1:=yvp a3 a4 (show -1000000000<=b.2 by omega) b2
 have m2:=yvp b3 b4 (show -1000000000<=a.2 by omega) a2
 have m3:=yvp (show -1000000000<=a.2 by omega) a2 (show -1000000000<=b.2 by omega) b2
 have hne:a.2*b.2≠0:=Int.mul_ne_zero (by omega) (by omega)
 simp only[Bool.and_self,Bool.not_true,Bool.false_eq_true,if_false,if_true]
 rw[yec (n:=a.1*b.2) (by omega) (by omega),yec (n:=b.1*a.2) (by omega) (by omega),yec (n:=a.1*b.2+b.1*a.2) (by omega) (by omega),yec (n:=a.2*b.2) (by omega) (by omega),ymt _ _ hne (by omega) (by omega) (by omega) (by omega)]
 rfl
def near (r:Int×Int):Bool:=isRat r&&inB (-1000*r.2) (1000*r.2) r.1
def cmp (a b:Int×Int):Int:=if a.1*b.2<b.1*a.2 then -1 else if a.1*b.2>b.1*a.2 then 1 else 0
def tame (r:Int×Int):Prop := -1000000000<=r.1/\r.1<=1000000000 /\ -1000000000<=r.2/\r.2<=1000000000
theorem yye {r:Int×Int} (h:isRat r=true):tame r:=by
 obtain⟨h1,h2,h3,h4,_⟩:=isRat_iff.1 h
 exact⟨h3,h4,by omega,h2⟩
theorem yiw (a b:Int×Int) (ha:tame a) (hb:tame b):ygj a b=some (cmp a b):=by
 obtain⟨a1,a2,a3,a4⟩:=ha
 obtain⟨b1,b2,b3,b4⟩:=hb
 have m1:=yvp a1 a2 b3 b4
 have m2:=yvp b1 b2 a3 a4
 unfold ygj cmp
 rw[yec (n:=a.1*b.2) (by omega) (by omega),yec (n:=b.1*a.2) (by omega) (by omega)]
 by_cases h1:a.1*b.2<b.1*a.2
 ·simp[h1]
 by_cases h2:a.1*b.2>b.1*a.2
 ·simp[h1,h2]
 simp[h1,h2]
def less (a b:Int×Int):Bool:=decide (a.1*b.2<b.1*a.2)
theorem yre (a b:Int×Int) (ha:tame a) (hb:tame b):yvf a b=some (less a b):=by
 unfold yvf less
 rw[yiw a b ha hb]
 unfold cmp
 by_cases h1:a.1*b.2<b.1*a.2
 ·simp[h1]
 by_cases h2:a.1*b.2>b.1*a.2
 ·simp[h1,h2]
 simp[h1,h2]
def floorDiv (n d:Int):Int:=if Int.tmod n d<0 then Int.tdiv n d-1 else Int.tdiv n d
theorem ymi1 (n d:Int):(Int.tdiv n d).natAbs<=n.natAbs:=by rw[Int.natAbs_tdiv];exact Nat.div_le_self _ _
def reduceRat (r:Int×Int):(Int×Int)×Bool:=if near r then((r.1-floorDiv r.1 r.2*r.2,r.2),true) else((0,0),false)
end Go.PV

set_option linter.all false
namespace Go.PV
abbrev Pt:=(Int×Int)×(Int×Int)
def zP:Pt:=((0,0),(0,0))
theorem yoi (xs:List Pt) (f:Pt->Option Bool) (p:Pt->Bool) (hf:∀ x,f x=some (p x)) (hl:xs.length<=4611686018427387904) :
  yha xs f=some (match xs.findIdx? p with | some i=>(i:Int) | none => -1):=by
 have h:=yvm (xs:=xs) (body:=yia xs f) p (fun i=>(i:Int)) (fun i=>.inl (i:Int)) (.inr ()) (fun i x hx=>by
  have hi:=getElem?_lt hx
  simp only[yia,ydj,hx,hf,Option.bind_some,yta (show i<9223372036854775807 by omega),show((i:Int)<(xs.length:Int)) from by omega,decide_true,if_true]
  cases p x <;> rfl) (by simp[yia])
 unfold yha
 rw[show(0:Int)=((0:Nat):Int) from rfl,h]
 cases xs.findIdx? p <;> rfl
theorem yhh (xs:List Pt) (f:Pt->Option Bool) (p:Pt->Bool) (hf:∀ x,f x=some (p x)) (hl:xs.length<=4611686018427387904):ydb xs f=some (xs.any p):=by
 simp only[ydb,yoi xs f p hf hl,Option.bind_some]
 cases h:xs.findIdx? p with
 | none =>
  have hn:=List.findIdx?_eq_none_iff.1 h
  have:xs.any p=false:=by simpa using hn
  simp[this]
 | some m =>
  obtain⟨hm,hp,_⟩:=List.findIdx?_eq_some_iff_getElem.1 h
  have:xs.any p=true:=List.any_eq_true.2 ⟨xs[m],List.getElem_mem hm,hp⟩
  simp[this]
theorem yuf (a b:Int×Int) (ha:tame a) (hb:tame b):ygc a b=some (cmp a b):=by
 obtain⟨a1,a2,a3,a4⟩:=ha
 obtain⟨b1,b2,b3,b4⟩:=hb
 have m1:=yvp a1 a2 b3 b4
 have m2:=yvp b1 b2 a3 a4
 unfold ygc ydm cmp
 rw[yec (n:=a.1*b.2) (by omega) (by omega),yec (n:=b.1*a.2) (by omega) (by omega),yec (n:=a.1*b.2-b.1*a.2) (by omega) (by omega)]
 by_cases h1:a.1*b.2<b.1*a.2
 ·have:¬ (a.1*b.2-b.1*a.2>0):=by omega
  have h3:a.1*b.2-b.1*a.2<0:=by omega
  simp[h1,h3];omega
 by_cases h2:a.1*b.2>b.1*a.2
 ·have:a.1*b.2-b.1*a.2>0:=by omega
  simp[h1,h2,this]
 have h3:¬ (a.1*b.2-b.1*a.2>0):=by omega
 have h4:¬ (a.1*b.2-b.1*a.2<0):=by omega
 simp[h1,h2,h3,h4]
theorem ynz1 (a b:Int×Int):decide (cmp a b>=0) = !less a b:=by
 unfold cmp less
 by_cases h1:a.1*b.2<b.1*a.2
 ·simp[h1]
 by_cases h2:a.1*b.2>b.1*a.2 <;> simp[h1,h2]
theorem yxv1 (a b:Int×Int):(cmp a b==0)=(a.1*b.2==b.1*a.2):=by
 unfold cmp
 by_cases h1:a.1*b.2<b.1*a.2
 ·have:¬ a.1*b.2=b.1*a.2:=by omega
  simp[h1,this]
 by_cases h2:a.1*b.2>b.1*a.2
 ·have:¬ a.1*b.2=b.1*a.2:=by omega
  simp[h1,h2,this]
 have:a.1*b.2=b.1*a.2:=by omega
 simp[this]
def isUnit (r:Int×Int):Bool:=isRat r&&inB 0 r.2 r.1
def coord (r:Int×Int):Bool:=isUnit r&&decide (r.2<=100)
theorem ywj (r:Int×Int):yvg r=some (isUnit r):=by
 unfold yvg isUnit
 simp only[yaq,Option.bind_some,yqe]
 cases isRat r <;> simp
theorem ywm (r:Int×Int):yfm r=some (isUnit r):=by
 simp[yfm,yuu,isUnit,inB]
theorem yce1 (r:Int×Int):ygo r=some (coord r):=by simp[ygo,ywj,coord]
theorem yde1 (r:Int×Int):yho r=some (coord r):=by simp[yho,ywm,coord]
theorem yph {r:Int×Int} (h:coord r=true):isRat r=true:=by
 simp only[coord,isUnit,Bool.and_eq_true] at h
 exact h.1.1
def goodPt (p:Pt):Bool:=coord p.1&&(isRat p.2&&(decide (p.2.2<=100)&&inB (-5*p.2.2) (5*p.2.2) p.2.1))
def stepPt (a b:Pt):Bool:=less a.1 b.1 && !less b.2 a.2
def steps (xs:List Pt) (n:Nat):Prop:=∀ i a b,0<i->i<n->xs[i-1]?=some a->xs[i]?=some b->stepPt a b=true
def ends (xs:List Pt):Bool:=match xs[0]?,xs[xs.length-1]? with
 | some a,some b=>(a.1==(0,1))&&((b.1==(1,1))&&(b.2==(a.2.1+a.2.2,a.2.2)))
 | _,_=>false
open Classical in
noncomputable def isLift (xs:List Pt):Bool:=inB 2 12 xs.length&&(decide (xs.all goodPt=true/\steps xs xs.length)&&ends xs)
end Go.PV

set_option linter.all false
namespace Go.PV
theorem yhk1 {n d:Int} (h1:0<=n) (h2:n<=1000000000) (h3:1<=d) (h4:d<=1000000000):isRat (lowest n d).1=true:=by
 have hg:0<Int.gcd n d:=Int.gcd_pos_of_ne_zero_right _ (by omega)
 have key:isRat (Int.tdiv n (Int.gcd n d:Int),Int.tdiv d (Int.gcd n d:Int))=true:=by
  obtain⟨a,rfl⟩:=Int.eq_ofNat_of_zero_le h1;obtain⟨b,rfl⟩:=Int.eq_ofNat_of_zero_le (show 0<=d by omega)
  have e:Int.gcd (a:Int) (b:Int)=Nat.gcd a b:=rfl
  rw[e] at hg ⊢
  have e1:Int.tdiv (a:Int) ((Nat.gcd a b:Nat):Int)=((a / Nat.gcd a b:Nat):Int):=by rw[Int.tdiv_eq_ediv_of_nonneg (by omega)];rfl
  have e2:Int.tdiv (b:Int) ((Nat.gcd a b:Nat):Int)=((b / Nat.gcd a b:Nat):Int):=by rw[Int.tdiv_eq_ediv_of_nonneg (by omega)];rfl
  rw[e1,e2,isRat_iff];have l1:a / Nat.gcd a b<=a:=Nat.div_le_self _ _
  have l2:b / Nat.gcd a b<=b:=Nat.div_le_self _ _
  have l3:0<b / Nat.gcd a b:=Nat.div_pos (Nat.le_of_dvd (by omega) (Nat.gcd_dvd_right a b)) hg
  have l4:((a / Nat.gcd a b:Nat):Int)<=1000000000:=by omega
  have l5:((b / Nat.gcd a b:Nat):Int)<=1000000000:=by omega
  have l6:1<=((b / Nat.gcd a b:Nat):Int):=by omega
  have l7:0<=((a / Nat.gcd a b:Nat):Int):=Int.natCast_nonneg _
  generalize hA:((a / Nat.gcd a b:Nat):Int)=A at l4 l7 ⊢
  generalize hB:((b / Nat.gcd a b:Nat):Int)=B at l5 l6 ⊢
  refine⟨l6,l5,by show -1000000000<=A;omega,l4,?_⟩
  rw[← hA,← hB];exact Nat.coprime_div_gcd_div_gcd hg
 have hdn:¬ d<0:=by omega
 unfold lowest
 simp only[if_neg hdn]
 rw[if_pos key]
 exact key
theorem ymp1 {a b:Int×Int} (ha:isRat a=true) (hb:isRat b=true) (h:a.1*b.2=b.1*a.2):a=b:=by
 obtain⟨a1,a2,a3,a4,a5⟩:=isRat_iff.1 ha
 obtain⟨b1,b2,b3,b4,b5⟩:=isRat_iff.1 hb
 obtain⟨p,q⟩:=a
 obtain⟨r,s⟩:=b
 simp only at *
 have hn:p.natAbs*s.natAbs=r.natAbs*q.natAbs:=by rw[← Int.natAbs_mul,← Int.natAbs_mul,h]
 have c1:Nat.Coprime p.natAbs q.natAbs:=a5
 have c2:Nat.Coprime r.natAbs s.natAbs:=b5
 have d1:s.natAbs∣q.natAbs:=by
  have:s.natAbs∣r.natAbs*q.natAbs:=⟨p.natAbs,by rw[← hn];exact Nat.mul_comm _ _⟩
  exact c2.symm.dvd_of_dvd_mul_left this
 have d2:q.natAbs∣s.natAbs:=by
  have:q.natAbs∣p.natAbs*s.natAbs:=⟨r.natAbs,by rw[hn];exact Nat.mul_comm _ _⟩
  exact c1.symm.dvd_of_dvd_mul_left this
 have hqs:q.natAbs=s.natAbs:=Nat.dvd_antisymm d2 d1
 have hq:q=s:=by omega
 subst hq
 have:p=r:=Int.eq_of_mul_eq_mul_right (by omega) h
 rw[this]
def dotN (G:Nat->Int) (v:Nat->Int) (n:Nat):Int:=foldN n (fun s j=>s+G j*v j) 0
end Go.PV

set_option linter.all false
namespace Go.PV
def minStep (a b:Int×Int):Int×Int:=if less b a=true then b else a
def maxStep (a b:Int×Int):Int×Int:=if less a b=true then b else a
def mnN (r:Nat->Int×Int) (i:Nat):Int×Int:=foldN i (fun s j=>minStep s (r j)) (r 0)
def mxN (r:Nat->Int×Int) (i:Nat):Int×Int:=foldN i (fun s j=>maxStep s (r j)) (r 0)
theorem yrb2 (a b:Int×Int):decide (cmp a b<0)=less a b:=by
 unfold cmp less
 by_cases h1:a.1*b.2<b.1*a.2
 ·simp[h1]
 by_cases h2:a.1*b.2>b.1*a.2 <;> simp[h1,h2]
def ratN (G:Nat->Nat->Int) (v:Nat->Int) (n i:Nat):Int×Int:=(lowest (dotN (G i) v n) (v i)).1
section
variable {n:Nat} {G:Nat->Nat->Int} {v:Nat->Int}
end
def asked (g:List (List Int)) (u:List Int):Bool:=isGraph g&&(isVec u&&((u.length:Int)==(g.length:Int)))
end Go.PV

/-
 Plain laws: lists turned round,ones.
 Conditions: none.
-/
set_option linter.all false
namespace Go.PV
section
variable {α:Type} [Inhabited α]
def revSt (xs:List α) (k:Nat):List α:=tab xs.length fun p=>if p<k\/xs.length<=p+k then xs.getD (xs.length-1-p) default else xs.getD p default
end
def trimZ (c:List Int):List Int:=(c.reverse.dropWhile (·==0)).reverse
end Go.PV

set_option linter.all false
namespace Go.PV
theorem ysb2 (a b:Int×Int):decide (cmp a b<=0) = !less b a:=by
 unfold cmp less
 by_cases h1:a.1*b.2<b.1*a.2
 ·have:¬ b.1*a.2<a.1*b.2:=by omega
  simp[h1,this]
 by_cases h2:a.1*b.2>b.1*a.2
 ·have h3:b.1*a.2<a.1*b.2:=h2
  simp[h1,h3]
 have:¬ b.1*a.2<a.1*b.2:=by omega
 simp[h1,this]
end Go.PV

/-
 Plain laws: vectors of walks,bounds of growth.
 Conditions: none.
-/
set_option linter.all false
namespace Go.PV
def vk (G:Nat->Nat->Int) (n:Nat):Nat->Nat->Int
 | 0=>fun _=>1
 | k+1=>fun j=>dotN (G j) (vk G n k) n+vk G n k j
def mxg (G:Nat->Nat->Int) (n:Nat):Nat->Nat
 | 0=>0
 | k+1=>if mxg G n k=k/\isVec (tab n (vk G n (k+1)))=true then k+1 else mxg G n k
section
variable {n:Nat} {G:Nat->Nat->Int}
def bestT (G:Nat->Nat->Int) (n:Nat):(Int×Int)×(Int×Int)×Int×Bool:=(mnN (ratN G (vk G n (mxg G n 20)) n) n,mxN (ratN G (vk G n (mxg G n 20)) n) n,((mxg G n 20:Nat):Int),true)
end
end Go.PV

/-
 Plain laws: what draws from bytes always comes to an end.
 Conditions: none.
-/
set_option linter.all false
namespace Go.PV
def Tot {α:Type} (o:Option α) (P:α->Prop):Prop:=∃ r,o=some r/\P r
section
variable {α β:Type} {P:α->Prop} {Q:β->Prop}
theorem Tot.bind {o:Option α} {f:α->Option β} (h:Tot o P) (k:∀ r,P r->Tot (f r) Q):Tot (o.bind f) Q:=by
 obtain⟨r,rfl,hr⟩:=h
 exact k r hr
theorem Tot.mono {P':α->Prop} {o:Option α} (h:Tot o P) (k:∀ r,P r->P' r):Tot o P':=by
 obtain⟨r,h,hr⟩:=h
 exact⟨r,h,k r hr⟩
theorem Tot.ret {r:α} (h:P r):Tot (some r) P:=⟨r,rfl,h⟩
theorem Tot.ite {c:Bool} {x y:Option α} (h1:c=true->Tot x P) (h2:c=false->Tot y P):Tot (if c=true then x else y) P:=by
 cases c
 ·exact h2 rfl
 exact h1 rfl
theorem Tot.guard {p:Prop} [Decidable p] {f:Unit->Option α} (h:p) (k:Tot (f ()) P):Tot ((guardO p).bind f) P:=by
 rw[yea h];exact k
def Lp {X Y:Type} (I:X->Prop) (R:Y->Prop):X ⊕ Y->Prop
 | .inl x=>I x
 | .inr y=>R y
theorem Tot.inl {X Y:Type} {I:X->Prop} {R:Y->Prop} {x:X} (h:I x):Tot (some (Sum.inl x)) (Lp I R):=⟨_,rfl,h⟩
theorem Tot.inr {X Y:Type} {I:X->Prop} {R:Y->Prop} {y:Y} (h:R y):Tot (some (Sum.inr y)) (Lp I R):=⟨_,rfl,h⟩
theorem Tot.loop {X Y:Type} {body:X->Option (X ⊕ Y)} {R:Y->Prop} (Inv:X->Prop) (μ:X->Nat)
  (h:∀ x,Inv x->Tot (body x) (Lp (fun x'=>Inv x'/\μ x'<μ x) R)) (x0:X) (h0:Inv x0):Tot (loopO body x0) R:=by
 obtain⟨y,h1,h2⟩:=yao (body:=body) Inv μ R (fun x hx=>by
  obtain⟨r,e,hr⟩:=h x hx;cases r with
  | inl x'=>exact .inl ⟨x',e,hr.1,hr.2⟩
  | inr y=>exact .inr ⟨y,e,hr⟩) x0 h0
 exact⟨y,h1,h2⟩
end
theorem Tot.idx {α β:Type} {xs:List α} {i:Int} {f:α->Option β} {Q:β->Prop} (h0:0<=i) (h1:i<xs.length) (k:∀ x,x∈xs->Tot (f x) Q):Tot ((idxO xs i).bind f) Q:=by
 obtain⟨m,rfl⟩:=Int.eq_ofNat_of_zero_le h0
 have hm:m<xs.length:=by omega
 rw[ytf hm,Option.bind_some]
 exact k _ (List.getElem_mem hm)
abbrev Cur:=List Int×Int×Int
def Bytes (l:List Int):Prop:=l.length<=9223372036854775807/\∀ b∈l,0<=b/\b<=255
def Ck (B:Nat) (c:Cur):Prop:=Bytes c.1/\0<=c.2.1/\c.2.1<=B
theorem Ck.mono {B B':Nat} {c:Cur} (h:Ck B c) (hb:B<=B'):Ck B' c:=⟨h.1,h.2.1,by have:=h.2.2;omega⟩
theorem ck0 {l:List Int} (h:Bytes l):Ck 0 (l,0,0):=⟨h,by simp,by simp⟩
theorem yoz1 (n:Int):IntKind.u64.wrap n=n % 18446744073709551616:=by simp[IntKind.wrap,IntKind.bits,IntKind.signed]
theorem ynp1 (n:Int):IntKind.wrap .i64 n=w64 n:=rfl
theorem yyv1 (x:Int):0<=iand .u64 x 255/\iand .u64 x 255<=255:=by
 unfold iand
 have h:((BitVec.ofInt (IntKind.bits .u64) x) &&& (BitVec.ofInt (IntKind.bits .u64) 255)).toNat<=255:=by
  rw[BitVec.toNat_and];have:(BitVec.ofInt (IntKind.bits .u64) 255).toNat=255:=by decide
  rw[this];exact Nat.and_le_right
 rw[yoz1,Int.emod_eq_of_lt (by omega) (by omega)]
 omega
theorem yau1 {B:Nat} {c:Cur} (h:Ck B c) (hB:B<=1152921504606846976):Tot (yli c) fun r=>(0<=r.1/\r.1<=255)/\Ck (B+1) r.2:=by
 obtain⟨⟨hl,hb⟩,h0,h1⟩:=h
 have hw:w64 (c.2.1+1)=c.2.1+1:=yec (by omega) (by omega)
 have key:∀ x:Int,0<=x->x<=255->Tot (yme c x) fun r=>(0<=r.1/\r.1<=255)/\Ck (B+1) r.2:=by
  intro x hx0 hx1;unfold yme;rw[hw];refine Tot.ite (fun _=>Tot.ret ⟨⟨hx0,hx1⟩,⟨hl,hb⟩,by show 0<=c.2.1+1;omega,by show c.2.1+1<=_;omega⟩) (fun _=>Tot.ret ⟨?_,⟨hl,hb⟩,by show 0<=c.2.1+1;omega,by show c.2.1+1<=_;omega⟩)
  rw[ynp1];obtain⟨a,b⟩:=yyv1 (ishr .u64 (IntKind.wrap .u64 ((IntKind.wrap .u64 ((IntKind.wrap .u64 (c.2.2*6364136223846793005))+(IntKind.wrap .u64 x)))+1442695040888963407)) 40)
  show 0<=w64 _/\w64 _<=255
  rw[yec (by omega) (by omega)];exact⟨a,b⟩
 unfold yli
 refine Tot.ite (fun hc=>?_) (fun _=>key 0 (by omega) (by omega))
 have hlt:c.2.1<(c.1.length:Int):=of_decide_eq_true hc
 refine Tot.idx h0 hlt fun x hx=>?_
 have:=hb x hx
 rw[ynp1,yec (by omega) (by omega)]
 exact key x this.1 this.2
theorem yop1 {x n:Int} (hx:0<=x) (hn:1<=n):0<=Int.tmod x n/\Int.tmod x n<n:=by
 obtain⟨a,rfl⟩:=Int.eq_ofNat_of_zero_le hx
 obtain⟨b,rfl⟩:=Int.eq_ofNat_of_zero_le (show 0<=n by omega)
 have:Int.tmod (a:Int) (b:Int)=((a % b:Nat):Int):=rfl
 rw[this]
 have:=Nat.mod_lt a (show b>0 by omega)
 omega
theorem ykk {B:Nat} {c:Cur} (h:Ck B c) (hB:B<=1000000000000000000) (n:Int):Tot (yla c n) fun r=>(0<=r.1/\(1<=n->r.1<n))/\Ck (B+2) r.2:=by
 unfold yla
 refine Tot.ite (fun hc=>Tot.ret ⟨⟨by show(0:Int)<=0;omega,fun h=>by show(0:Int)<n;omega⟩,h.mono (by omega)⟩) (fun hc=>?_)
 have hn:¬ n<=1:=of_decide_eq_false hc
 refine(yau1 h (by omega)).bind fun v2 ⟨⟨h1,h2⟩,h3⟩=>?_
 refine Tot.ite (fun _=>?_) (fun _=>?_)
 ·refine(yau1 h3 (by omega)).bind fun v6 ⟨⟨h4,h5⟩,h6⟩=>?_
  unfold yne;refine Tot.guard (by omega) (Tot.ret ?_)
  have e:w64 ((w64 (v2.1*256))+v6.1)=v2.1*256+v6.1:=by rw[yec (n:=v2.1*256) (by omega) (by omega),yec (by omega) (by omega)]
  have:=yop1 (x:=v2.1*256+v6.1) (n:=n) (by omega) (by omega)
  simp only[e];exact⟨⟨this.1,fun _=>this.2⟩,h6⟩
 unfold yne
 refine Tot.guard (by omega) (Tot.ret ?_)
 have:=yop1 (x:=v2.1) (n:=n) (by omega) (by omega)
 exact⟨⟨this.1,fun _=>this.2⟩,h3.mono (by omega)⟩
theorem yhb1 {B:Nat} {c:Cur} (h:Ck B c) (hB:B<=1000000000000000000) (n:Int):Tot (ysb c n) fun r=>Ck (B+2) r.2:=by
 unfold ysb
 exact(ykk h hB n).bind fun v h=>Tot.ret h.2
theorem ypi {B:Nat} {c:Cur} (h:Ck B c) (hB:B<=1000000000000000000) (l:List Int) (hl:l≠[]):Tot (yoa c l) fun r=>r.1∈l/\Ck (B+2) r.2:=by
 unfold yoa
 refine(ykk h hB _).bind fun v ⟨⟨h1,h2⟩,h3⟩=>?_
 have:0<l.length:=List.length_pos_iff.2 hl
 refine Tot.idx h1 (h2 (by omega)) fun x hx=>Tot.ret ⟨hx,h3⟩
end Go.PV
namespace Go.PV
def cur4 {α:Type} (x:List Int×Int×Int×α):Cur:=(x.1,x.2.1,x.2.2.1)
def En (l:List Int):Prop:=∀ x∈l,0<=x/\x<=9
def Sq (n:Int) (g:List (List Int)):Prop:=(g.length:Int)=n/\∀ row∈g,(row.length:Int)=n/\En row
def Sm (g:List (List Int)):Prop:=g.length<=9/\∀ row∈g,row.length<=9
end Go.PV

/-
 Plain laws: sums,products and quotients of fractions,with what is too large told.
 Conditions: none.
-/
set_option linter.all false
namespace Go.PV
abbrev Rt:=Int×Int
def unO:Option Rt->Rt×Bool
 | some r=>(r,true)
 | none=>((0,0),false)
def lowQ (n d:Int):Option Rt:=if(lowest n d).2=true then some (lowest n d).1 else none
theorem yaf1 (n d:Int):∃ x:Rt,lowest n d=if isRat x=true then(x,true) else((0,0),false):=⟨_,rfl⟩
theorem yks1 {n d:Int} (h:(lowest n d).2=false):lowest n d=((0,0),false):=by
 obtain⟨x,e⟩:=yaf1 n d
 rw[e] at h ⊢
 by_cases h2:isRat x=true
 ·rw[if_pos h2] at h;cases h
 rw[if_neg h2]
theorem ydy (n d:Int):lowest n d=unO (lowQ n d):=by
 unfold lowQ
 cases h:(lowest n d).2
 ·rw[yks1 h];rfl
 have:lowest n d=((lowest n d).1,(lowest n d).2):=rfl
 rw[this,h];rfl
theorem ypp1 {n d:Int} (h:(lowest n d).2=true):isRat (lowest n d).1=true:=by
 obtain⟨x,e⟩:=yaf1 n d
 rw[e] at h ⊢
 by_cases h2:isRat x=true
 ·rw[if_pos h2];exact h2
 rw[if_neg h2] at h;cases h
theorem ywz {n d:Int} {r:Rt} (h:lowQ n d=some r):isRat r=true:=by
 unfold lowQ at h
 split at h
 ·rename_i h2;obtain rfl:=Option.some.inj h;exact ypp1 h2
 cases h
theorem yee (n d:Int) (hd:d≠0) (h1 : -4000000000000000000<=n) (h2:n<=4000000000000000000) (h3 : -4000000000000000000<=d) (h4:d<=4000000000000000000):ybc n d=some (unO (lowQ n d)):=by
 have hg:0<Int.gcd n d:=Int.gcd_pos_of_ne_zero_right _ hd
 have hd0:(d==0)=false:=by simpa using hd
 have hgl:(Int.gcd n d:Int)<=4000000000000000000:=by
  have:Int.gcd n d<=d.natAbs:=Nat.gcd_le_right _ (by omega)
  omega
 have e:Int.gcd (n.natAbs:Int) (d.natAbs:Int)=Int.gcd n d:=rfl
 have key:∀ g:Int,g≠0->yck n d g=some (if isRat (Int.tdiv n g,Int.tdiv d g) then((Int.tdiv n g,Int.tdiv d g),true) else((0,0),false)):=fun g hg=>by
  simp only[yck,yea hg,yag1 n g (by omega) (by omega) hg,yag1 d g (by omega) (by omega) hg,yaq,Option.bind_some];cases isRat (Int.tdiv n g,Int.tdiv d g) <;> rfl
 rw[← ydy]
 unfold ybc lowest
 simp only[hd0,Bool.false_eq_true,if_false,ysu n (by omega) (by omega),ysu d (by omega) (by omega),Option.bind_some,ytu (n.natAbs:Int) (d.natAbs:Int) (by omega) (by omega),e]
 by_cases hneg:d<0
 ·simp only[hneg,decide_true,if_true]
  rw[show(0:Int)-(Int.gcd n d:Int) = -(Int.gcd n d:Int) by omega,yec (by omega) (by omega),key _ (by omega)]
 simp only[hneg,decide_false,Bool.false_eq_true,if_false]
 rw[key _ (by omega)]
def addQ (a b:Rt):Option Rt:=lowQ (a.1*b.2+b.1*a.2) (a.2*b.2)
def subQ (a b:Rt):Option Rt:=lowQ (a.1*b.2-b.1*a.2) (a.2*b.2)
def mulQ (a b:Rt):Option Rt:=lowQ (a.1*b.1) (a.2*b.2)
def divQ (a b:Rt):Option Rt:=if b.1=0 then none else lowQ (a.1*b.2) (a.2*b.1)
theorem yqp1 {a b r:Rt} (h:addQ a b=some r):isRat r=true:=ywz h
theorem yww {a b r:Rt} (h:subQ a b=some r):isRat r=true:=ywz h
theorem ybg1 {a b r:Rt} (h:mulQ a b=some r):isRat r=true:=ywz h
structure RB (a b:Rt):Prop where
 m1 : -1000000000000000000<=a.1*b.2/\a.1*b.2<=1000000000000000000
 m2 : -1000000000000000000<=b.1*a.2/\b.1*a.2<=1000000000000000000
 m3 : -1000000000000000000<=a.2*b.2/\a.2*b.2<=1000000000000000000
 m4 : -1000000000000000000<=a.1*b.1/\a.1*b.1<=1000000000000000000
 ne:a.2*b.2≠0
 m5 : -1000000000000000000<=a.2*b.1/\a.2*b.1<=1000000000000000000
theorem rb {a b:Rt} (ha:isRat a=true) (hb:isRat b=true):RB a b:=by
 obtain⟨a1,a2,a3,a4,_⟩:=isRat_iff.1 ha
 obtain⟨b1,b2,b3,b4,_⟩:=isRat_iff.1 hb
 exact⟨yvp a3 a4 (by omega) b2,yvp b3 b4 (by omega) a2,yvp (by omega) a2 (by omega) b2,yvp a3 a4 b3 b4,Int.mul_ne_zero (by omega) (by omega),yvp (by omega) a2 b3 b4⟩
section spec
variable {a b:Rt} (ha:isRat a=true) (hb:isRat b=true)
include ha hb
theorem yni1:yzs a b=some (unO (addQ a b)):=by
 obtain⟨m1,m2,m3,m4,ne,m5⟩:=rb ha hb
 unfold yzs addQ
 rw[yec (n:=a.1*b.2) (by omega) (by omega),yec (n:=b.1*a.2) (by omega) (by omega),yec (n:=a.2*b.2) (by omega) (by omega),yec (by omega) (by omega),yee _ _ ne (by omega) (by omega) (by omega) (by omega)]
 rfl
theorem yvu:yip a b=some (unO (subQ a b)):=by
 obtain⟨m1,m2,m3,m4,ne,m5⟩:=rb ha hb
 unfold yip subQ
 rw[yec (n:=a.1*b.2) (by omega) (by omega),yec (n:=b.1*a.2) (by omega) (by omega),yec (n:=a.2*b.2) (by omega) (by omega),yec (by omega) (by omega),yee _ _ ne (by omega) (by omega) (by omega) (by omega)]
 rfl
theorem yoi1:ybr a b=some (unO (mulQ a b)):=by
 obtain⟨m1,m2,m3,m4,ne,m5⟩:=rb ha hb
 unfold ybr mulQ
 rw[yec (n:=a.1*b.1) (by omega) (by omega),yec (n:=a.2*b.2) (by omega) (by omega),yee _ _ ne (by omega) (by omega) (by omega) (by omega)]
 rfl
theorem ypi1:yys a b=some (unO (divQ a b)):=by
 obtain⟨m1,m2,m3,m4,ne,m5⟩:=rb ha hb
 obtain⟨a1,_⟩:=isRat_iff.1 ha
 unfold yys divQ
 by_cases h:b.1=0
 ·simp[h,unO]
 have h':(b.1==0)=false:=by simpa using h
 simp only[h',Bool.false_eq_true,if_false,h]
 rw[yec (n:=a.1*b.2) (by omega) (by omega),yec (n:=a.2*b.1) (by omega) (by omega),yee _ _ (Int.mul_ne_zero (by omega) h) (by omega) (by omega) (by omega) (by omega)]
 rfl
end spec
def cK (bad:Bool):Option Rt->Rt×Bool
 | some r=>(r,bad)
 | none=>((0,1),true)
theorem ynt (bad:Bool) (o:Option Rt):ywf bad (unO o).1 (unO o).2=some (cK bad o):=by
 cases o <;> simp[ywf,unO,cK,yil]
theorem ytb2 {bad:Bool} {o:Option Rt} (h:∀ r,o=some r->isRat r=true):isRat (cK bad o).1=true:=by
 cases o with
 | some r=>exact h r rfl
 | none=>exact(by decide:isRat (0,1)=true)
theorem yrq:isRat (0,1)=true:=by decide
theorem ysv:isRat (1,1)=true:=by decide
theorem ytb1 {a:Rt} (h:isRat a=true):isRat (0-a.1,a.2)=true:=by
 obtain⟨h1,h2,h3,h4,h5⟩:=isRat_iff.1 h
 refine isRat_iff.2 ⟨h1,h2,by show -1000000000<=0-a.1;omega,by show 0-a.1<=_;omega,?_⟩
 show Int.gcd (0-a.1) a.2=1
 rw[Int.zero_sub,Int.neg_gcd];exact h5
section impl
variable {a b:Rt} (bad:Bool) (ha:isRat a=true) (hb:isRat b=true)
include ha hb
theorem yey:ypl a b=some (unO (addQ a b)):=by
 rw[ybe1,ha,hb]
 simp only[Bool.and_self,if_true]
 rw[ydy];rfl
theorem yfy:yzh a b=some (unO (subQ a b)):=by
 obtain⟨b1,b2,b3,b4,_⟩:=isRat_iff.1 hb
 unfold yzh yot
 rw[yec (by omega) (by omega),Option.bind_some,yey ha (ytb1 hb),Option.bind_some]
 congr 2
 unfold addQ subQ
 simp only
 congr 1
 rw[Int.sub_mul];omega
theorem ygy:ybi a b=some (unO (mulQ a b)):=by
 obtain⟨m1,m2,m3,m4,ne,m5⟩:=rb ha hb
 unfold ybi mulQ
 rw[yks _ (by simp)]
 simp only[Option.bind_some,List.all_cons,List.all_nil,Bool.and_true,ha,hb,Bool.and_self,Bool.not_true,Bool.false_eq_true,if_false]
 rw[yec (n:=a.1*b.1) (by omega) (by omega),yec (n:=a.2*b.2) (by omega) (by omega),ymt _ _ ne (by omega) (by omega) (by omega) (by omega),ydy]
 rfl
theorem yib1:yuk a b=some (unO (divQ a b)):=by
 obtain⟨m1,m2,m3,m4,ne,m5⟩:=rb ha hb
 obtain⟨a1,_⟩:=isRat_iff.1 ha
 unfold yuk divQ
 rw[yks _ (by simp)]
 simp only[Option.bind_some,List.all_cons,List.all_nil,Bool.and_true,ha,hb,Bool.and_self,Bool.not_true,Bool.false_or]
 by_cases h:b.1=0
 ·simp[h,unO]
 have h':(b.1==0)=false:=by simpa using h
 simp only[h',Bool.false_eq_true,if_false,h]
 rw[yec (n:=a.1*b.2) (by omega) (by omega),yec (n:=a.2*b.1) (by omega) (by omega),ymt _ _ (Int.mul_ne_zero (by omega) h) (by omega) (by omega) (by omega) (by omega),ydy]
 rfl
theorem ysm1:yhm bad a b=some (cK bad (addQ a b)):=by
 unfold yhm;rw[yey ha hb,Option.bind_some,ynt];rfl
theorem yxz:ylh bad a b=some (cK bad (subQ a b)):=by
 unfold ylh;rw[yfy ha hb,Option.bind_some,ynt];rfl
theorem ytm1:yjp bad a b=some (cK bad (mulQ a b)):=by
 unfold yjp;rw[ygy ha hb,Option.bind_some,ynt];rfl
theorem yum1:ygm bad a b=some (cK bad (divQ a b)):=by
 unfold ygm;rw[yib1 ha hb,Option.bind_some,ynt];rfl
end impl
def absR (r:Rt):Rt:=((r.1.natAbs:Int),r.2)
def distQ (a b:Rt):Option Rt:=if less a b then subQ b a else subQ a b
theorem yzv1 {n d:Int} (hd:0<d):lowQ (-n) d=(lowQ n d).map fun r=>(-r.1,r.2):=by
 have hn:¬ d<0:=by omega
 have e:isRat (Int.tdiv (-n) (Int.gcd n d:Int),Int.tdiv d (Int.gcd n d:Int))=isRat (Int.tdiv n (Int.gcd n d:Int),Int.tdiv d (Int.gcd n d:Int)):=by
  rw[Int.neg_tdiv];cases h:isRat (Int.tdiv n (Int.gcd n d:Int),Int.tdiv d (Int.gcd n d:Int))
  ·cases h2:isRat (-Int.tdiv n (Int.gcd n d:Int),Int.tdiv d (Int.gcd n d:Int))
   ·rfl
   have:=ytb1 h2
   simp only[Int.zero_sub,Int.neg_neg] at this;rw[h] at this;cases this
  have:=ytb1 h
  simp only[Int.zero_sub] at this;exact this
 unfold lowQ lowest
 simp only[Int.neg_gcd,if_neg hn,e]
 cases isRat (Int.tdiv n (Int.gcd n d:Int),Int.tdiv d (Int.gcd n d:Int))
 ·rfl
 simp[Int.neg_tdiv]
theorem ybf1 {a b:Rt} (ha:isRat a=true) (hb:isRat b=true):0<a.2*b.2:=Int.mul_pos (by have:=(isRat_iff.1 ha).1;omega) (by have:=(isRat_iff.1 hb).1;omega)
end Go.PV

/-
 Plain laws: what draws fractions and vectors always comes to an end.
 Conditions: none.
-/
set_option linter.all false
namespace Go.PV
theorem yub2 {B:Nat} (hB:B<=100000000) {c:Cur} (hc:Ck B c):Tot (yen c) fun r=>isRat r.1=true/\Ck (B+12) r.2:=by
 unfold yen
 refine(ykk hc (by omega) _).bind fun v1 ⟨⟨a1,a2⟩,h1⟩=>?_
 refine(ykk h1 (by omega) _).bind fun v2 ⟨⟨b1,b2⟩,h2⟩=>?_
 refine(ypi h2 (by omega) _ (by simp)).bind fun v3 ⟨m3,h3⟩=>?_
 refine(ykk h3 (by omega) _).bind fun v4 ⟨⟨d1,d2⟩,h4⟩=>?_
 refine(ykk h4 (by omega) _).bind fun v5 ⟨⟨e1,e2⟩,h5⟩=>?_
 refine(ypi h5 (by omega) _ (by simp)).bind fun v6 ⟨m6,h6⟩=>?_
 have a3:=a2 (by omega);have b3:=b2 (by omega);have d3:=d2 (by omega);have e3:=e2 (by omega)
 rw[yec (by omega) (by omega),yec (by omega) (by omega)] at m3 m6
 simp only[List.mem_cons,List.not_mem_nil,or_false] at m3 m6
 rw[yee v3.1 v6.1 (by omega) (by omega) (by omega) (by omega) (by omega),Option.bind_some]
 unfold ykb
 cases hq:lowQ v3.1 v6.1 with
 | none=>exact Tot.ret ⟨ysv,h6⟩
 | some q=>exact Tot.ret ⟨ywz hq,h6⟩
theorem ytv {B:Nat} (hB:B<=100000000) {c:Cur} (hc:Ck B c):Tot (yub c) fun r=>Ck (B+18) r.2:=by
 unfold yub
 refine(yub2 hB hc).bind fun v1 ⟨_,h1⟩=>?_
 refine(ykk h1 (by omega) _).bind fun v2 ⟨_,h2⟩=>?_
 refine Tot.ite (fun _=>?_) (fun _=>Tot.ite (fun _=>?_) (fun _=>Tot.ite (fun _=>?_) (fun _=>Tot.ret (h2.mono (by omega)))))
 ·exact(ypi h2 (by omega) _ (by simp)).bind fun v ⟨_,h⟩=>Tot.ret (h.mono (by omega))
 ·exact(ypi h2 (by omega) _ (by simp)).bind fun v ⟨_,h⟩=>Tot.ret (h.mono (by omega))
 exact(ypi h2 (by omega) _ (by simp)).bind fun v ⟨_,h⟩=>(ypi h (by omega) _ (by simp)).bind fun w ⟨_,h'⟩=>Tot.ret (h'.mono (by omega))
end Go.PV

set_option linter.all false
namespace Go.PV
theorem yaw1 {r:Int×Int} (h:isRat r=true):(r.1*1==0*r.2)=(r==(0,1)):=by
 obtain⟨h1,h2,h3,h4,h5⟩:=isRat_iff.1 h
 obtain⟨n,d⟩:=r
 simp only[Int.mul_one,Int.zero_mul]
 by_cases hn:n=0
 ·subst hn
  have h6:d.natAbs=1:=by simpa using h5
  have h7:d=1:=by omega
  subst h7;rfl
 have e1:(n==0)=false:=by simpa using hn
 have e2:((n,d)==((0,1):Int×Int))=false:=by simp[hn]
 rw[e1,e2]
theorem ypz1 {r:Int×Int} (h:isRat r=true):(r.1*1==1*r.2)=(r==(1,1)):=by
 obtain⟨h1,h2,h3,h4,h5⟩:=isRat_iff.1 h
 obtain⟨n,d⟩:=r
 simp only[Int.mul_one,Int.one_mul]
 by_cases hn:n=d
 ·subst hn
  have h6:n.natAbs=1:=by simpa using h5
  have h7:n=1:=by omega
  subst h7;rfl
 by_cases h6:n=1
 ·subst h6;have:¬ d=1:=fun e=>hn e.symm
  have e1:((1:Int)==d)=false:=by simpa using hn
  have e2:(((1:Int),d)==((1,1):Int×Int))=false:=by simp[this]
  rw[e1,e2]
 have e1:(n==d)=false:=by simpa using hn
 have e2:((n,d)==((1,1):Int×Int))=false:=by simp[h6]
 rw[e1,e2]
theorem yrp1 (a b:Int×Int):((a.1==b.1)&&(a.2==b.2))=(a==b):=by
 obtain⟨a1,a2⟩:=a;obtain⟨b1,b2⟩:=b;rfl
end Go.PV

/-
 Plain laws: maps of the interval.
 Conditions: none.
-/
set_option linter.all false
namespace Go.PV
section
variable {α β:Type}
theorem yyz {X Y:Type} {body:X->Option (X ⊕ Y)} (n:Nat) (S:List β->Nat->X) (f:Nat->β) (y:Y) (h1:∀ i,i<n->body (S (tab i f) i)=some (.inl (S (tab i f++[f i]) (i+1)))) (h2:body (S (tab n f) n)=some (.inr y)):loopO body (S [] 0)=some y:=by
 have:=ydc (body:=body) n (fun i=>S (tab i f) i) y (fun i hi=>by rw[h1 i hi,yqc1]) h2
 rw[yek1] at this
 exact this
theorem ycg1 (i:Nat) (f:Nat->β) (x:β) (h:i<=1048576):(tab i f).length+[x].length<=1099511627776:=by rw[yab];simp;omega
end
def isMapT (n:Nat) (p:Nat->Pt):Prop:=(∀ i,i<n->coord (p i).1=true/\coord (p i).2=true)/\(∀ i,0<i->i<n->less (p (i-1)).1 (p i).1=true)/\(p 0).1=(0,1)/\(p (n-1)).1=(1,1)
theorem yej {i:Nat} (h:0<i) (h2:i<4611686018427387904):w64 ((i:Int)-1)=((i-1:Nat):Int):=by rw[yec (by omega) (by omega)];omega
theorem ysq {r:Rt} (h:coord r=true):tame r:=yye (yph h)
theorem yhy {α:Type} {n:Nat} {p:Nat->α} (h:0<n):idxO (tab n p) 0=some (p 0):=yua (n:=n) (f:=p) (i:=0) h
theorem yee1 (n:Nat) (p:Nat->Pt) (h2:2<=n) (hn:n<=12):∃ c,yle (tab n p)=some c/\(c=true↔isMapT n p):=by
 obtain⟨y,h3,h4⟩:=yao (body:=ybn (tab n p)) (fun x=>∃ i:Nat,x=(i:Int)/\i<=n/\(∀ j,j<i->coord (p j).1=true/\coord (p j).2=true)/\(∀ j,0<j->j<i->less (p (j-1)).1 (p j).1=true)) (fun x=>n-x.toNat)
  (fun y=>(y=.inl false/\¬ isMapT n p)\/(y=.inr ()/\(∀ j,j<n->coord (p j).1=true/\coord (p j).2=true)/\(∀ j,0<j->j<n->less (p (j-1)).1 (p j).1=true))) (fun x ⟨i,e,hi,hc,hl⟩=>by
   subst e;by_cases hlt:i<n
   ·simp only[ybn,yab,yua hlt,show((i:Int)<(n:Int)) from by omega,decide_true,if_true,Option.bind_some,yce1]
    cases h5:coord (p i).1
    ·right;exact⟨.inl false,by simp,.inl ⟨rfl,fun h=>by have:=(h.1 i hlt).1;rw[h5] at this;cases this⟩⟩
    cases h6:coord (p i).2
    ·right;exact⟨.inl false,by simp,.inl ⟨rfl,fun h=>by have:=(h.1 i hlt).2;rw[h6] at this;cases this⟩⟩
    have hc':∀ j,j<i+1->coord (p j).1=true/\coord (p j).2=true:=fun j hj=>by
     by_cases hji:j<i
     ·exact hc j hji
     have:j=i:=by omega
     subst this;exact⟨h5,h6⟩
    by_cases hi0:i=0
    ·left
     subst hi0;exact⟨((1:Nat):Int),by simp[yec],⟨1,rfl,by omega,hc',fun j h1 h2=>by omega⟩,by simp;omega⟩
    have hlt2:i-1<n:=by omega
    have hpos:((i:Int)>0):=by omega
    have ht1:=ysq (hc (i-1) (by omega)).1
    simp only[hpos,decide_true,if_true,Bool.not_true,Bool.false_eq_true,if_false,yej (show 0<i by omega) (by omega),yua hlt2,Option.bind_some,yuf _ _ ht1 (ysq h5),ynz1]
    cases h7:less (p (i-1)).1 (p i).1
    ·right;exact⟨.inl false,by simp,.inl ⟨rfl,fun h=>by have:=h.2.1 i (by omega) hlt;rw[h7] at this;cases this⟩⟩
    left
    refine⟨((i+1:Nat):Int),by simp[yta (show i<9223372036854775807 by omega)],⟨i+1,rfl,hlt,hc',fun j h1 h2=>?_⟩,by simp;omega⟩
    by_cases hji:j<i
    ·exact hl j h1 hji
    have:j=i:=by omega
    subst this;exact h7
   have:i=n:=by omega
   subst this;right
   exact⟨.inr (),by simp[ybn,yab],.inr ⟨rfl,hc,hl⟩⟩) 0 ⟨0,rfl,by omega,fun j h=>by omega,fun j _ h=>by omega⟩
 have hin:inB 2 12 ((tab n p).length:Int)=true:=by rw[yab,inB_iff];omega
 unfold yle
 rw[yqe,Option.bind_some,hin]
 rw[h3]
 rcases h4 with⟨rfl,h4⟩ | ⟨rfl,h4,h5⟩
 ·exact⟨false,by simp,by simp[h4]⟩
 have hc0:=(h4 0 (by omega)).1
 have hc1:=(h4 (n-1) (by omega)).1
 have hw:w64 ((n:Int)-1)=((n-1:Nat):Int):=yej (by omega) (by omega)
 have t0:tame (0,1):=⟨by decide,by decide,by decide,by decide⟩
 have t1:tame (1,1):=⟨by decide,by decide,by decide,by decide⟩
 simp only[Bool.not_true,Bool.false_eq_true,if_false,Option.bind_some,Sum.elim_inr,ycq,yhy (show 0<n by omega),ykb,yab,hw,yua (show n-1<n by omega),yuf _ _ (ysq hc0) t0,yuf _ _ (ysq hc1) t1,yxv1,yaw1 (yph hc0),ypz1 (yph hc1)]
 refine⟨((p 0).1==(0,1))&&((p (n-1)).1==(1,1)),?_,?_⟩
 ·cases ((p 0).1==((0,1):Rt)) <;> simp
 simp only[Bool.and_eq_true,beq_iff_eq]
 exact⟨fun h=>⟨h4,h5,h.1,h.2⟩,fun h=>⟨h.2.2.1,h.2.2.2⟩⟩
theorem yfe1 (p:Pt):yio p=some (!(coord p.1&&coord p.2)):=by
 unfold yio
 simp only[yde1,Option.bind_some]
 cases coord p.1 <;> cases coord p.2 <;> rfl
theorem yqi1 (n:Nat) (p:Nat->Pt) (hn:n<=1048576):ydq (tab n p)=some (tab n fun i=>(p i).1):=by
 have hx:=yyz (body:=ysh (tab n p)) n (fun l i=>(l,(i:Int))) (fun i=>(p i).1) (tab n fun i=>(p i).1) (fun i hi=>by
  simp only[ysh,yab,yua hi,show((i:Int)<(n:Int)) from by omega,decide_true,if_true,Option.bind_some,yea (ycg1 i (fun i=>(p i).1) (p i).1 (by omega)),yta (show i<9223372036854775807 by omega)]
  rw[yea (by simp;omega)]) (by simp[ysh,yab])
 unfold ydq
 rw[show(0:Int)=((0:Nat):Int) from rfl,hx];rfl
theorem yvt (n:Nat) (r:Nat->Rt) (hn:n<=1048576) (h1:1<=n) (hr:∀ i,i<n->isRat (r i)=true):∃ c,ykj (tab n r)=some c/\(c=true↔∀ i,0<i->i<n->less (r (i-1)) (r i)=true):=by
 obtain⟨y,h3,h4⟩:=yao (body:=yjj (tab n r)) (fun x=>∃ i:Nat,x=(i:Int)/\1<=i/\i<=n/\(∀ j,0<j->j<i->less (r (j-1)) (r j)=true)) (fun x=>n-x.toNat)
  (fun y=>(y=.inl false/\¬ ∀ i,0<i->i<n->less (r (i-1)) (r i)=true)\/(y=.inr ()/\∀ i,0<i->i<n->less (r (i-1)) (r i)=true)) (fun x ⟨i,e,hi0,hi,hl⟩=>by
   subst e;by_cases hlt:i<n
   ·simp only[yjj,yab,yua hlt,yej (show 0<i by omega) (by omega),yua (show i-1<n by omega),show((i:Int)<(n:Int)) from by omega,decide_true,if_true,Option.bind_some,yre _ _ (yye (hr (i-1) (by omega))) (yye (hr i hlt))]
    cases h7:less (r (i-1)) (r i)
    ·right;exact⟨.inl false,by simp,.inl ⟨rfl,fun h=>by have:=h i (by omega) hlt;rw[h7] at this;cases this⟩⟩
    left
    refine⟨((i+1:Nat):Int),by simp[yta (show i<9223372036854775807 by omega)],⟨i+1,rfl,by omega,hlt,fun j h1 h2=>?_⟩,by simp;omega⟩
    by_cases hji:j<i
    ·exact hl j h1 hji
    have:j=i:=by omega
    subst this;exact h7
   have:i=n:=by omega
   subst this;right
   exact⟨.inr (),by simp[yjj,yab],.inr ⟨rfl,hl⟩⟩) 1 ⟨1,rfl,by omega,by omega,fun j _ h=>by omega⟩
 unfold ykj
 rw[h3]
 rcases h4 with⟨rfl,h4⟩ | ⟨rfl,h4⟩
 ·exact⟨false,by simp,by simp[h4]⟩
 exact⟨true,by simp[ycn],fun _=>h4,fun _=>rfl⟩
theorem ydg1 (n:Nat) (p:Nat->Pt) (h2:2<=n) (hn:n<=12):∃ c,yae (tab n p)=some c/\(c=true↔isMapT n p):=by
 have hin:inB 2 12 ((tab n p).length:Int)=true:=by rw[yab,inB_iff];omega
 unfold yae
 rw[yxc,Option.bind_some,hin,yhh (tab n p) (fun x0=>yio x0) _ yfe1 (by rw[yab];omega)]
 simp only[Bool.not_true,Bool.false_eq_true,if_false,Option.bind_some]
 by_cases hc:∀ i,i<n->coord (p i).1=true/\coord (p i).2=true
 ·have hany:((tab n p).any fun q=> !(coord q.1&&coord q.2))=false:=by
   rw[List.any_eq_false];intro q hq;obtain⟨i,hi,rfl⟩:=tab_mem.1 hq;simp[(hc i hi).1,(hc i hi).2]
  obtain⟨c,h3,h4⟩:=yvt n (fun i=>(p i).1) (by omega) (by omega) (fun i hi=>yph (hc i hi).1)
  have hw:w64 ((n:Int)-1)=((n-1:Nat):Int):=yej (by omega) (by omega)
  simp only[hany,Bool.false_eq_true,if_false,yhy (show 0<n by omega),yil,yem,Option.bind_some,yab,hw,yua (show n-1<n by omega),yqi1 n p (by omega),h3,yrp1 (p 0).1 (0,1),yrp1 (p (n-1)).1 (1,1)]
  refine⟨((p 0).1==(0,1))&&(((p (n-1)).1==(1,1))&&c),?_,?_⟩
  ·cases ((p 0).1==((0,1):Rt)) <;> cases ((p (n-1)).1==((1,1):Rt)) <;> simp
  simp only[Bool.and_eq_true,beq_iff_eq,h4];exact⟨fun h=>⟨hc,h.2.2,h.1,h.2.1⟩,fun h=>⟨h.2.2.1,h.2.2.2,h.2.1⟩⟩
 have hany:((tab n p).any fun q=> !(coord q.1&&coord q.2))=true:=by
  refine Classical.byContradiction fun hno=>hc fun i hi=>?_
  have:((tab n p).any fun q=> !(coord q.1&&coord q.2))=false:=by simpa using hno
  have:=List.any_eq_false.1 this (p i) (tab_mem.2 ⟨i,hi,rfl⟩)
  simpa using this
 exact⟨false,by rw[hany];rfl,⟨fun h=>(by cases h),fun h=>absurd h.1 hc⟩⟩
theorem yiy (f:List Pt) (hl:f.length<=4611686018427387904):∃ c,yle f=some c/\yae f=some c/\(c=true->∃ n p,f=tab n p/\2<=n/\n<=12/\isMapT n p):=by
 cases h:inB 2 12 (f.length:Int)
 ·exact⟨false,by simp[yle,yqe,h],by simp[yae,yxc,h],by simp⟩
 have hb:=inB_iff.1 h
 have e:f=tab f.length (fun i=>f.getD i ((0,0),(0,0))):=yye1 f
 obtain⟨c,h1,h2⟩:=yee1 f.length (fun i=>f.getD i ((0,0),(0,0))) (by omega) (by omega)
 obtain⟨d,h3,h4⟩:=ydg1 f.length (fun i=>f.getD i ((0,0),(0,0))) (by omega) (by omega)
 rw[← e] at h1 h3
 have hcd:d=c:=by
  have h5:d=true↔c=true:=h4.trans h2.symm
  cases c <;> cases d
  ·rfl
  ·have:=h5.1 rfl;cases this
  ·have:=h5.2 rfl;cases this
  rfl
 subst hcd
 exact⟨d,h1,h3,fun hd=>⟨f.length,_,e,by omega,by omega,h2.1 hd⟩⟩
end Go.PV

/-
 Plain laws: the variation of a map.
 Conditions: none.
-/
set_option linter.all false
namespace Go.PV
def sumD (r:Nat->Rt):Nat->Option Rt
 | 0=>some (0,1)
 | k+1=>(sumD r k).bind fun s=>(distQ (r k) (r (k+1))).bind fun d=>addQ s d
end Go.PV

/-
 Plain laws: slopes and laps of a map.
 Conditions: none.
-/
set_option linter.all false
namespace Go.PV
structure LowOk (n d:Int) (r:Rt):Prop where
 eq:lowQ n d=some r
 rat:isRat r=true
 num:r.1.natAbs<=n.natAbs
 den:1<=r.2/\r.2<=d
 pos:0<n->0<r.1
 neg:n<0->r.1<0
 zer:n=0->r.1=0
theorem ytq {n d:Int} (h1:0<=n) (h2:n<=1000000000) (h3:1<=d) (h4:d<=1000000000):∃ r,LowOk n d r:=by
 have hg:0<Int.gcd n d:=Int.gcd_pos_of_ne_zero_right _ (by omega)
 have hdn:¬ d<0:=by omega
 have hr:=yhk1 h1 h2 h3 h4
 have e:lowest n d=if isRat (Int.tdiv n (Int.gcd n d:Int),Int.tdiv d (Int.gcd n d:Int))=true then((Int.tdiv n (Int.gcd n d:Int),Int.tdiv d (Int.gcd n d:Int)),true) else((0,0),false):=by
  unfold lowest;simp only[if_neg hdn]
 have hrat:isRat (Int.tdiv n (Int.gcd n d:Int),Int.tdiv d (Int.gcd n d:Int))=true:=by
  refine Classical.byContradiction fun hno=>?_
  rw[e,if_neg hno] at hr;exact absurd hr (by decide)
 rw[if_pos hrat] at e
 have e1:Int.tdiv n (Int.gcd n d:Int)=n / (Int.gcd n d:Int):=Int.tdiv_eq_ediv_of_nonneg h1
 have e2:Int.tdiv d (Int.gcd n d:Int)=d / (Int.gcd n d:Int):=Int.tdiv_eq_ediv_of_nonneg (by omega)
 have hgn:0<n->(Int.gcd n d:Int)<=n:=fun h=>by
  have:=Nat.gcd_le_left d.natAbs (show 0<n.natAbs by omega)
  have e:Int.gcd n d=Nat.gcd n.natAbs d.natAbs:=rfl
  omega
 refine⟨_,⟨by unfold lowQ;rw[e];rfl,hrat,?_,⟨(isRat_iff.1 hrat).1,?_⟩,fun h=>?_,fun h=>by omega,fun h=>by subst h;simp⟩⟩
 ·exact ymi1 _ _
 ·show Int.tdiv d _<=d
  have:=ymi1 d (Int.gcd n d:Int)
  have h5:=(isRat_iff.1 hrat).1
  simp only at h5
  omega
 show 0<Int.tdiv n _
 rw[e1]
 exact Int.ediv_pos_of_pos_of_dvd h (by omega) (Int.gcd_dvd_left ..)
theorem ytl1 {n d:Int} (h1 : -1000000000<=n) (h2:n<=1000000000) (h3:1<=d) (h4:d<=1000000000):∃ r,LowOk n d r:=by
 by_cases hn:0<=n
 ·exact ytq hn h2 h3 h4
 obtain⟨r,h⟩:=ytq (n := -n) (d:=d) (by omega) (by omega) h3 h4
 have e:=yzv1 (n := -n) (d:=d) (by omega)
 rw[Int.neg_neg,h.eq] at e
 have hr:=ytb1 h.rat
 have:=h.pos (by omega)
 have:=h.num
 exact⟨(-r.1,r.2),⟨e,by rw[Int.zero_sub] at hr;exact hr,by show(-r.1).natAbs<=_;omega,h.den,fun h=>by omega,fun h=>by show -r.1<0;omega,fun h=>by omega⟩⟩
theorem ytc1 {r:Rt} (h:coord r=true):0<=r.1/\r.1<=r.2/\1<=r.2/\r.2<=100:=by
 simp only[coord,isUnit,Bool.and_eq_true,inB_iff,decide_eq_true_eq] at h
 have:=isRat_iff.1 h.1.1
 omega
theorem yik1 {a b A B:Int} (h1 : -A<=a) (h2:a<=A) (h3 : -B<=b) (h4:b<=B) (hA:0<=A) (hB:0<=B) : -(A*B)<=a*b/\a*b<=A*B:=by
 have h5:(a*b).natAbs<=A.natAbs*B.natAbs:=by rw[Int.natAbs_mul];exact Nat.mul_le_mul (by omega) (by omega)
 have h6:((A.natAbs*B.natAbs:Nat):Int)=A*B:=by rw[Int.natCast_mul];rw[Int.natAbs_of_nonneg hA,Int.natAbs_of_nonneg hB]
 omega
def small (r:Rt):Prop:=isRat r=true /\ -500<=r.1/\r.1<=500/\1<=r.2/\r.2<=100
theorem ybd {r:Rt} (h:coord r=true):small r:=by
 have:=ytc1 h
 exact⟨yph h,by omega,by omega,by omega,by omega⟩
theorem yul1 {a b:Rt} (ha:small a) (hb:small b):∃ r,LowOk (a.1*b.2-b.1*a.2) (a.2*b.2) r/\subQ a b=some r/\r.1.natAbs<=100000/\r.2<=10000:=by
 obtain⟨_,a1,a2,a3,a4⟩:=ha
 obtain⟨_,b1,b2,b3,b4⟩:=hb
 have m1:=yik1 (a:=a.1) (b:=b.2) (A:=500) (B:=100) (by omega) (by omega) (by omega) (by omega) (by omega) (by omega)
 have m2:=yik1 (a:=b.1) (b:=a.2) (A:=500) (B:=100) (by omega) (by omega) (by omega) (by omega) (by omega) (by omega)
 have m3:=yik1 (a:=a.2) (b:=b.2) (A:=100) (B:=100) (by omega) (by omega) (by omega) (by omega) (by omega) (by omega)
 have p3:0<a.2*b.2:=Int.mul_pos (by omega) (by omega)
 obtain⟨r,hr⟩:=ytl1 (n:=a.1*b.2-b.1*a.2) (d:=a.2*b.2) (by omega) (by omega) (by omega) (by omega)
 have h5:=hr.num
 have h6:=hr.den
 exact⟨r,hr,hr.eq,by omega,by omega⟩
def slopeQ (p q:Pt):Rt:=(((subQ q.2 p.2).bind fun u=>(subQ q.1 p.1).bind fun v=>divQ u v)).getD (0,0)
structure SlopeOk (p q:Pt) (u v:Rt):Prop where
 up:subQ q.2 p.2=some u
 far:subQ q.1 p.1=some v
 ru:isRat u=true
 rv:isRat v=true
 div:divQ u v=some (slopeQ p q)
 rs:isRat (slopeQ p q)=true
 ub:u.1.natAbs<=100000/\u.2<=10000
 vb:v.1.natAbs<=10000/\v.2<=10000
 vp:0<v.1
 sg:(0<(slopeQ p q).1↔0<u.1)/\((slopeQ p q).1<0↔u.1<0)
theorem yjk1 {p q:Pt} (hp1:coord p.1=true) (hp2:small p.2) (hq1:coord q.1=true) (hq2:small q.2) (hl:less p.1 q.1=true):∃ u v,SlopeOk p q u v:=by
 obtain⟨u,hu,e1,u1,u2⟩:=yul1 hq2 hp2
 obtain⟨v,hv,e2,v1',v2⟩:=yul1 (ybd hq1) (ybd hp1)
 have v1:v.1.natAbs<=10000:=by
  have h1:=hv.num;obtain⟨a1,a2,a3,a4⟩:=ytc1 hq1;obtain⟨b1,b2,b3,b4⟩:=ytc1 hp1;have m1:=yik1 (a:=q.1.1) (b:=p.1.2) (A:=100) (B:=100) (by omega) (by omega) (by omega) (by omega) (by omega) (by omega)
  have m2:=yik1 (a:=p.1.1) (b:=q.1.2) (A:=100) (B:=100) (by omega) (by omega) (by omega) (by omega) (by omega) (by omega)
  have p1:0<=q.1.1*p.1.2:=Int.mul_nonneg a1 (by omega)
  have p2:0<=p.1.1*q.1.2:=Int.mul_nonneg b1 (by omega)
  omega
 have hlt:p.1.1*q.1.2<q.1.1*p.1.2:=by simpa [less] using hl
 have hvp:=hv.pos (by omega)
 have hud:=hu.den
 have hvd:=hv.den
 have m1:=yik1 (a:=u.1) (b:=v.2) (A:=100000) (B:=10000) (by omega) (by omega) (by omega) (by omega) (by omega) (by omega)
 have m2:=yik1 (a:=u.2) (b:=v.1) (A:=10000) (B:=10000) (by omega) (by omega) (by omega) (by omega) (by omega) (by omega)
 have m3:0<u.2*v.1:=Int.mul_pos (by omega) hvp
 obtain⟨s,hs⟩:=ytl1 (n:=u.1*v.2) (d:=u.2*v.1) (by omega) (by omega) (by omega) (by omega)
 have e3:divQ u v=some s:=by unfold divQ;rw[if_neg (by omega)];exact hs.eq
 have e4:slopeQ p q=s:=by unfold slopeQ;rw[e1,e2];simp[e3]
 refine⟨u,v,⟨e1,e2,hu.rat,hv.rat,by rw[e4];exact e3,by rw[e4];exact hs.rat,⟨u1,u2⟩,⟨v1,v2⟩,hvp,?_⟩⟩
 rw[e4]
 have hv2:0<v.2:=by omega
 rcases Int.lt_trichotomy u.1 0 with h | h | h
 ·have h1:u.1*v.2<0:=Int.mul_neg_of_neg_of_pos h hv2
  have:=hs.neg h1
  constructor <;> constructor <;> omega
 ·have h1:u.1*v.2=0:=by rw[h,Int.zero_mul]
  have:=hs.zer h1
  constructor <;> constructor <;> omega
 have h1:0<u.1*v.2:=Int.mul_pos h hv2
 have:=hs.pos h1
 constructor <;> constructor <;> omega
theorem ywu {p q:Pt} {u v:Rt} (hp1:coord p.1=true) (hp2:small p.2) (hq1:coord q.1=true) (hq2:small q.2) (h:SlopeOk p q u v) (bad:Bool):ymg bad p q=some (slopeQ p q,bad):=by
 unfold ymg
 rw[yxz bad hq2.1 hp2.1,Option.bind_some,h.up]
 simp only[cK]
 rw[yxz bad (yph hq1) (yph hp1),Option.bind_some,h.far]
 simp only[cK]
 rw[yum1 bad h.ru h.rv,Option.bind_some,h.div]
 rfl
theorem yfi {p q:Pt} {u v:Rt} (hp1:coord p.1=true) (hp2:small p.2) (hq1:coord q.1=true) (hq2:small q.2) (h:SlopeOk p q u v):yrh p q=some (slopeQ p q):=by
 unfold yrh
 rw[yvu hq2.1 hp2.1,Option.bind_some,h.up]
 simp only[unO]
 rw[yvu (yph hq1) (yph hp1),Option.bind_some,h.far]
 simp only[unO]
 rw[ypi1 h.ru h.rv,Option.bind_some,h.div]
 rfl
section
variable {n:Nat} {p:Nat->Pt}
theorem ykk1 (h:isMapT n p) {i:Nat} (hi:i+1<n):∃ u v,SlopeOk (p i) (p (i+1)) u v :=
 yjk1 (h.1 i (by omega)).1 (ybd (h.1 i (by omega)).2) (h.1 (i+1) hi).1 (ybd (h.1 (i+1) hi).2) (h.2.1 (i+1) (by omega) hi)
def slopesT (n:Nat) (p:Nat->Pt):List Rt:=tab (n-1) fun i=>slopeQ (p i) (p (i+1))
theorem yge1 (h:isMapT n p) (h2:2<=n) (hn:n<=12):yim (tab n p)=some (slopesT n p):=by
 have hx:=yyz (body:=yxf (tab n p)) (n-1) (fun l i=>(false,l,((i+1:Nat):Int))) (fun i=>slopeQ (p i) (p (i+1))) (slopesT n p) (fun i hi=>by
  obtain⟨u,v,hs⟩:=ykk1 h (i:=i) (by omega)
  have a:=h.1 i (by omega)
  have b:=h.1 (i+1) (by omega)
  simp only[yxf,yab,yej (show 0<i+1 by omega) (by omega),Nat.add_sub_cancel,yua (show i<n by omega),yua (show i+1<n by omega),show(((i+1:Nat):Int)<(n:Int)) from by omega,decide_true,if_true,Option.bind_some,ywu a.1 (ybd a.2) b.1 (ybd b.2) hs false,yta (show i+1<9223372036854775807 by omega)]
  rw[yea (by simp;omega)]) (by
  simp only[yxf,yab,show ¬ (((n-1+1:Nat):Int)<(n:Int)) from by omega,decide_false,Bool.false_eq_true,if_false];rfl)
 unfold yim
 rw[show(1:Int)=((0+1:Nat):Int) from rfl,hx];rfl
theorem yjb1 (h:isMapT n p) (h2:2<=n) (hn:n<=12):ykp (tab n p)=some (slopesT n p):=by
 have hx:=yyz (body:=yhj (tab n p)) (n-1) (fun l i=>(l,((i+1:Nat):Int))) (fun i=>slopeQ (p i) (p (i+1))) (slopesT n p) (fun i hi=>by
  obtain⟨u,v,hs⟩:=ykk1 h (i:=i) (by omega)
  have a:=h.1 i (by omega)
  have b:=h.1 (i+1) (by omega)
  simp only[yhj,yab,yej (show 0<i+1 by omega) (by omega),Nat.add_sub_cancel,yua (show i<n by omega),yua (show i+1<n by omega),show(((i+1:Nat):Int)<(n:Int)) from by omega,decide_true,if_true,Option.bind_some,yfi a.1 (ybd a.2) b.1 (ybd b.2) hs,yta (show i+1<9223372036854775807 by omega)]
  rw[yea (by simp;omega)]) (by
  simp only[yhj,yab,show ¬ (((n-1+1:Nat):Int)<(n:Int)) from by omega,decide_false,Bool.false_eq_true,if_false];rfl)
 unfold ykp
 rw[show(1:Int)=((0+1:Nat):Int) from rfl,hx];rfl
def strictB (n:Nat) (p:Nat->Pt):Bool:=(slopesT n p).all fun s=> !(s.1==0)
end
end Go.PV

/-
 Plain laws: values of maps and lifts.
 Conditions: none.
-/
set_option linter.all false
namespace Go.PV
structure Curve (n:Nat) (p:Nat->Pt):Prop where
 lo:2<=n
 hi:n<=12
 x:∀ i,i<n->coord (p i).1=true
 y:∀ i,i<n->small (p i).2
 up:∀ i,0<i->i<n->less (p (i-1)).1 (p i).1=true
 fst:(p 0).1=(0,1)
 lst:(p (n-1)).1=(1,1)
theorem Curve.of_map {n:Nat} {p:Nat->Pt} (h:isMapT n p) (h2:2<=n) (hn:n<=12):Curve n p :=
 ⟨h2,hn,fun i hi=>(h.1 i hi).1,fun i hi=>ybd (h.1 i hi).2,h.2.1,h.2.2.1,h.2.2.2⟩
def CR (bad:Bool) (o:Option Rt) (v:Rt×Bool):Prop:=isRat v.1=true/\match o with
 | some r=>v=(r,bad)
 | none=>v.2=true
theorem yvb2 {bad:Bool} {o:Option Rt} (h:∀ r,o=some r->isRat r=true):CR bad o (cK bad o):=by
 refine⟨ytb2 h,?_⟩
 cases o <;> rfl
theorem ybw1 {o:Option Rt} {v:Rt×Bool} (h:CR true o v):v.2=true:=by
 obtain⟨_,h⟩:=h
 cases o with
 | some r=>rw[h]
 | none=>exact h
theorem ybu1 {bad:Bool} {o:Option Rt} {v v':Rt×Bool} {g:Rt->Option Rt} (h:CR bad o v) (h':CR v.2 (g v.1) v'):CR bad (o.bind g) v':=by
 obtain⟨h1,h2⟩:=h
 refine⟨h'.1,?_⟩
 cases o with
 | some r =>
  simp only at h2
  subst h2;exact h'.2
 | none =>
  simp only at h2
  simp only[Option.bind_none];have:=h'
  rw[h2] at this;exact ybw1 this
section
variable {n:Nat} {p:Nat->Pt}
theorem Curve.piece (h:Curve n p) {i:Nat} (hi:i+1<n):∃ u v,SlopeOk (p i) (p (i+1)) u v :=
 yjk1 (h.x i (by omega)) (h.y i (by omega)) (h.x (i+1) hi) (h.y (i+1) hi) (h.up (i+1) (by omega) hi)
structure AtJ (n:Nat) (p:Nat->Pt) (x:Rt) (j:Nat):Prop where
 lt:j<n
 bef:∀ k,k<j->less (p k).1 x=true
 at':less (p j).1 x=false
theorem yuw1 (h:Curve n p) {x:Rt} (hx:isUnit x=true):∃ j,AtJ n p x j:=by
 have hr:isRat x=true:=by simp only[isUnit,Bool.and_eq_true] at hx;exact hx.1
 have hle:less (p (n-1)).1 x=false:=by
  rw[h.lst];simp only[isUnit,Bool.and_eq_true,inB_iff] at hx;have:=isRat_iff.1 hr
  simp only[less,decide_eq_false_iff_not];omega
 have:∀ k,k<n->(∃ j,AtJ n p x j)\/∀ i,i<=k->less (p i).1 x=true:=by
  intro k;induction k with
  | zero =>
   intro hk;cases h0:less (p 0).1 x
   ·exact .inl ⟨0,hk,fun k hk=>by omega,h0⟩
   exact .inr fun i hi=>by have:i=0:=(by omega);subst this;exact h0
  | succ k ih =>
   intro hk;rcases ih (by omega) with h1 | h1
   ·exact .inl h1
   cases h0:less (p (k+1)).1 x
   ·exact .inl ⟨k+1,hk,fun i hi=>h1 i (by omega),h0⟩
   refine .inr fun i hi=>?_
   by_cases hik:i<=k
   ·exact h1 i hik
   have:i=k+1:=by omega
   subst this;exact h0
 have h2:=h.lo
 rcases this (n-1) (by omega) with h1 | h1
 ·exact h1
 have:=h1 (n-1) (Nat.le_refl _)
 rw[hle] at this;cases this
theorem AtJ.uniq {x:Rt} {j k:Nat} (h:AtJ n p x j) (h':AtJ n p x k):j=k:=by
 rcases Nat.lt_trichotomy j k with h1 | h1 | h1
 ·have:=h'.bef j h1;rw[h.at'] at this;cases this
 ·exact h1
 have:=h.bef k h1;rw[h'.at'] at this;cases this
theorem ycw1 (f:Pt->Option Bool) (q:Nat->Bool) (hf:∀ i,i<n->f (p i)=some (q i)) (j:Nat) (hj:j<n) (hn:n<=1048576) (h1:∀ k,k<j->q k=false) (h2:q j=true):yha (tab n p) f=some (j:Int):=by
 have hx:=ydc (body:=yia (tab n p) f) j (fun i=>(i:Int)) (.inl (j:Int)) (fun i hi=>by
  simp only[yia,yab,yua (show i<n by omega),hf i (by omega),h1 i hi,Option.bind_some,show((i:Int)<(n:Int)) from by omega,decide_true,if_true,yta (show i<9223372036854775807 by omega)]
  simp) (by
  simp only[yia,yab,yua hj,hf j hj,h2,Option.bind_some,show((j:Int)<(n:Int)) from by omega,decide_true,if_true])
 unfold yha
 rw[show(0:Int)=((0:Nat):Int) from rfl,hx]
 rfl
theorem yhe1 (h:Curve n p) {x:Rt} (hx:isRat x=true) {j:Nat} (hj:AtJ n p x j):ycr (tab n p) x=some ((j-1:Nat):Int):=by
 have h1:=h.hi
 have hlt:=hj.lt
 unfold ycr
 rw[ycw1 (fun x0=>yzm x0 x) (fun i=> !less (p i).1 x) (fun i hi=>by simp[yzm,yre _ _ (ysq (h.x i hi)) (yye hx)]) j hlt (by omega) (fun k hk=>by simp[hj.bef k hk]) (by simp[hj.at'])]
 rw[Option.bind_some,yec (by omega) (by omega)]
 congr 1
 split <;> omega
theorem yie1 (h:Curve n p) {x:Rt} (hx:isRat x=true) {j:Nat} (hj:AtJ n p x j):yar (tab n p) x=some ((j-1:Nat):Int):=by
 have h1:=h.hi
 have h2:=h.lo
 have hlt:=hj.lt
 have hx:=ydc (body:=ytk (tab n p) x) (j-1) (fun i=>(i:Int)) ((j-1:Nat):Int) (fun i hi=>by
  have e2:w64 ((i:Int)+2)=((i+2:Nat):Int):=by rw[yec (by omega) (by omega)];omega
  simp only[ytk,yab,e2,yta (show i<9223372036854775807 by omega),yua (show i+1<n by omega),Option.bind_some,yuf _ _ (ysq (h.x (i+1) (by omega))) (yye hx),show(((i+2:Nat):Int)<(n:Int)) from by omega,decide_true,if_true]
  have:decide (cmp (p (i+1)).1 x<0)=true:=by
   have:=hj.bef (i+1) (by omega)
   simp only[less,decide_eq_true_eq] at this;simp[cmp,this]
  rw[this];rfl) (by
  have e2:w64 (((j-1:Nat):Int)+2)=((j-1+2:Nat):Int):=by rw[yec (by omega) (by omega)];omega
  simp only[ytk,yab,e2];by_cases hc:j-1+2<n
  ·simp only[show(((j-1+2:Nat):Int)<(n:Int)) from by omega,decide_true,if_true,yta (show j-1<9223372036854775807 by omega),yua (show j-1+1<n by omega),Option.bind_some,yuf _ _ (ysq (h.x (j-1+1) (by omega))) (yye hx)]
   have hno:less (p (j-1+1)).1 x=false:=by
    by_cases hj0:j=0
    ·subst hj0
     -- x is not behind the first point,so not behind the second
     have h3:=hj.at'
     have h4:=h.up 1 (by omega) (by omega)
     rw[h.fst] at h3 h4
     obtain⟨x1,x2,x3,x4,_⟩:=isRat_iff.1 hx;have c:=ytc1 (h.x 1 (by omega))
     simp only[less,decide_eq_false_iff_not,decide_eq_true_eq] at h3 h4 ⊢;simp only[Nat.zero_sub,Nat.zero_add,Nat.sub_self] at h4 ⊢;have p1:0<=(p 1).1.1*x.2:=Int.mul_nonneg c.1 (by omega)
     have p2:x.1*(p 1).1.2<=0:=Int.mul_nonpos_of_nonpos_of_nonneg (by omega) (by omega)
     omega
    rw[show j-1+1=j by omega];exact hj.at'
   have:decide (cmp (p (j-1+1)).1 x<0)=false:=by
    simp only[less,decide_eq_false_iff_not] at hno;simp only[cmp,hno,if_false];split <;> rfl
   rw[this];rfl
  simp only[show ¬ (((j-1+2:Nat):Int)<(n:Int)) from by omega,decide_false,Bool.false_eq_true,if_false,Option.bind_some])
 unfold yar
 rw[show(0:Int)=((0:Nat):Int) from rfl,hx]
 rfl
def onQ (p q:Pt) (x:Rt):Option Rt:=(subQ x p.1).bind fun far=>(mulQ (slopeQ p q) far).bind fun up=>addQ p.2 up
theorem yls1 (a b:Rt):mulQ a b=mulQ b a:=by unfold mulQ;rw[Int.mul_comm,Int.mul_comm a.2]
theorem ylk1 {q:Pt} {s x:Rt} (hq1:isRat q.1=true) (hq2:isRat q.2=true) (hs:isRat s=true) (hx:isRat x=true) (bad:Bool):∃ v,yan bad q s x=some v/\CR bad ((subQ x q.1).bind fun far=>(mulQ s far).bind fun up=>addQ q.2 up) v:=by
 have c1:CR bad (subQ x q.1) (cK bad (subQ x q.1)):=yvb2 fun _=>yww
 have c2:=yvb2 (bad:=(cK bad (subQ x q.1)).2) (o:=mulQ s (cK bad (subQ x q.1)).1) fun _=>ybg1
 have c3:=yvb2 (bad:=(cK (cK bad (subQ x q.1)).2 (mulQ s (cK bad (subQ x q.1)).1)).2) (o:=addQ q.2 (cK (cK bad (subQ x q.1)).2 (mulQ s (cK bad (subQ x q.1)).1)).1) fun _=>yqp1
 refine⟨_,?_,ybu1 c1 (ybu1 (g:=fun up=>addQ q.2 up) c2 c3)⟩
 unfold yan
 rw[yxz bad hx hq1,Option.bind_some,ytm1 _ hs c1.1,Option.bind_some,ysm1 _ hq2 c2.1]
 rfl
theorem yri1 (h:Curve n p) {x:Rt} (hx:isRat x=true) {j:Nat} (hj:AtJ n p x j) (bad:Bool):∃ v,ytc bad (tab n p) x=some v/\CR bad (onQ (p (j-1)) (p (j-1+1)) x) v:=by
 have h1:=h.hi
 have h2:=h.lo
 have hlt:=hj.lt
 have hj1:j-1+1<n:=by omega
 obtain⟨u,v,hs⟩:=h.piece hj1
 obtain⟨w,e1,e2⟩:=ylk1 (q:=p (j-1)) (s:=slopeQ (p (j-1)) (p (j-1+1))) (x:=x) (yph (h.x (j-1) (by omega))) (h.y (j-1) (by omega)).1 hs.rs hx bad
 refine⟨w,?_,e2⟩
 unfold ytc
 rw[yhe1 h hx hj]
 simp only[Option.bind_some,yta (show j-1<9223372036854775807 by omega),yua (show j-1<n by omega),yua hj1,ywu (h.x (j-1) (by omega)) (h.y (j-1) (by omega)) (h.x (j-1+1) hj1) (h.y (j-1+1) hj1) hs bad,e1]
theorem yje1 (s:Rt):ybr (0,0) s=some ((0,0),false):=by
 unfold ybr ybc
 have:w64 (0*s.2)=0:=by rw[Int.zero_mul];rfl
 simp only[this]
 rfl
theorem ymk1 (h:Curve n p) {x:Rt} (hx:isRat x=true) {j:Nat} (hj:AtJ n p x j):ysi (tab n p) x=some (unO (onQ (p (j-1)) (p (j-1+1)) x)):=by
 have h1:=h.hi
 have h2:=h.lo
 have hlt:=hj.lt
 have hj1:j-1+1<n:=by omega
 obtain⟨u,v,hs⟩:=h.piece hj1
 have rx:=yph (h.x (j-1) (by omega))
 unfold ysi
 rw[yie1 h hx hj]
 simp only[Option.bind_some,yta (show j-1<9223372036854775807 by omega),yua (show j-1<n by omega),yua hj1,ywb1,yvu hx rx,yfi (h.x (j-1) (by omega)) (h.y (j-1) (by omega)) (h.x (j-1+1) hj1) (h.y (j-1+1) hj1) hs,onQ]
 cases hsq:subQ x (p (j-1)).1 with
 | none =>
  simp only[unO,yje1,Option.bind_some,Option.bind_none];rfl
 | some far =>
  have hf:=yww hsq;simp only[unO,yoi1 hf hs.rs,Option.bind_some,yls1 far];cases hmq:mulQ (slopeQ (p (j-1)) (p (j-1+1))) far with
  | none=>rfl
  | some up =>
   simp only[unO,Option.bind_some,yni1 (h.y (j-1) (by omega)).1 (ybg1 hmq)];rfl
end
end Go.PV

/-
 Plain laws: values of lifts.
 Conditions: none.
-/
set_option linter.all false
namespace Go.PV
structure LiftT (n:Nat) (p:Nat->Pt):Prop where
 cur:Curve n p
 mono:∀ i,0<i->i<n->less (p i).2 (p (i-1)).2=false
 lstY:(p (n-1)).2=((p 0).2.1+(p 0).2.2,(p 0).2.2)
 by5:∀ i,i<n -> -5*(p i).2.2<=(p i).2.1/\(p i).2.1<=5*(p i).2.2
def flr (x:Rt):Int:=floorDiv x.1 x.2
def part (x:Rt):Rt:=(x.1-flr x*x.2,x.2)
structure PartOk (x:Rt):Prop where
 rat:isRat (part x)=true
 lo:0<=(part x).1
 hi:(part x).1<(part x).2
 spec:yxk1 x=some (flr x)
 impl:yoq1 x=some (flr x)
 bd:flr x*x.2<=x.1/\x.1<flr x*x.2+x.2
section
variable {n:Nat} {p:Nat->Pt}
open Classical in
noncomputable def atQ (n:Nat) (p:Nat->Pt) (x:Rt):Option Rt:=if h:∃ j,AtJ n p x j then onQ (p (Classical.choose h-1)) (p (Classical.choose h-1+1)) x else none
theorem ysp1 {x:Rt} {j:Nat} (h:AtJ n p x j):atQ n p x=onQ (p (j-1)) (p (j-1+1)) x:=by
 have hx:∃ j,AtJ n p x j:=⟨j,h⟩
 unfold atQ
 rw[dif_pos hx,AtJ.uniq (Classical.choose_spec hx) h]
theorem yqz1 {q r:Pt} {x y:Rt} (h:onQ q r x=some y):isRat y=true:=by
 unfold onQ at h
 obtain⟨a,_,h⟩:=Option.bind_eq_some_iff.1 h
 obtain⟨b,_,h⟩:=Option.bind_eq_some_iff.1 h
 exact yqp1 h
theorem ysi1 {x y:Rt} (h:atQ n p x=some y):isRat y=true:=by
 unfold atQ at h
 split at h
 ·exact yqz1 h
 cases h
theorem yti1 (h:Curve n p) {x:Rt} (hx:isUnit x=true):ysi (tab n p) x=some (unO (atQ n p x)):=by
 have hr:isRat x=true:=by simp only[isUnit,Bool.and_eq_true] at hx;exact hx.1
 obtain⟨j,hj⟩:=yuw1 h hx
 rw[ymk1 h hr hj,ysp1 hj]
theorem yvl1 (h:Curve n p) {x:Rt} (hx:isUnit x=true) (bad:Bool):∃ v,ytc bad (tab n p) x=some v/\CR bad (atQ n p x) v:=by
 have hr:isRat x=true:=by simp only[isUnit,Bool.and_eq_true] at hx;exact hx.1
 obtain⟨j,hj⟩:=yuw1 h hx
 rw[ysp1 hj]
 exact yri1 h hr hj bad
noncomputable def liftQ (n:Nat) (p:Nat->Pt) (x:Rt):Option Rt:=(atQ n p (part x)).bind fun y=>addQ y (flr x,1)
end
end Go.PV

/-
 Plain laws: what draws lifts always comes to an end.
 Conditions: none.
-/
set_option linter.all false
namespace Go.PV
def Gr (r:Rt):Prop:=isRat r=true/\0<=r.1/\r.1<=100/\1<=r.2/\r.2<=100
theorem yms1 {v a:Int} (h0:0<=v) (h1:v<=a) (a1:1<=a) (a2:a<=100):Tot (ybc v a) fun r=>Gr r.1:=by
 obtain⟨r,h⟩:=ytq (n:=v) (d:=a) h0 (by omega) a1 (by omega)
 rw[yee v a (by omega) (by omega) (by omega) (by omega) (by omega),h.eq]
 have:=h.num
 have:=h.den
 have h2:0<=r.1:=by
  by_cases hv:v=0
  ·rw[h.zer hv];omega
  have:=h.pos (by omega);omega
 exact Tot.ret ⟨h.rat,h2,by show r.1<=100;omega,by show 1<=r.2;omega,by show r.2<=100;omega⟩
theorem yuq {B:Nat} (hB:B<=100000000) {c:Cur} (hc:Ck B c) {a:Int} (a1:1<=a) (a2:a<=100):Tot (yib c a) fun r=>Gr r.1/\Ck (B+2) r.2:=by
 unfold yib
 rw[yec (by omega) (by omega)]
 refine(ykk hc (by omega) _).bind fun v1 ⟨⟨b1,b2⟩,h1⟩=>?_
 have:=b2 (by omega)
 exact(yms1 b1 (by omega) a1 a2).bind fun v2 h2=>Tot.ret ⟨h2,h1⟩
theorem yns1 (a b:Rt):∃ r,ygc a b=some r:=by
 unfold ygc ydm
 by_cases h1:w64 (w64 (a.1*b.2)-w64 (b.1*a.2))>0
 ·simp[h1]
 by_cases h2:w64 (w64 (a.1*b.2)-w64 (b.1*a.2))<0 <;> simp[h1,h2]
theorem ytp1 (xs:List Rt) (x:Rt) (hl:xs.length<=1048576):Tot (ydd xs x) fun r=>xs.length<=r.length/\r.length<=xs.length+1:=by
 unfold ydd
 refine Tot.bind (P:=fun y:Int=>0<=y/\y<=xs.length) ?_ fun y ⟨y0,y1⟩=>?_
 ·refine Tot.loop (fun x=>0<=x/\x<=(xs.length:Int)) (fun x=>((xs.length:Int)-x).toNat) (fun i ⟨i0,i1⟩=>?_) _ ⟨by decide,by omega⟩
  unfold ynp;refine Tot.bind (P:=fun b=>b=true->i<(xs.length:Int)) ?_ fun b hb=>?_
  ·refine Tot.ite (fun hi=>?_) (fun _=>Tot.ret fun h=>by cases h)
   have hi':i<(xs.length:Int):=of_decide_eq_true hi
   refine Tot.idx i0 hi' fun v _=>?_
   obtain⟨r,hr⟩:=yns1 v x;rw[hr,Option.bind_some];exact Tot.ret fun _=>hi'
  refine Tot.ite (fun h=>?_) (fun _=>Tot.inr ⟨i0,i1⟩)
  have:=hb h
  have hw:w64 (i+1)=i+1:=yec (by omega) (by omega)
  rw[hw];exact Tot.inl ⟨⟨by omega,by omega⟩,by omega⟩
 unfold ymp
 refine Tot.bind (P:=fun _=>True) ?_ fun b _=>?_
 ·exact Tot.ite (fun hi=>Tot.idx y0 (of_decide_eq_true hi) fun v _=>Tot.ret trivial) (fun _=>Tot.ret trivial)
 refine Tot.ite (fun _=>Tot.ret ⟨Nat.le_refl _,by omega⟩) (fun _=>?_)
 refine Tot.guard ⟨y0,y1⟩ (Tot.guard (by simp;omega) (Tot.guard (by simp;omega) (Tot.guard (by simp;omega) (Tot.ret ⟨by simp;omega,by simp;omega⟩))))
def Gm (r:Rt):Prop := -1000<=r.1/\r.1<=1000/\1<=r.2/\r.2<=100
end Go.PV

/-
 Plain laws: what draws maps and counts of steps always comes to an end.
 Conditions: none.
-/
set_option linter.all false
namespace Go.PV
theorem yxu {n d:Int} (h1 : -1000<=n) (h2:n<=1000) (h3:1<=d) (h4:d<=1000):Tot (ybc n d) fun _=>True:=by
 rw[yee n d (by omega) (by omega) (by omega) (by omega) (by omega)]
 exact Tot.ret trivial
theorem yub1 (n:Int):Tot (ykb n) fun _=>True:=⟨_,rfl,trivial⟩
theorem yos1 {B:Nat} (hB:B<=1000000) {c:Cur} (hc:Ck B c) {a:Int} (a1:1<=a) (a2:a<=100):Tot (yci c a) fun r=>(2<=r.1.length/\r.1.length<=12)/\Ck (B+300) r.2:=by
 have k1:∀ (B':Nat) (x2:List Int×Int×Int×Int),B'+250<=B+300->x2.2.2.2<=10->0<=x2.2.2.2->Ck B' (cur4 x2)->Tot (yod a x2) fun r=>(2<=r.1.length/\r.1.length<=12)/\Ck (B+300) r.2:=by
  intro B' x2 hB' h10 h0 hc
  unfold yod ykb
  simp only[Option.bind_some];refine Tot.bind (P:=fun y:List Int×Int×Int×List Rt=>(2<=y.2.2.2.length/\y.2.2.2.length<=12)/\Ck (B'+120) (cur4 y)) ?_ fun y ⟨⟨y2,y12⟩,yc⟩=>?_
  ·refine Tot.loop (fun x=>(2<=x.2.2.2.1.length/\x.2.2.2.1.length<=12)/\(0<=x.2.2.2.2/\x.2.2.2.2<=60)/\Ck (B'+2*x.2.2.2.2.toNat) (cur4 x)) (fun x=>(60-x.2.2.2.2).toNat) (fun x ⟨⟨xl,xh⟩,⟨t0,t1⟩,xc⟩=>?_) _ ⟨⟨by simp,by simp⟩,⟨by simp,by simp⟩,by simpa [cur4] using hc⟩
   obtain⟨c1,c2,c3,l,tr⟩:=x;simp only[cur4] at xl xh t0 t1 xc ⊢;unfold yul;rw[yec (n:=x2.2.2.2+2) (by omega) (by omega)];refine Tot.ite (fun hk=>?_) (fun hk=>Tot.inr ⟨⟨xl,xh⟩,xc.mono (by omega)⟩)
   simp only[Bool.and_eq_true,decide_eq_true_eq] at hk;refine(yuq (by omega) xc a1 a2).bind fun v36 ⟨_,h36⟩=>?_
   refine(ytp1 l v36.1 (by omega)).bind fun v37 ⟨m1,m2⟩=>Tot.inl ?_
   have hw:w64 (tr+1)=tr+1:=yec (by omega) (by omega)
   simp only[hw];exact⟨⟨⟨by omega,by omega⟩,⟨by omega,by omega⟩,Ck.mono (c:=v36.2) h36 (by omega)⟩,by omega⟩
  unfold yth;refine Tot.bind (P:=fun z:List Int×Int×Int×List Pt=>(2<=z.2.2.2.length/\z.2.2.2.length<=12)/\Ck (B'+145) (cur4 z)) ?_ fun z ⟨z1,zc⟩=>Tot.ret ⟨z1,zc.mono (by omega)⟩
  refine Tot.loop (fun x=>((x.2.2.2.1.length:Int)=x.2.2.2.2/\x.2.2.2.2<=(y.2.2.2.length:Int))/\Ck (B'+120+2*x.2.2.2.1.length) (cur4 x)) (fun x=>((y.2.2.2.length:Int)-x.2.2.2.2).toNat) (fun x ⟨⟨xl,xh⟩,xc⟩=>?_) _ ⟨⟨by simp,by simp⟩,Ck.mono (c:=cur4 y) yc (by simp)⟩
  obtain⟨c1,c2,c3,l,i⟩:=x;simp only[cur4] at xl xh xc ⊢;unfold ytl;refine Tot.ite (fun hi=>?_) (fun hi=>Tot.inr ?_)
  ·have hi':i<(y.2.2.2.length:Int):=of_decide_eq_true hi
   refine Tot.idx (by omega) hi' fun v10 _=>?_
   refine(yuq (by omega) xc a1 a2).bind fun v11 ⟨_,h11⟩=>?_
   have hw:w64 (i+1)=i+1:=yec (by omega) (by omega)
   simp only[hw];exact Tot.guard (by simp;omega) (Tot.inl ⟨⟨⟨by simp;omega,by show i+1<=_;omega⟩,Ck.mono (c:=v11.2) h11 (by simp;omega)⟩,by show(_-(i+1)).toNat<(_-i).toNat;omega⟩)
  have hi':¬ i<(y.2.2.2.length:Int):=of_decide_eq_false hi
  exact⟨⟨by show 2<=l.length;omega,by show l.length<=12;omega⟩,Ck.mono (c:=(c1,c2,c3)) xc (by omega)⟩
 unfold yci
 refine(ypi hc (by omega) _ (by simp)).bind fun v1 ⟨m1,h1⟩=>?_
 simp only[List.mem_cons,List.not_mem_nil,or_false] at m1
 refine(yhb1 h1 (by omega) _).bind fun v38 h38=>?_
 exact Tot.ite (fun _=>k1 _ _ (by omega:B+2+2+250<=B+300) (by show(10:Int)<=10;omega) (by show(0:Int)<=10;omega) h38) (fun _=>k1 _ _ (by omega:B+2+2+250<=B+300) (by show v1.1<=10;omega) (by show 0<=v1.1;omega) h38)
theorem yqc2 {B:Nat} (hB:B<=100000) {c:Cur} (hc:Ck B c):Tot (yop c) fun r=>(2<=r.1.length/\r.1.length<=12)/\Ck (B+320) r.2:=by
 unfold yop
 refine(ypi hc (by omega) _ (by simp)).bind fun v1 ⟨m1,h1⟩=>?_
 simp only[List.mem_cons,List.not_mem_nil,or_false] at m1
 refine(yos1 (by omega) h1 (by omega) (by omega)).bind fun v2 ⟨l2,h2⟩=>?_
 refine(yhb1 h2 (by omega) _).bind fun v4 h4=>?_
 unfold yte
 refine Tot.ite (fun _=>?_) (fun _=>Tot.ret ⟨l2,Ck.mono (c:=v4.2) h4 (by omega)⟩)
 refine(ypi h4 (by omega) _ (by simp)).bind fun v6 ⟨m6,h6⟩=>?_
 simp only[List.mem_cons,List.not_mem_nil,or_false] at m6
 refine Tot.bind (P:=fun y:List Pt=>2<=y.length/\y.length<=12) ?_ fun y ⟨y2,y12⟩=>?_
 ·refine Tot.loop (fun x=>(x.1.length:Int)=x.2/\x.2<=v6.1+1) (fun x=>(v6.1+1-x.2).toNat) (fun x ⟨xl,xh⟩=>?_) _ ⟨by simp,by show(0:Int)<=_;omega⟩
  obtain⟨l,i⟩:=x;simp only at xl xh ⊢
  unfold yfr;refine Tot.ite (fun hi=>?_) (fun hi=>Tot.inr ?_)
  ·have hi':i<=v6.1:=of_decide_eq_true hi
   refine(yxu (by omega) (by omega) (by omega) (by omega)).bind fun v15 _=>?_
   refine(yub1 _).bind fun v16 _=>?_
   have hw:w64 (i+1)=i+1:=yec (by omega) (by omega)
   simp only[hw];exact Tot.guard (by simp;omega) (Tot.inl ⟨⟨by simp;omega,by show i+1<=_;omega⟩,by show(_-(i+1)).toNat<(_-i).toNat;omega⟩)
  have hi':¬ i<=v6.1:=of_decide_eq_false hi
  exact⟨by show 2<=l.length;omega,by show l.length<=12;omega⟩
 unfold ydn yte
 refine(yhb1 h6 (by omega) _).bind fun v8 h8=>?_
 refine Tot.ite (fun _=>?_) (fun _=>Tot.ret ⟨⟨y2,y12⟩,Ck.mono (c:=v8.2) h8 (by omega)⟩)
 refine(yuq (by omega) h8 (by omega) (by omega)).bind fun v10 ⟨_,h10⟩=>?_
 exact Tot.idx (by omega) (by omega) fun v11 _=>Tot.ret ⟨by show 2<=(y.set _ _).length/\(y.set _ _).length<=12;rw[List.length_set];exact⟨y2,y12⟩,Ck.mono (c:=v10.2) h10 (by omega)⟩
theorem ydw1 {B:Nat} (hB:B<=100000) {c:Cur} (hc:Ck B c):Tot (ylj c) fun r=>r.1.length<=13/\Ck (B+350) r.2:=by
 unfold ylj ylc
 refine(yqc2 hB hc).bind fun v1 ⟨⟨l2,l12⟩,h1⟩=>?_
 refine(ykk h1 (by omega) _).bind fun v2 ⟨⟨p1,p2⟩,h2⟩=>?_
 refine Tot.idx p1 (p2 (by omega)) fun v3 _=>?_
 refine(ykk h2 (by omega) _).bind fun v5 ⟨_,h5⟩=>?_
 refine Tot.ite (fun _=>?_) (fun _=>Tot.ite (fun _=>?_) (fun _=>Tot.ite (fun _=>?_) (fun _=>Tot.ite (fun _=>?_) (fun _=>Tot.ite (fun _=>?_) (fun _=>Tot.ret ⟨by show v1.1.length<=13;omega,Ck.mono (c:=v5.2) h5 (by omega)⟩)))))
 ·exact(ytv (by omega) h5).bind fun v7 h7=>Tot.ret ⟨by show(v1.1.set _ _).length<=13;rw[List.length_set];omega,Ck.mono (c:=v7.2) h7 (by omega)⟩
 ·exact(ytv (by omega) h5).bind fun v7 h7=>Tot.ret ⟨by show(v1.1.set _ _).length<=13;rw[List.length_set];omega,Ck.mono (c:=v7.2) h7 (by omega)⟩
 ·refine(ykk h5 (by omega) _).bind fun v11 ⟨⟨q1,q2⟩,h11⟩=>?_
  have q3:=q2 (by omega)
  exact(yxu (by omega) (by omega) (by omega) (by omega)).bind fun v12 _=>Tot.ret ⟨by show(v1.1.set _ _).length<=13;rw[List.length_set];omega,Ck.mono (c:=v11.2) h11 (by omega)⟩
 ·rw[yec (by omega) (by omega)]
  exact Tot.guard ⟨by omega,by omega⟩ (Tot.ret ⟨by show(v1.1.take _).length<=13;rw[List.length_take];omega,Ck.mono (c:=v5.2) h5 (by omega)⟩)
 refine Tot.bind (P:=fun y:List Int×Int×Int×List Pt=>y.2.2.2.length<=13/\cur4 y=v5.2) ?_ fun y ⟨hy,hyc⟩=>Tot.ret ⟨hy,?_⟩
 ·refine Tot.loop (fun x=>x.length<=13) (fun x=>13-x.length) (fun x hx=>?_) _ (by simp)
  unfold yfn;refine Tot.ite (fun hk=>?_) (fun hk=>Tot.inr ⟨hx,rfl⟩)
  have hk':(x.length:Int)<13:=of_decide_eq_true hk
  refine(yxu (by omega) (by omega) (by omega) (by omega)).bind fun v19 _=>?_
  refine(yub1 _).bind fun v20 _=>?_
  exact Tot.guard (by simp;omega) (Tot.inl ⟨by simp;omega,by simp;omega⟩)
 show Ck _ (cur4 y)
 rw[hyc];exact Ck.mono (c:=v5.2) h5 (by omega)
theorem yuc1 {B:Nat} (hB:B<=10000) {c:Cur} (hc:Ck B c):Tot (ypd c) fun r=>r.1.length<=13/\Ck (B+400) r.2:=by
 have k2:∀ (B':Nat) (x6:List Int×Int×Int×List Pt),B'+10<=B+400->x6.2.2.2.length<=13->Ck B' (cur4 x6)->Tot (yuc x6) fun r=>r.1.length<=13/\Ck (B+400) r.2:=by
  intro B' x6 hB' hl hc
  unfold yuc;refine(yhb1 hc (by omega) _).bind fun v7 h7=>?_
  refine Tot.ite (fun _=>?_) (fun _=>Tot.ret ⟨hl,Ck.mono (c:=v7.2) h7 (by omega)⟩)
  refine(ykk h7 (by omega) _).bind fun v9 ⟨⟨q1,q2⟩,h9⟩=>?_
  have q3:=q2 (by omega)
  rw[yec (n:=1+v9.1) (by omega) (by omega)];refine(yxu (by omega) (by omega) (by omega) (by omega)).bind fun v10 _=>?_
  refine(ykk h9 (by omega) _).bind fun v11 ⟨⟨q4,q5⟩,h11⟩=>?_
  have q6:=q5 (by omega)
  rw[yec (n:=3+v11.1) (by omega) (by omega)];refine(yxu (by omega) (by omega) (by omega) (by omega)).bind fun v12 _=>?_
  unfold ykb;simp only[Option.bind_some];exact Tot.ret ⟨by simp,Ck.mono (c:=v11.2) h11 (by omega)⟩
 unfold ypd
 refine(yhb1 hc (by omega) _).bind fun v1 h1=>?_
 refine Tot.ite (fun _=>?_) (fun _=>?_)
 ·exact(ydw1 (by omega) h1).bind fun v3 ⟨a,b⟩=>Tot.ret ⟨a,b.mono (by omega)⟩
 refine(ypi h1 (by omega) _ (by simp)).bind fun v4 ⟨m4,h4⟩=>?_
 simp only[List.mem_cons,List.not_mem_nil,or_false] at m4
 refine Tot.bind (P:=fun y:List Int×Int×Int×List Pt=>y.2.2.2.length<=13/\Ck (B+2+2+50) (cur4 y)) ?_ fun y ⟨hy,hyc⟩=>?_
 ·refine Tot.loop (fun x=>((x.2.2.2.1.length:Int)=x.2.2.2.2/\x.2.2.2.2<=v4.1+1)/\Ck (B+2+2+5*x.2.2.2.1.length) (cur4 x)) (fun x=>(v4.1+1-x.2.2.2.2).toNat) (fun x ⟨⟨xl,xh⟩,xc⟩=>?_) _ ⟨⟨by simp,by show(0:Int)<=_;omega⟩,h4⟩
  obtain⟨c1,c2,c3,l,i⟩:=x;simp only[cur4] at xl xh xc ⊢;have hw:w64 (i+1)=i+1:=yec (by omega) (by omega)
  have k3:∀ (v28:Rt×Bool) (x30:List Int×Int×Int×Int×Int),i<=v4.1->Ck (B+2+2+5*l.length+4) (x30.1,x30.2.1,x30.2.2.1)->Tot (ykc (c1,c2,c3,l,i) v28 x30) (Lp (fun x':List Int×Int×Int×List Pt×Int=>(((x'.2.2.2.1.length:Int)=x'.2.2.2.2/\x'.2.2.2.2<=v4.1+1)/\Ck (B+2+2+5*x'.2.2.2.1.length) (cur4 x'))/\(v4.1+1-x'.2.2.2.2).toNat<(v4.1+1-i).toNat) (fun y:List Int×Int×Int×List Pt=>y.2.2.2.length<=13/\Ck (B+2+2+50) (cur4 y))):=by
   intro v28 x30 hi hc;unfold ykc;simp only[hw];exact Tot.guard (by simp;omega) (Tot.inl ⟨⟨⟨by simp;omega,by show i+1<=v4.1+1;omega⟩,Ck.mono (c:=(x30.1,x30.2.1,x30.2.2.1)) hc (by simp;omega)⟩,by show(v4.1+1-(i+1)).toNat<_;omega⟩)
  unfold yri;have ew:w64 ((l.length:Int)-1)=(l.length:Int)-1:=yec (by omega) (by omega)
  simp only[ew];refine Tot.ite (fun hi=>?_) (fun hi=>Tot.inr ⟨?_,Ck.mono (c:=(c1,c2,c3)) xc (by omega)⟩)
  ·have hi':i<=v4.1:=of_decide_eq_true hi
   refine(yxu (by omega) (by omega) (by omega) (by omega)).bind fun v28 _=>?_
   refine(yuq (by omega) xc (by omega) (by omega)).bind fun v29 ⟨_,h29⟩=>?_
   refine Tot.bind (P:=fun w:List Int×Int×Int×Bool=>(w.2.2.2=true->0<l.length)/\Ck (B+2+2+5*l.length+4) (w.1,w.2.1,w.2.2.1)) ?_ fun w ⟨w1,w2⟩=>?_
   ·refine Tot.ite (fun hk=>?_) (fun _=>Tot.ret ⟨fun h=>(by cases h),Ck.mono (c:=v29.2) h29 (by omega)⟩)
    have hk':(l.length:Int)>0:=of_decide_eq_true hk
    refine Tot.idx (by omega) (by omega) fun v32 _=>?_
    refine Tot.ite (fun _=>?_) (fun _=>Tot.ret ⟨fun h=>(by cases h),Ck.mono (c:=v29.2) h29 (by omega)⟩)
    exact(yhb1 h29 (by omega) _).bind fun v33 h33=>Tot.ret ⟨fun _=>(by omega),Ck.mono (c:=v33.2) h33 (by omega)⟩
   refine Tot.ite (fun hk=>?_) (fun _=>k3 _ _ hi' w2)
   have:=w1 hk
   unfold yzr;rw[Option.bind_some];refine Tot.idx (by omega) (by omega) fun v37 _=>?_
   refine Tot.ite (fun _=>?_) (fun _=>k3 _ _ hi' w2)
   exact(yub1 _).bind fun v39 _=>k3 _ _ hi' w2
  have hi':¬ i<=v4.1:=of_decide_eq_false hi
  show l.length<=13
  omega
 unfold ywe
 refine(yhb1 hyc (by omega) _).bind fun v17 h17=>?_
 refine Tot.ite (fun _=>?_) (fun _=>k2 _ _ (by omega:B+2+2+50+2+10<=B+400) hy h17)
 refine Tot.bind (P:=fun z:List Int×Int×Int×List Pt=>z.2.2.2.length<=13/\cur4 z=v17.2) ?_ fun z ⟨hz,hzc⟩=>k2 (B+2+2+50+2) z (by omega) hz (by rw[hzc];exact h17)
 refine Tot.loop (fun x=>(x.1.length:Int)=x.2/\x.2<=12) (fun x=>(12-x.2).toNat) (fun x ⟨xl,xh⟩=>?_) _ ⟨by simp,by simp⟩
 obtain⟨l,i⟩:=x
 simp only at xl xh ⊢
 unfold yqi
 refine Tot.ite (fun hi=>?_) (fun hi=>Tot.inr ⟨by show l.length<=13;omega,rfl⟩)
 have hi':i<12:=of_decide_eq_true hi
 refine(yxu (by omega) (by omega) (by omega) (by omega)).bind fun v22 _=>?_
 refine(yub1 _).bind fun v23 _=>?_
 have hw:w64 (i+1)=i+1:=yec (by omega) (by omega)
 simp only[hw]
 exact Tot.guard (by simp;omega) (Tot.inl ⟨⟨by simp;omega,by show i+1<=_;omega⟩,by show(_-(i+1)).toNat<(_-i).toNat;omega⟩)
end Go.PV

/-
 Plain laws: where a lift comes from.
 Conditions: none.
-/
set_option linter.all false
namespace Go.PV
theorem yrz1 {n d:Int} (hd:0<d) {r:Rt} (h:lowQ n d=some r):r.1*d=n*r.2/\1<=r.2:=by
 have hr:=ywz h
 have h2:=(isRat_iff.1 hr).1
 have hdn:¬ d<0:=by omega
 unfold lowQ lowest at h
 simp only[if_neg hdn] at h
 by_cases h3:isRat (Int.tdiv n (Int.gcd n d:Int),Int.tdiv d (Int.gcd n d:Int))=true
 ·rw[if_pos h3] at h
  simp only[if_true] at h;obtain rfl:=Option.some.inj h
  have a:(Int.gcd n d:Int)∣n:=Int.gcd_dvd_left ..
  have b:(Int.gcd n d:Int)∣d:=Int.gcd_dvd_right ..
  refine⟨?_,h2⟩
  show Int.tdiv n (Int.gcd n d:Int)*d=n*Int.tdiv d (Int.gcd n d:Int)
  have e1:=Int.tdiv_mul_cancel a;have e2:=Int.tdiv_mul_cancel b;generalize Int.tdiv n (Int.gcd n d:Int)=u at *
  generalize Int.tdiv d (Int.gcd n d:Int)=v at *
  generalize (Int.gcd n d:Int)=g at *
  subst e1;rw[← e2];grind
 rw[if_neg h3] at h;simp at h
theorem yrc2 {a b c:Rt} (ha:isRat a=true) (hb:isRat b=true) (hc:isRat c=true) (h1:less a b=true) (h2:less c b=false):less a c=true:=by
 have a2:=(isRat_iff.1 ha).1
 have b2:=(isRat_iff.1 hb).1
 have c2:=(isRat_iff.1 hc).1
 simp only[less,decide_eq_true_eq,decide_eq_false_iff_not] at *
 have m1:=Int.mul_le_mul_of_nonneg_right (show b.1*c.2<=c.1*b.2 by omega) (show 0<=a.2 by omega)
 have m2:=Int.mul_lt_mul_of_pos_right h1 (show 0<c.2 by omega)
 refine Classical.byContradiction fun h3=>?_
 have m3:=Int.mul_le_mul_of_nonneg_right (show c.1*a.2<=a.1*c.2 by omega) (show 0<=b.2 by omega)
 grind
theorem ysc2 {a b c:Rt} (ha:isRat a=true) (hb:isRat b=true) (hc:isRat c=true) (h1:less b a=false) (h2:less c b=false):less c a=false:=by
 cases h:less c a
 ·rfl
 have:=yrc2 hc ha hb h h1
 rw[h2] at this;cases this
theorem ycu1 {a b:Rt} (ha:isRat a=true) (hb:isRat b=true) (h1:less a b=false) (h2:less b a=false):a=b:=by
 refine ymp1 ha hb ?_
 simp only[less,decide_eq_false_iff_not] at h1 h2
 omega
def turnK (y x:Rt):Int:=if less (part x) (part y)=true then flr x-flr y-1 else flr x-flr y
section
variable {n:Nat} {p:Nat->Pt}
def backQ (q r:Pt) (z:Rt):Option Rt:=(subQ z q.2).bind fun u=>(divQ u (slopeQ q r)).bind fun v=>addQ q.1 v
structure UpJ (n:Nat) (p:Nat->Pt) (z:Rt) (j:Nat):Prop where
 pos:0<j
 lt:j<n
 bef:∀ k,k<j->less (p k).2 z=true
 at':less (p j).2 z=false
structure FlatJ (n:Nat) (p:Nat->Pt) (j:Nat):Prop where
 pos:0<j
 lt:j<n
 same:∀ k,j<k->k<n->(p (k-1)).2=(p k).2
 step:(p (j-1)).2≠(p j).2
section
variable (h:Curve n p) {z:Rt} (hz:isRat z=true)
include h hz
end
end
end Go.PV

/-
 Plain laws: what fractions stand for.
 Conditions: none.
-/
set_option linter.all false
namespace Go.PV
def val (r:Rt):Rat:=(r.1:Rat) / (r.2:Rat)
theorem yls {d:Int} (h:0<d):(0:Rat)<(d:Rat):=by exact_mod_cast h
theorem ypg {r:Rt} (h:0<r.2):val r*(r.2:Rat)=(r.1:Rat):=by
 have:=yls h
 unfold val
 have h2:(r.2:Rat)≠0:=by intro h3;rw[h3] at this;exact absurd this (by decide)
 grind
theorem yew1 {a b c d:Int} (hb:0<b) (hd:0<d) {x y:Rat} (hx:x*(b:Rat)=(a:Rat)) (hy:y*(d:Rat)=(c:Rat)):a*d<c*b↔x<y:=by
 have pb:=yls hb
 have pd:=yls hd
 have e:((a*d:Int):Rat)<((c*b:Int):Rat)↔a*d<c*b:=by exact_mod_cast Iff.rfl
 rw[← e,Rat.intCast_mul,Rat.intCast_mul,← hx,← hy]
 constructor
 ·intro h
  refine Classical.byContradiction fun hno=>?_
  have h1:y<=x:=by grind
  have h2:=Rat.mul_le_mul_of_nonneg_left h1 (Rat.le_of_lt (Rat.mul_pos pb pd))
  grind
 intro h
 have h2:=Rat.mul_lt_mul_of_pos_left h (Rat.mul_pos pb pd)
 grind
theorem yce {a b:Rt} (ha:0<a.2) (hb:0<b.2):less a b=true↔val a<val b:=by
 rw[← yew1 ha hb (ypg ha) (ypg hb)]
 simp[less]
theorem yie {a b:Rt} (ha:0<a.2) (hb:0<b.2):less a b=false↔val b<=val a:=by
 have:=yce ha hb
 cases h:less a b
 ·rw[h] at this
  have:¬ val a<val b:=fun h1=>by have:=this.2 h1;cases this
  exact⟨fun _=>by grind,fun _=>rfl⟩
 rw[h] at this
 have:=this.1 rfl
 exact⟨fun h=>(by cases h),fun h=>(by grind)⟩
theorem yzz {n d:Int} (hd:0<d) {r:Rt} (h:lowQ n d=some r):val r*(d:Rat)=(n:Rat):=by
 obtain⟨e,hp⟩:=yrz1 hd h
 have h2:=ypg (r:=r) (by omega)
 have p2:=yls (d:=r.2) (by omega)
 have pd:=yls hd
 have e2:(r.1:Rat)*(d:Rat)=(n:Rat)*(r.2:Rat):=by exact_mod_cast e
 have h3:(r.2:Rat)≠0:=by intro h3;rw[h3] at p2;exact absurd p2 (by decide)
 rw[← h2] at e2
 grind
theorem ne0 {d:Int} (h:0<d):(d:Rat)≠0:=by
 have:=yls h
 intro h3;rw[h3] at this;exact absurd this (by decide)
section
variable {a b r:Rt} (ha:isRat a=true) (hb:isRat b=true)
include ha hb
theorem yup1 (h:addQ a b=some r):val r=val a+val b:=by
 have a2:=(isRat_iff.1 ha).1
 have b2:=(isRat_iff.1 hb).1
 have e:=yzz (ybf1 ha hb) h
 have e1:=ypg (r:=a) (by omega)
 have e2:=ypg (r:=b) (by omega)
 have n1:=ne0 (d:=a.2) (by omega)
 have n2:=ne0 (d:=b.2) (by omega)
 rw[Rat.intCast_add,Rat.intCast_mul,Rat.intCast_mul,Rat.intCast_mul,← e1,← e2] at e
 grind
theorem yyu (h:subQ a b=some r):val r=val a-val b:=by
 have a2:=(isRat_iff.1 ha).1
 have b2:=(isRat_iff.1 hb).1
 have e:=yzz (ybf1 ha hb) h
 have e1:=ypg (r:=a) (by omega)
 have e2:=ypg (r:=b) (by omega)
 have n1:=ne0 (d:=a.2) (by omega)
 have n2:=ne0 (d:=b.2) (by omega)
 rw[Rat.intCast_sub,Rat.intCast_mul,Rat.intCast_mul,Rat.intCast_mul,← e1,← e2] at e
 grind
theorem yvp1 (h:mulQ a b=some r):val r=val a*val b:=by
 have a2:=(isRat_iff.1 ha).1
 have b2:=(isRat_iff.1 hb).1
 have e:=yzz (ybf1 ha hb) h
 have e1:=ypg (r:=a) (by omega)
 have e2:=ypg (r:=b) (by omega)
 have n1:=ne0 (d:=a.2) (by omega)
 have n2:=ne0 (d:=b.2) (by omega)
 rw[Rat.intCast_mul,Rat.intCast_mul,← e1,← e2] at e
 grind
theorem divQ_val (hp:0<b.1) (h:divQ a b=some r):val r*val b=val a:=by
 have a2:=(isRat_iff.1 ha).1
 have b2:=(isRat_iff.1 hb).1
 unfold divQ at h
 rw[if_neg (by omega)] at h
 have e:=yzz (Int.mul_pos (by omega) hp) h
 have e1:=ypg (r:=a) (by omega)
 have e2:=ypg (r:=b) (by omega)
 have n1:=ne0 (d:=a.2) (by omega)
 have n2:=ne0 (d:=b.2) (by omega)
 rw[Rat.intCast_mul,Rat.intCast_mul,← e1,← e2] at e
 grind
end
theorem yqh {r:Rt} (hr:isRat r=true):isUnit r=true↔(0:Rat)<=val r/\val r<=1:=by
 have r2:=(isRat_iff.1 hr).1
 have e:=ypg (r:=r) (by omega)
 have p:=yls (d:=r.2) (by omega)
 simp only[isUnit,Bool.and_eq_true,inB_iff,hr,true_and]
 have h1:=yew1 (a:=r.1) (b:=r.2) (c:=0) (d:=1) (x:=val r) (y:=0) (by omega) (by omega) e (by simp)
 have h2:=yew1 (a:=1) (b:=1) (c:=r.1) (d:=r.2) (x:=1) (y:=val r) (by omega) (by omega) (by simp) e
 constructor
 ·intro ⟨h3,h4⟩
  constructor
  ·refine Classical.byContradiction fun hno=>?_
   have:=h1.2 (by grind)
   omega
  refine Classical.byContradiction fun hno=>?_
  have:=h2.2 (by grind)
  omega
 intro ⟨h3,h4⟩
 constructor
 ·refine Classical.byContradiction fun hno=>?_
  have:=h1.1 (by omega)
  grind
 refine Classical.byContradiction fun hno=>?_
 have:=h2.1 (by omega)
 grind
end Go.PV

/-
 Plain laws: the laps of a map.
 Conditions: none.
-/
set_option linter.all false
namespace Go.PV
abbrev Trip:=Nat×Nat×Int
def encT (t:Trip):List Int:=[(t.1:Int),(t.2.1:Int),t.2.2]
def lapStep (l:List Trip) (i:Nat) (s:Int):List Trip:=match l.getLast? with
 | some t=>if t.2.2=s then l.dropLast++[(t.1,i+1,s)] else l++[(i,i+1,s)]
 | none=>l++[(i,i+1,s)]
def lapsN (σ:Nat->Int):Nat->List Trip
 | 0=>[]
 | i+1=>lapStep (lapsN σ i) i (σ i)
theorem yaa1 (i:Nat) (s:Int):lapStep [] i s=[(i,i+1,s)]:=rfl
theorem yuv (l:List Trip) (t:Trip) (i:Nat) (s:Int):lapStep (l++[t]) i s=if t.2.2=s then l++[(t.1,i+1,s)] else l++[t]++[(i,i+1,s)]:=by
 unfold lapStep
 simp
theorem yvc1 {α:Type} (l:List α):l=[]\/∃ l' x,l=l'++[x]:=by
 rcases List.eq_nil_or_concat l with h | ⟨l',x,h⟩
 ·exact .inl h
 exact .inr ⟨l',x,by rw[h,List.concat_eq_append]⟩
structure LapInv (σ:Nat->Int) (i:Nat):Prop where
 len:(lapsN σ i).length<=i
 ne:0<i->lapsN σ i≠[]
 bd:∀ t∈lapsN σ i,t.1<t.2.1/\t.2.1<=i
theorem ycf1 (σ:Nat->Int):∀ i,LapInv σ i
 | 0=>⟨by simp[lapsN],by omega,by simp[lapsN]⟩
 | i+1=>by
  have ih:=ycf1 σ i;have hl:=ih.len;have hb:=ih.bd;rcases yvc1 (lapsN σ i) with h | ⟨l,t,h⟩
  ·have e:lapsN σ (i+1)=[(i,i+1,σ i)]:=by simp only[lapsN,h,yaa1]
   exact⟨by rw[e];simp,fun _=>by rw[e];simp,by rw[e];simp⟩
  rw[h] at hl hb
  have e:lapsN σ (i+1)=if t.2.2=σ i then l++[(t.1,i+1,σ i)] else l++[t]++[(i,i+1,σ i)]:=by simp only[lapsN,h,yuv]
  have ht:=hb t (by simp)
  have hbl:∀ t'∈l,t'.1<t'.2.1/\t'.2.1<=i+1:=fun t' h'=>by have:=hb t' (by simp[h']);omega
  simp at hl
  by_cases hs:t.2.2=σ i
  ·rw[if_pos hs] at e
   refine⟨by rw[e];simp;omega,fun _=>by rw[e];simp,fun t' h'=>?_⟩
   rw[e] at h'
   rcases List.mem_append.1 h' with h' | h'
   ·exact hbl t' h'
   simp at h';subst h';exact⟨by show t.1<i+1;omega,Nat.le_refl _⟩
  rw[if_neg hs] at e;refine⟨by rw[e];simp;omega,fun _=>by rw[e];simp,fun t' h'=>?_⟩
  rw[e] at h'
  rcases List.mem_append.1 h' with h' | h'
  ·rcases List.mem_append.1 h' with h' | h'
   ·exact hbl t' h'
   simp at h';subst h';omega
  simp at h';subst h';exact⟨Nat.lt_succ_self i,Nat.le_refl _⟩
def sg (n:Int):Int:=if 0<n then 1 else if n<0 then -1 else 0
theorem yeg1 (n:Int):ydm n=some (sg n):=by
 unfold ydm sg
 by_cases h:0<n
 ·simp[h]
 by_cases h2:n<0 <;> simp[h,h2]
theorem ynk1 (s:Rt) (h:isRat s=true):yvv s=some (sg s.1):=by
 unfold yvv yil sg
 rw[Option.bind_some,yiw s (0,1) (yye h) ⟨by decide,by decide,by decide,by decide⟩,Option.bind_some]
 unfold cmp
 simp only[Int.mul_one,Int.zero_mul]
 by_cases h1:s.1<0
 ·have:¬ 0<s.1:=by omega
  simp[h1,this]
 by_cases h2:0<s.1 <;> simp[h1,h2]
section
variable {m:Nat} {r:Nat->Rt}
theorem ywp1 (l:List Trip) (t:Trip):((l++[t]).map encT)[l.length]?=some (encT t):=by simp
theorem yxp1 (l:List Trip) (t:Trip) (x:List Int):((l++[t]).map encT).set l.length x=l.map encT++[x]:=by
 rw[List.map_append,List.set_append]
 simp
theorem yfg1 (hm:m<=1048576) (hr:∀ i,i<m->isRat (r i)=true) {i:Nat} (hi:i<m) :
  yjo (tab m r) ((lapsN (fun k=>sg (r k).1) i).map encT,(i:Int))=some (.inl ((lapsN (fun k=>sg (r k).1) (i+1)).map encT,((i+1:Nat):Int))):=by
 have hinv:=ycf1 (fun k=>sg (r k).1) i
 have hl:=hinv.len
 simp only[yjo,yab,yua hi,show((i:Int)<(m:Int)) from by omega,decide_true,if_true,Option.bind_some,yta (show i<9223372036854775807 by omega),ynk1 (r i) (hr i hi)]
 rcases yvc1 (lapsN (fun k=>sg (r k).1) i) with h | ⟨l,t,h⟩
 ·have e:lapsN (fun k=>sg (r k).1) (i+1)=[(i,i+1,sg (r i).1)]:=by simp only[lapsN,h,yaa1]
  rw[h,e];have hw:w64 ((0:Int)-1) = -1:=by rw[yec (by omega) (by omega)];rfl
  simp only[List.map_nil,List.length_nil,Int.natCast_zero,hw,show ¬ ((-1:Int)>=0) by omega,decide_false,Bool.false_eq_true,if_false,Option.bind_some];rw[yea (by simp)];rfl
 have e:lapsN (fun k=>sg (r k).1) (i+1)=if t.2.2=sg (r i).1 then l++[(t.1,i+1,sg (r i).1)] else l++[t]++[(i,i+1,sg (r i).1)]:=by simp only[lapsN,h,yuv]
 rw[h] at hl
 simp at hl
 rw[h]
 have hw:w64 ((((l++[t]).map encT).length:Int)-1)=((l.length:Nat):Int):=by
  rw[List.length_map,List.length_append,List.length_singleton,yec (by omega) (by omega)];omega
 simp only[hw,show(((l.length:Nat):Int)>=0) by omega,decide_true,if_true,ydj,ywp1,Option.bind_some,Int.toNat_natCast,yxp1]
 have e2:idxO (encT t) 2=some t.2.2:=rfl
 have e1:idxO (encT t) 1=some ((t.2.1:Nat):Int):=rfl
 rw[e2,e1,e]
 simp only[Option.bind_some]
 by_cases hs:t.2.2=sg (r i).1
 ·have hb:(t.2.2==sg (r i).1)=true:=by simpa using hs
  rw[hb,if_pos rfl,if_pos hs];simp only[encT,List.map_append,List.map_cons,List.map_nil,hs];rfl
 have hb:(t.2.2==sg (r i).1)=false:=by simpa using hs
 rw[hb,if_neg hs]
 simp only[Bool.false_eq_true,if_false]
 rw[yea (by simp;omega)]
 simp only[encT,List.map_append,List.map_cons,List.map_nil]
theorem ygg1 (hm:m<=1048576) {i:Nat} (hi:i<m) :
  ydk (tab m r) ((lapsN (fun k=>sg (r k).1) i).map encT,(i:Int))=some (.inl ((lapsN (fun k=>sg (r k).1) (i+1)).map encT,((i+1:Nat):Int))):=by
 have hinv:=ycf1 (fun k=>sg (r k).1) i
 have hl:=hinv.len
 simp only[ydk,yab,yua hi,show((i:Int)<(m:Int)) from by omega,decide_true,if_true,Option.bind_some,yta (show i<9223372036854775807 by omega),yeg1]
 rcases yvc1 (lapsN (fun k=>sg (r k).1) i) with h | ⟨l,t,h⟩
 ·have e:lapsN (fun k=>sg (r k).1) (i+1)=[(i,i+1,sg (r i).1)]:=by simp only[lapsN,h,yaa1]
  rw[h,e];simp only[List.map_nil,List.length_nil,Int.natCast_zero,show ¬ ((0:Int)>0) by omega,decide_false,Bool.false_eq_true,if_false,Option.bind_some];rw[yea (by simp)];rfl
 have e:lapsN (fun k=>sg (r k).1) (i+1)=if t.2.2=sg (r i).1 then l++[(t.1,i+1,sg (r i).1)] else l++[t]++[(i,i+1,sg (r i).1)]:=by simp only[lapsN,h,yuv]
 rw[h] at hl
 simp at hl
 rw[h]
 have hw:w64 ((((l++[t]).map encT).length:Int)-1)=((l.length:Nat):Int):=by
  rw[List.length_map,List.length_append,List.length_singleton,yec (by omega) (by omega)];omega
 have hp:((((l++[t]).map encT).length:Int)>0):=by
  rw[List.length_map,List.length_append,List.length_singleton];omega
 simp only[hw,hp,decide_true,if_true,ydj,ywp1,Option.bind_some,Int.toNat_natCast,yxp1]
 have e2:idxO (encT t) 2=some t.2.2:=rfl
 have e1:idxO (encT t) 1=some ((t.2.1:Nat):Int):=rfl
 rw[e2,e1,e]
 simp only[Option.bind_some]
 by_cases hs:t.2.2=sg (r i).1
 ·have hb:(t.2.2==sg (r i).1)=true:=by simpa using hs
  rw[hb,if_pos rfl,if_pos hs];simp only[encT,List.map_append,List.map_cons,List.map_nil,hs];rfl
 have hb:(t.2.2==sg (r i).1)=false:=by simpa using hs
 rw[hb,if_neg hs]
 simp only[Bool.false_eq_true,if_false]
 rw[yea (by simp;omega)]
 simp only[encT,List.map_append,List.map_cons,List.map_nil]
end
section
variable {n:Nat} {p:Nat->Pt}
def wayOf (p:Nat->Pt):Nat->Int:=fun i=>sg (slopeQ (p i) (p (i+1))).1
def lapsT (n:Nat) (p:Nat->Pt):List Trip:=lapsN (wayOf p) (n-1)
theorem yui1 (h:isMapT n p) (h2:2<=n) (hn:n<=12):ymy (tab n p)=some ((lapsT n p).map encT):=by
 have hx:=ydc (body:=yjo (slopesT n p)) (n-1) (fun i=>((lapsN (wayOf p) i).map encT,(i:Int))) ((lapsT n p).map encT) (fun i hi =>
  yfg1 (m:=n-1) (r:=fun i=>slopeQ (p i) (p (i+1))) (by omega) (fun i hi=>by obtain⟨u,v,hs⟩:=ykk1 h (i:=i) (by omega);exact hs.rs) hi) (by
  simp[yjo,slopesT,yab,lapsT])
 unfold ymy
 rw[yge1 h h2 hn,Option.bind_some,show(0:Int)=((0:Nat):Int) from rfl]
 simp only[lapsN,List.map_nil] at hx
 rw[hx];rfl
theorem yjw (h:isMapT n p) (h2:2<=n) (hn:n<=12):yat (tab n p)=some ((lapsT n p).map encT):=by
 have hx:=ydc (body:=ydk (slopesT n p)) (n-1) (fun i=>((lapsN (wayOf p) i).map encT,(i:Int))) ((lapsT n p).map encT) (fun i hi =>
  ygg1 (m:=n-1) (r:=fun i=>slopeQ (p i) (p (i+1))) (by omega) hi) (by
  simp[ydk,slopesT,yab,lapsT])
 unfold yat
 rw[yjb1 h h2 hn,Option.bind_some,show(0:Int)=((0:Nat):Int) from rfl]
 simp only[lapsN,List.map_nil] at hx
 rw[hx];rfl
theorem ywl1 (h2:2<=n):1<=(lapsT n p).length/\(lapsT n p).length<=n-1:=by
 have h:=ycf1 (wayOf p) (n-1)
 have h1:=h.len
 have h3:=h.ne (by omega)
 unfold lapsT
 have:=List.length_pos_iff.2 h3
 omega
end
def lbN (c:Int):Nat->Int->Int×Bool
 | 0,o=>(o,true)
 | k+1,o=>if o*c>1000000000 then(0,false) else lbN c k (o*c)
def fullB (a b:Rt):Bool:=(a==(0,1)&&b==(1,1))||(a==(1,1)&&b==(0,1))
section
variable {n:Nat} {p:Nat->Pt}
def fullN (p:Nat->Pt) (l:List Trip):Nat:=(l.filter fun t=>fullB (p t.1).2 (p t.2.1).2).length
end
end Go.PV

/-
 Plain laws: values of the turning point.
 Conditions: none.
-/
set_option linter.all false
namespace Go.PV
section
variable {n:Nat} {p:Nat->Pt}
theorem yzu {r:Rt} (h:coord r=true):(0:Rat)<=val r/\val r<=1:=by
 have hr:=yph h
 have c:=ytc1 h
 refine(yqh hr).1 ?_
 simp only[isUnit,Bool.and_eq_true,inB_iff]
 exact⟨hr,c.1,c.2.1⟩
theorem yba1 (h:Curve n p) (hy:∀ i,i<n->coord (p i).2=true) {x y:Rt} (hx:isUnit x=true) (ha:atQ n p x=some y):isUnit y=true:=by
 have hr:isRat x=true:=by simp only[isUnit,Bool.and_eq_true] at hx;exact hx.1
 have hyr:=ysi1 ha
 obtain⟨j,hj⟩:=yuw1 h hx
 rw[ysp1 hj] at ha
 have hlt:=hj.lt
 have hn:=h.lo
 have hj1:j-1+1<n:=by omega
 obtain⟨u,v,hs⟩:=h.piece hj1
 unfold onQ at ha
 obtain⟨far,e1,ha⟩:=Option.bind_eq_some_iff.1 ha
 obtain⟨up,e2,ha⟩:=Option.bind_eq_some_iff.1 ha
 have rx0:=yph (h.x (j-1) (by omega))
 have rx1:=yph (h.x (j-1+1) hj1)
 have ry0:=(h.y (j-1) (by omega)).1
 have ry1:=(h.y (j-1+1) hj1).1
 have d2:∀ {z:Rt},isRat z=true->0<z.2:=fun hz=>by have:=(isRat_iff.1 hz).1;omega
 have q1:=yyu hr rx0 e1
 have q2:=yvp1 hs.rs (yww e1) e2
 have q3:=yup1 ry0 (ybg1 e2) ha
 have q4:=yyu ry1 ry0 hs.up
 have q5:=yyu rx1 rx0 hs.far
 have q6:=divQ_val hs.ru hs.rv hs.vp hs.div
 have b0:=yzu (hy (j-1) (by omega))
 have b1:=yzu (hy (j-1+1) hj1)
 have hup:=(yce (d2 rx0) (d2 rx1)).1 (by have:=h.up (j-1+1) (by omega) hj1;simpa using this)
 have hux:=(yqh hr).1 hx
 have hlo:val (p (j-1)).1<=val x:=by
  by_cases h0:j=0
  ·subst h0
   rw[show 0-1=0 from rfl,h.fst];have:val (0,1)=0:=by have:=ypg (r:=((0:Int),(1:Int))) (by decide);simpa using this
   rw[this];exact hux.1
  have:=(yce (d2 rx0) (d2 hr)).1 (hj.bef (j-1) (by omega))
  exact Rat.le_of_lt this
 have hhi:val x<=val (p (j-1+1)).1:=by
  by_cases h0:j=0
  ·subst h0
   have:=(yie (d2 rx0) (d2 hr)).1 hj.at'
   rw[show 0-1=0 from rfl] at hup;grind
  rw[show j-1+1=j by omega] at rx1 ⊢
  exact(yie (d2 rx1) (d2 hr)).1 hj.at'
 refine(yqh hyr).2 ?_
 rw[q4,q5] at q6
 rw[q3,q2,q1]
 generalize val (slopeQ (p (j-1)) (p (j-1+1)))=s at *
 generalize val (p (j-1)).1=x0 at *
 generalize val (p (j-1+1)).1=x1 at *
 generalize val (p (j-1)).2=y0 at *
 generalize val (p (j-1+1)).2=y1 at *
 generalize val x=z at *
 rcases Rat.le_total (a:=0) (b:=s) with h1 | h1
 ·have m1:=Rat.mul_le_mul_of_nonneg_left (show z-x0<=x1-x0 by grind) h1
  have m2:=Rat.mul_nonneg h1 (show 0<=z-x0 by grind)
  grind
 have m1:=Rat.mul_le_mul_of_nonneg_left (show z-x0<=x1-x0 by grind) (show 0 <= -s by grind)
 have m2:=Rat.mul_nonneg (show 0 <= -s by grind) (show 0<=z-x0 by grind)
 grind
noncomputable def vQ (n:Nat) (p:Nat->Pt) (c:Rt):Nat->Option Rt
 | 0=>some c
 | k+1=>(vQ n p c k).bind (atQ n p)
noncomputable def vv (n:Nat) (p:Nat->Pt) (c:Rt) (k:Nat):Rt:=(vQ n p c k).getD (0,0)
variable {c:Rt}
theorem ysz1 {k m:Nat} (h:vQ n p c k=none) (hm:k<=m):vQ n p c m=none:=by
  induction m with
  | zero => have : k = 0 := by omega
            subst this;exact h
  | succ m ih =>
    by_cases hk:k=m+1
    · subst hk;exact h
    · simp[vQ,ih (by omega)]
theorem yyp1 (h:Curve n p) (hy:∀ i,i<n->coord (p i).2=true) (hc:isUnit c=true):∀ {k:Nat} {y:Rt},vQ n p c k=some y->isUnit y=true
 | 0,y,e=>by obtain rfl:=Option.some.inj e;exact hc
 | k+1,y,e=>by
  obtain⟨z,e1,e2⟩:=Option.bind_eq_some_iff.1 e;exact yba1 h hy (yyp1 h hy hc e1) e2
structure Stop (n:Nat) (p:Nat->Pt) (c:Rt) (m L:Nat):Prop where
 le:L<=m
 some:vQ n p c L=some (vv n p c L)
 stop:L=m\/vQ n p c (L+1)=none
theorem yvi1 (h:Curve n p) (hy:∀ i,i<n->coord (p i).2=true) (hc:isUnit c=true) (m:Nat) (hm:m<=1048576):∃ L,Stop n p c m L/\ybt (tab n p) c (m:Int)=some (tab (L+1) (vv n p c)):=by
 obtain⟨y,h3,h4⟩:=yao (body:=ylp (tab n p) (m:Int)) (fun s=>∃ i:Nat,i<=m/\s=((vv n p c i).1,(vv n p c i).2,tab (i+1) (vv n p c),false,(i:Int))/\vQ n p c i=some (vv n p c i)) (fun s=>m-s.2.2.2.2.toNat)
  (fun y=>∃ L,Stop n p c m L/\y=tab (L+1) (vv n p c)) (fun s ⟨i,hi,e,hq⟩=>by
   subst e;by_cases hlt:i<m
   ·obtain⟨v,e4,e5,e6⟩:=yvl1 h (yyp1 h hy hc hq) false
    simp only[ylp,show((i:Int)<(m:Int)) from by omega,decide_true,if_true];rw[show((vv n p c i).1,(vv n p c i).2)=vv n p c i from rfl,e4];simp only[Option.bind_some];have e2:vQ n p c (i+1)=atQ n p (vv n p c i):=by simp[vQ,hq]
    cases ha:atQ n p (vv n p c i) with
    | none=>rw[ha] at e6;simp only at e6;right;exact⟨_,by rw[e6];rfl,i,⟨hi,hq,.inr (by rw[e2,ha])⟩,rfl⟩
    | some z =>
     rw[ha] at e6;simp only at e6
     subst e6;have e3:vv n p c (i+1)=z:=by unfold vv;rw[e2,ha];rfl
     left
     refine⟨_,by
      simp only[Bool.false_eq_true,if_false];rw[yea (by simp[yab];omega)],⟨i+1,hlt,by rw[e3,← yqc1 (i+1),e3,yta (show i<9223372036854775807 by omega)],by rw[e2,ha,e3]⟩,by simp only[yta (show i<9223372036854775807 by omega),Int.toNat_natCast];omega⟩
   have:i=m:=by omega
   subst this;right
   exact⟨tab (i+1) (vv n p c),by simp[ylp],i,⟨hi,hq,.inl rfl⟩,rfl⟩) (c.1,c.2,[c],false,0) ⟨0,by omega,rfl,rfl⟩
 obtain⟨L,h5,rfl⟩:=h4
 refine⟨L,h5,?_⟩
 unfold ybt
 rw[h3]
 rfl
end
section
variable {n:Nat} {p:Nat->Pt} {t0 t1:Trip}
end
end Go.PV

set_option linter.all false
namespace Go.PV
def flatP (xs:List Pt) (n:Nat):Prop:=∃ i a b,0<i/\i<n/\xs[i-1]?=some a/\xs[i]?=some b/\a.2=b.2
end Go.PV

/-
 Plain laws: plateaus.
 Conditions: none.
-/
set_option linter.all false
namespace Go.PV
def markV (n:Nat) (k:Int):List Pt:=marks 4 (fun c=>((c,c+1),(c+1+1,c+1+1+1))) n k
end Go.PV

/-
 Plain laws: orbits of lifts.
 Conditions: none.
-/
set_option linter.all false
namespace Go.PV
section
variable {n:Nat} {p:Nat->Pt} {x:Rt}
noncomputable def orbQ (n:Nat) (p:Nat->Pt) (x:Rt):Nat->Option Rt
 | 0=>some x
 | k+1=>(orbQ n p x k).bind fun y=>if near y=true then liftQ n p y else none
noncomputable def orb (n:Nat) (p:Nat->Pt) (x:Rt) (k:Nat):Rt:=(orbQ n p x k).getD (0,0)
open Classical in
noncomputable def runR (n:Nat) (p:Nat->Pt) (x:Rt) (m:Nat):List Rt×Bool:=if(orbQ n p x m).isSome=true then(tab (m+1) (orb n p x),true) else([],false)
end
def turnB (r:Rt):Bool:=near r&&decide (r.2<=6)
end Go.PV

/-
 Plain laws: orbits of lifts,handed back.
 Conditions: none.
-/
set_option linter.all false
namespace Go.PV
end Go.PV

/-
 Plain laws: how far a lift's points are moved.
 Conditions: none.
-/
set_option linter.all false
namespace Go.PV
def dispF (p:Nat->Pt) (i:Nat):Rt:=(subQ (p i).2 (p i).1).getD (0,0)
section
variable {n:Nat} {p:Nat->Pt}
end
end Go.PV

/-
 Plain laws: values of lifts keep their order.
 Conditions: none.
-/
set_option linter.all false
namespace Go.PV
theorem yps1 {a b:Rt} (ga:Int.gcd a.1 a.2=1) (gb:Int.gcd b.1 b.2=1) (pa:0<a.2) (pb:0<b.2) (h:a.1*b.2=b.1*a.2):a=b:=by
 obtain⟨p,q⟩:=a
 obtain⟨r,s⟩:=b
 simp only at *
 have hn:p.natAbs*s.natAbs=r.natAbs*q.natAbs:=by rw[← Int.natAbs_mul,← Int.natAbs_mul,h]
 have c1:Nat.Coprime p.natAbs q.natAbs:=ga
 have c2:Nat.Coprime r.natAbs s.natAbs:=gb
 have d1:s.natAbs∣q.natAbs:=by
  have:s.natAbs∣r.natAbs*q.natAbs:=⟨p.natAbs,by rw[← hn];exact Nat.mul_comm _ _⟩
  exact c2.symm.dvd_of_dvd_mul_left this
 have d2:q.natAbs∣s.natAbs:=by
  have:q.natAbs∣p.natAbs*s.natAbs:=⟨r.natAbs,by rw[hn];exact Nat.mul_comm _ _⟩
  exact c1.symm.dvd_of_dvd_mul_left this
 have hqs:q.natAbs=s.natAbs:=Nat.dvd_antisymm d2 d1
 have hq:q=s:=by omega
 subst hq
 have:p=r:=Int.eq_of_mul_eq_mul_right (by omega) h
 rw[this]
theorem ytz1 {a b:Rt} (ha:isRat a=true) (hb:isRat b=true) (h:val a=val b):a=b:=by
 have a2:=(isRat_iff.1 ha).1
 have b2:=(isRat_iff.1 hb).1
 have e1:=ypg (r:=a) (by omega)
 have e2:=ypg (r:=b) (by omega)
 refine ymp1 ha hb ?_
 have:((a.1*b.2:Int):Rat)=((b.1*a.2:Int):Rat):=by
  rw[Rat.intCast_mul,Rat.intCast_mul,← e1,← e2,h];grind
 exact_mod_cast this
theorem yuz1 {n d:Int} (hd:0<d) {r:Rt} (hr:isRat r=true) (h:n*r.2=r.1*d):lowQ n d=some r:=by
 obtain⟨r1,r2,r3,r4,r5⟩:=isRat_iff.1 hr
 have hdn:¬ d<0:=by omega
 have hg:0<Int.gcd n d:=Int.gcd_pos_of_ne_zero_right _ (by omega)
 have a:(Int.gcd n d:Int)∣n:=Int.gcd_dvd_left ..
 have b:(Int.gcd n d:Int)∣d:=Int.gcd_dvd_right ..
 have e1:=Int.tdiv_mul_cancel a
 have e2:=Int.tdiv_mul_cancel b
 have key:(Int.tdiv n (Int.gcd n d:Int),Int.tdiv d (Int.gcd n d:Int))=r:=by
  refine yps1 ?_ r5 ?_ (by omega) ?_
  ·show Int.gcd (Int.tdiv n (Int.gcd n d:Int)) (Int.tdiv d (Int.gcd n d:Int))=1
   obtain⟨u,hu⟩:=a;obtain⟨v,hv⟩:=b;have eu:Int.tdiv n (Int.gcd n d:Int)=n / (Int.gcd n d:Int):=Int.tdiv_eq_ediv_of_dvd (Int.gcd_dvd_left ..)
   have ev:Int.tdiv d (Int.gcd n d:Int)=d / (Int.gcd n d:Int):=Int.tdiv_eq_ediv_of_dvd (Int.gcd_dvd_right ..)
   rw[eu,ev];exact Int.gcd_ediv_gcd_ediv_gcd hg
  ·show 0<Int.tdiv d (Int.gcd n d:Int)
   refine Classical.byContradiction fun hno=>?_
   have h1:Int.tdiv d (Int.gcd n d:Int)<=0:=by omega
   have:=Int.mul_le_mul_of_nonneg_right h1 (show(0:Int)<=(Int.gcd n d:Int) by omega)
   omega
  show Int.tdiv n (Int.gcd n d:Int)*r.2=r.1*Int.tdiv d (Int.gcd n d:Int)
  refine Int.eq_of_mul_eq_mul_right (a:=(Int.gcd n d:Int)) (by omega) ?_
  have h3:Int.tdiv n (Int.gcd n d:Int)*r.2*(Int.gcd n d:Int)=(Int.tdiv n (Int.gcd n d:Int)*(Int.gcd n d:Int))*r.2:=by grind
  have h4:r.1*Int.tdiv d (Int.gcd n d:Int)*(Int.gcd n d:Int)=r.1*(Int.tdiv d (Int.gcd n d:Int)*(Int.gcd n d:Int)):=by grind
  rw[h3,h4,e1,e2,h]
 unfold lowQ lowest
 simp only[if_neg hdn]
 rw[key,if_pos hr]
 rfl
theorem yca1 {n d:Int} (hd:0<d) {r:Rt} (hr:isRat r=true) (h:val r*(d:Rat)=(n:Rat)):lowQ n d=some r:=by
 refine yuz1 hd hr ?_
 have e:=ypg (r:=r) (by have:=(isRat_iff.1 hr).1;omega)
 have:((n*r.2:Int):Rat)=((r.1*d:Int):Rat):=by
  rw[Rat.intCast_mul,Rat.intCast_mul,← h,← e];grind
 exact_mod_cast this
theorem yvz1 {a b r:Rt} (ha:isRat a=true) (hb:isRat b=true) (hr:isRat r=true) (h:val r=val a+val b):addQ a b=some r:=by
 have a2:=(isRat_iff.1 ha).1
 have b2:=(isRat_iff.1 hb).1
 have e1:=ypg (r:=a) (by omega)
 have e2:=ypg (r:=b) (by omega)
 refine yca1 (ybf1 ha hb) hr ?_
 rw[Rat.intCast_add,Rat.intCast_mul,Rat.intCast_mul,Rat.intCast_mul,← e1,← e2,h]
 grind
section
variable {n:Nat} {p:Nat->Pt}
theorem yyc {r:Rt} (h:isRat r=true):0<r.2:=by have:=(isRat_iff.1 h).1;omega
theorem Curve.xr (h:Curve n p) {i:Nat} (hi:i<n):isRat (p i).1=true:=yph (h.x i hi)
theorem Curve.yr (h:Curve n p) {i:Nat} (hi:i<n):isRat (p i).2=true:=(h.y i hi).1
theorem Curve.xlt (h:Curve n p):∀ {i j:Nat},i<j->j<n->val (p i).1<val (p j).1:=by
 intro i j hij hj
 obtain⟨k,rfl⟩:∃ k,j=i+1+k:=⟨j-(i+1),by omega⟩
 induction k with
 | zero =>
  have:=h.up (i+1) (by omega) hj
  rw[show i+1-1=i by omega] at this;exact(yce (yyc (h.xr (by omega))) (yyc (h.xr hj))).1 this
 | succ k ih =>
  have h1:=ih (by omega) (by omega)
  have:=h.up (i+1+(k+1)) (by omega) hj
  rw[show i+1+(k+1)-1=i+1+k by omega] at this;have h2:=(yce (yyc (h.xr (by omega))) (yyc (h.xr hj))).1 this
  grind
structure OnP (p:Nat->Pt) (m:Nat) (x y:Rt):Prop where
 lo:val (p m).1<=val x
 hi:val x<=val (p (m+1)).1
 eq:(val y-val (p m).2)*(val (p (m+1)).1-val (p m).1)=(val (p (m+1)).2-val (p m).2)*(val x-val (p m).1)
theorem ywb2 (h:Curve n p) {x y:Rt} (hx:isUnit x=true) {j:Nat} (hj:AtJ n p x j) (hy:atQ n p x=some y):j-1+1<n/\OnP p (j-1) x y:=by
 have hr:isRat x=true:=by simp only[isUnit,Bool.and_eq_true] at hx;exact hx.1
 have hlt:=hj.lt
 have hn:=h.lo
 have hj1:j-1+1<n:=by omega
 refine⟨hj1,?_⟩
 have hu:=(yqh hr).1 hx
 have f0:val (p 0).1=0:=by rw[h.fst];show((0:Int):Rat) / ((1:Int):Rat)=0;grind
 have lo:val (p (j-1)).1<=val x:=by
  by_cases h0:j=0
  ·subst h0;show val (p 0).1<=val x;rw[f0];exact hu.1
  have:=(yce (yyc (h.xr (show j-1<n by omega))) (yyc hr)).1 (hj.bef (j-1) (by omega))
  grind
 have hi:val x<=val (p (j-1+1)).1:=by
  have h1:=(yie (yyc (h.xr hlt)) (yyc hr)).1 hj.at'
  by_cases h0:j=0
  ·subst h0
   have:=h.xlt (i:=0) (j:=0-1+1) (by omega) hj1
   grind
  rw[show j-1+1=j by omega];exact h1
 refine⟨lo,hi,?_⟩
 rw[ysp1 hj] at hy
 obtain⟨u,v,hs⟩:=h.piece hj1
 unfold onQ at hy
 obtain⟨far,e1,hy⟩:=Option.bind_eq_some_iff.1 hy
 obtain⟨up,e2,hy⟩:=Option.bind_eq_some_iff.1 hy
 have v1:=yyu hr (h.xr (show j-1<n by omega)) e1
 have v2:=yvp1 hs.rs (yww e1) e2
 have v3:=yup1 (h.yr (show j-1<n by omega)) (ybg1 e2) hy
 have v4:=yyu (h.yr hj1) (h.yr (show j-1<n by omega)) hs.up
 have v5:=yyu (h.xr hj1) (h.xr (show j-1<n by omega)) hs.far
 have v6:=divQ_val hs.ru hs.rv hs.vp hs.div
 rw[v4,v5] at v6
 rw[v3,v2,v1,← v6]
 grind
end
end Go.PV

/-
 Plain laws: kneading words.
 Conditions: none.
-/
set_option linter.all false
namespace Go.PV
abbrev lcr:ByteArray:=ByteArray.mk #[76,67,82]
def letter (c z:Rt):Int:=76+(if cmp z c=0 then -9 else if cmp z c=1 then 6 else 0)
def wordB (c:Rt) (l:List Rt):ByteArray:=bytesB (l.map (letter c))
end Go.PV

/-
 Plain laws: lists of fractions in strictly increasing order.
 Conditions: none.
-/
set_option linter.all false
namespace Go.PV
def Rats (l:List Rt):Prop:=∀ x∈l,isRat x=true
def Srt (l:List Rt):Prop:=l.Pairwise fun a b=>less a b=true
theorem yxb2 {a b c:Rt} (ha:isRat a=true) (hb:isRat b=true) (hc:isRat c=true) (h1:less a b=true) (h2:less b c=true):less a c=true:=by
 have a1:=(yce (yyc ha) (yyc hb)).1 h1
 have a2:=(yce (yyc hb) (yyc hc)).1 h2
 exact(yce (yyc ha) (yyc hc)).2 (by grind)
theorem yqs1 {a:Rt}:less a a=false:=by simp[less]
theorem ydu1 {a b:Rt} (ha:isRat a=true) (hb:isRat b=true) (h1:less a b=true):less b a=false:=by
 have a1:=(yce (yyc ha) (yyc hb)).1 h1
 exact(yie (yyc hb) (yyc ha)).2 (by grind)
theorem ywi1:∀ {l k:List Rt},Srt l->Srt k->Rats l->Rats k->(∀ x,x∈l↔x∈k)->l=k
 | [],[],_,_,_,_,_=>rfl
 | [],b::k,_,_,_,_,h=>by have:=(h b).2 (by simp);simp at this
 | a::l,[],_,_,_,_,h=>by have:=(h a).1 (by simp);simp at this
 | a::l,b::k,h1,h2,r1,r2,h=>by
  have p1:=List.pairwise_cons.1 h1;have p2:=List.pairwise_cons.1 h2;have ra:=r1 a (by simp)
  have rb:=r2 b (by simp)
  have e:a=b:=by
   have hb:=(h b).2 (by simp)
   have ha:=(h a).1 (by simp)
   rcases List.mem_cons.1 hb with e | hb
   ·exact e.symm
   rcases List.mem_cons.1 ha with e | ha
   ·exact e
   have x1:=p1.1 b hb;have x2:=p2.1 a ha;rw[ydu1 ra rb x1] at x2;cases x2
  subst e;have:l=k:=ywi1 p1.2 p2.2 (fun x hx=>r1 x (by simp[hx])) (fun x hx=>r2 x (by simp[hx])) fun x=>by
   have:=h x
   simp only[List.mem_cons] at this;constructor
   ·intro hx
    rcases this.1 (.inr hx) with e | hk
    ·subst e;have:=p1.1 _ hx;rw[yqs1] at this;cases this
    exact hk
   intro hx;rcases this.2 (.inr hx) with e | hk
   ·subst e;have:=p2.1 _ hx;rw[yqs1] at this;cases this
   exact hk
  rw[this]
theorem Srt.get {l:List Rt} (h:Srt l) {i j:Nat} (hij:i<j) (hj:j<l.length):less (l[i]'(by omega)) (l[j]'hj)=true:=List.pairwise_iff_getElem.1 h i j (by omega) hj hij
theorem yfw1 {l:List Rt} {x:Rt} (hl:Rats l) (hx:isRat x=true) (hn:l.length<=1048576):Tot (loopO (ynp l x) 0) fun y=>∃ k:Nat,y=(k:Int)/\k<=l.length/\(∀ j (h:j<l.length),j<k->less l[j] x=true)/\∀ h:k<l.length,less l[k] x=false:=by
 refine Tot.loop (fun y=>∃ k:Nat,y=(k:Int)/\k<=l.length/\(∀ j (h:j<l.length),j<k->less l[j] x=true)) (fun y=>l.length-y.toNat) (fun y ⟨k,hy,hk,ha⟩=>?_) 0 ⟨0,rfl,by omega,fun j _ h=>by omega⟩
 subst hy
 unfold ynp
 by_cases hlt:k<l.length
 ·simp only[show((k:Int)<(l.length:Int)) from by omega,decide_true,if_true,ytf hlt,Option.bind_some,yuf _ _ (yye (hl _ (List.getElem_mem hlt))) (yye hx),yrb2]
  cases hc:less l[k] x with
  | true =>
   simp only[if_true];refine Tot.inl ⟨⟨k+1,yta (by omega),by omega,fun j hj hjk=>?_⟩,?_⟩
   ·rcases Nat.lt_or_ge j k with h | h
    ·exact ha j hj h
    have:j=k:=by omega
    subst this;exact hc
   rw[yta (show k<9223372036854775807 by omega)];show l.length-((k+1:Nat):Int).toNat<l.length-(k:Int).toNat;omega
  | false =>
   simp only[Bool.false_eq_true,if_false];exact Tot.inr ⟨k,rfl,hk,ha,fun _=>hc⟩
 simp only[show ¬ ((k:Int)<(l.length:Int)) from by omega,decide_false,Bool.false_eq_true,if_false,Option.bind_some]
 exact Tot.inr ⟨k,rfl,hk,ha,fun h=>absurd h hlt⟩
structure PutOk (l:List Rt) (x:Rt) (r:List Rt):Prop where
 srt:Srt r
 mem:∀ y,y∈r↔y=x\/y∈l
 len:r.length<=l.length+1
 new:x∉l->r.length=l.length+1
theorem PutOk.rats {l r:List Rt} {x:Rt} (h:PutOk l x r) (hl:Rats l) (hx:isRat x=true):Rats r:=fun y hy=>by
 rcases(h.mem y).1 hy with rfl | hy
 ·exact hx
 exact hl y hy
theorem yda1 {l:List Rt} {x:Rt} (hs:Srt l) (hl:Rats l) (hx:isRat x=true) (hn:l.length<=1048576):Tot (ydd l x) (PutOk l x):=by
 unfold ydd
 refine(yfw1 hl hx hn).bind fun y ⟨k,hy,hk,h1,h2⟩=>?_
 subst hy
 unfold ymp
 have main:(∀ h:k<l.length,l[k]≠x)->Tot ((guardO ((0:Int)<=(k:Int)/\(k:Int)<=(l.length:Int))).bind fun u5=>(guardO ((l.take (Int.toNat (k:Int))).length<=1099511627776)).bind fun u6=>(guardO ((l.take (Int.toNat (k:Int))).length+([x]).length<=1099511627776)).bind fun u7=>(guardO (((l.take (Int.toNat (k:Int)))++[x]).length+(l.drop (Int.toNat (k:Int))).length<=1099511627776)).bind fun u8=>some (((l.take (Int.toNat (k:Int)))++[x])++(l.drop (Int.toNat (k:Int))))) (PutOk l x):=by
  intro hne;rw[Int.toNat_natCast];refine Tot.guard (by omega) (Tot.guard (by simp;omega) (Tot.guard (by simp;omega) (Tot.guard (by simp;omega) (Tot.ret ?_))))
  have hb:∀ y∈l.drop k,less x y=true:=by
   intro y hy;obtain⟨i,hi,e⟩:=List.mem_iff_getElem.1 hy;rw[List.getElem_drop] at e;rw[List.length_drop] at hi;have hkl:k<l.length:=by omega
   have rk:=hl _ (List.getElem_mem hkl)
   have hkx:less x l[k]=true:=by
    have q:=h2 hkl;cases hh:less x l[k] with
    | true=>rfl
    | false=>exact absurd (ycu1 rk hx q hh) (hne hkl)
   subst e;rcases Nat.eq_zero_or_pos i with h | h
   ·subst h;exact hkx
   exact yxb2 hx rk (hl _ (List.getElem_mem _)) hkx (hs.get (by omega) (by omega))
  have ha:∀ y∈l.take k,less y x=true:=by
   intro y hy;obtain⟨i,hi,e⟩:=List.mem_iff_getElem.1 hy;rw[List.getElem_take] at e;rw[List.length_take] at hi;subst e;exact h1 i (by omega) (by omega)
  refine⟨?_,fun y=>?_,by simp;omega,fun _=>by simp;omega⟩
  ·have sd:Srt (l.drop k):=List.Pairwise.sublist (List.drop_sublist k l) hs
   have st:Srt (l.take k):=List.Pairwise.sublist (List.take_sublist k l) hs
   rw[List.append_assoc];refine List.pairwise_append.2 ⟨st,List.pairwise_append.2 ⟨List.pairwise_singleton _ _,sd,fun a h b hb'=>?_⟩,fun a h b hb'=>?_⟩
   ·rw[List.mem_singleton.1 h];exact hb b hb'
   rcases List.mem_append.1 hb' with h' | h'
   ·rw[List.mem_singleton.1 h'];exact ha a h
   exact yxb2 (hl a (List.mem_of_mem_take h)) hx (hl b (List.mem_of_mem_drop h')) (ha a h) (hb b h')
  have e:y∈l↔y∈l.take k\/y∈l.drop k:=by
   conv=>lhs;rw[← List.take_append_drop k l]
   exact List.mem_append
  rw[e];simp only[List.mem_append,List.mem_singleton];constructor
  ·rintro((h | h) | h)
   ·exact .inr (.inl h)
   ·exact .inl h
   exact .inr (.inr h)
  rintro(h | h | h)
  ·exact .inl (.inr h)
  ·exact .inl (.inl h)
  exact .inr h
 by_cases hlt:k<l.length
 ·simp only[show((k:Int)<(l.length:Int)) from by omega,decide_true,if_true,ytf hlt,Option.bind_some]
  by_cases he:l[k]=x
  ·rw[if_pos (by rw[he];simp)]
   exact Tot.ret ⟨hs,fun y=>⟨.inr,fun h=>by rcases h with rfl | h;exact he▸List.getElem_mem hlt;exact h⟩,by omega,fun h=>absurd (he▸List.getElem_mem hlt) h⟩
  rw[if_neg (by intro hh;simp only[Bool.and_eq_true,beq_iff_eq] at hh;exact he (Prod.ext hh.1 hh.2))]
  exact main fun _=>he
 simp only[show ¬ ((k:Int)<(l.length:Int)) from by omega,decide_false,Bool.false_eq_true,if_false,Option.bind_some]
 exact main fun h=>absurd h hlt
theorem yrs1 (x:Rt):okR x=isRat x:=by
 rw[Bool.eq_iff_iff]
 rw[isRat_iff]
 simp[okR]
theorem yok1 (x y:Rt):leR x y = !less y x:=rfl
abbrev RR:={ x:Rt // isRat x=true }
theorem yxl1 (l:List Rt) (x:Rt):x∈sortR l↔x∈l:=(List.mergeSort_perm l leR).mem_iff
theorem yss1 (l:List Rt):(sortR l).length=l.length:=List.length_mergeSort l
theorem yts1 (l:List Rt) (hl:Rats l):(sortR l).Pairwise fun a b=>less b a=false:=by
 let l':List RR:=l.attach.map fun x=>⟨x.1,hl x.1 x.2⟩
 have e:l'.map (·.1)=l:=by
  simp only[l',List.map_map,Function.comp_def];exact List.attach_map_subtype_val l
 let le':RR->RR->Bool:=fun a b=>leR a.1 b.1
 have hm:(l'.mergeSort le').map (·.1)=sortR l:=by
  rw[List.map_mergeSort (s:=leR) fun a _ b _=>rfl,e];rfl
 have hp:(l'.mergeSort le').Pairwise fun a b=>le' a b=true:=by
  refine List.pairwise_mergeSort (fun a b c h1 h2=>?_) (fun a b=>?_) l'
  ·simp only[le',yok1,Bool.not_eq_true'] at h1 h2 ⊢
   exact ysc2 a.2 b.2 c.2 h1 h2
  simp only[le',yok1];cases h:less b.1 a.1 with
  | false=>rfl
  | true=>rw[ydu1 b.2 a.2 h];rfl
 rw[← hm]
 refine List.pairwise_map.2 (hp.imp fun {a b} h=>?_)
 simpa [le',yok1] using h
theorem ywz1 {d:Nat->Rt}:∀ (m:Nat),(∀ i,i<m->isRat (d i)=true)->(∀ i j,i<j->j<m->less (d j) (d i)=false) ->
  Srt (cpF d m)/\(∀ y,y∈cpF d m↔∃ i,i<m/\d i=y)/\(cpF d m).length<=m
 | 0,_,_=>⟨List.Pairwise.nil,fun y=>by simp[cpF],by simp[cpF]⟩
 | m+1,hr,hd=>by
  obtain⟨h1,h2,h3⟩:=ywz1 (d:=d) m (fun i h=>hr i (by omega)) (fun i j h h'=>hd i j h (by omega))
  simp only[cpF];by_cases hc:1<=m/\d m=d (m-1)
  ·rw[if_pos hc]
   refine⟨h1,fun y=>?_,by omega⟩
   rw[h2];constructor
   ·rintro⟨i,hi,e⟩;exact⟨i,by omega,e⟩
   rintro⟨i,hi,e⟩
   rcases Nat.lt_or_ge i m with h | h
   ·exact⟨i,h,e⟩
   have:i=m:=by omega
   subst this;exact⟨i-1,by omega,by rw[← hc.2];exact e⟩
  rw[if_neg hc];refine⟨List.pairwise_append.2 ⟨h1,List.pairwise_singleton _ _,fun a ha b hb=>?_⟩,fun y=>?_,by simp;omega⟩
  ·rw[List.mem_singleton.1 hb]
   obtain⟨i,hi,e⟩:=(h2 a).1 ha
   subst e;have r0:=hr i (by omega)
   have r1:=hr (m-1) (by omega)
   have r2:=hr m (by omega)
   have q:less (d (m-1)) (d m)=true:=by
    cases hh:less (d (m-1)) (d m) with
    | true=>rfl
    | false=>exact absurd ⟨by omega,ycu1 r2 r1 (hd (m-1) m (by omega) (by omega)) hh⟩ hc
   rcases Nat.lt_or_ge i (m-1) with h | h
   ·have:=hd i (m-1) h (by omega)
    have a1:=(yie (yyc r1) (yyc r0)).1 this
    have a2:=(yce (yyc r1) (yyc r2)).1 q
    exact(yce (yyc r0) (yyc r2)).2 (by grind)
   have:i=m-1:=by omega
   subst this;exact q
  rw[List.mem_append,h2,List.mem_singleton];constructor
  ·rintro(⟨i,hi,e⟩ | e)
   ·exact⟨i,by omega,e⟩
   exact⟨m,by omega,e.symm⟩
  rintro⟨i,hi,e⟩
  rcases Nat.lt_or_ge i m with h | h
  ·exact .inl ⟨i,h,e⟩
  have:i=m:=by omega
  subst this;exact .inr e.symm
theorem yyl1 {l:List Rt} (hl:Rats l) (hn:l.length<=1048576):Tot (ykm l) fun r=>Srt r/\(∀ y,y∈r↔y∈l)/\r.length<=l.length:=by
 unfold ykm ymc yoc
 rw[yea ⟨hn,fun x hx=>by rw[yrs1];exact hl x hx⟩]
 refine Tot.ret ?_
 have hs:=yts1 l hl
 have hr:Rats (sortR l):=fun x hx=>hl x ((yxl1 l x).1 hx)
 have hlen:=yss1 l
 have hg:∀ i (h:i<(sortR l).length),(sortR l).getD i (0,0)=(sortR l)[i]:=fun i h=>by rw[List.getD_eq_getElem?_getD,List.getElem?_eq_getElem h];rfl
 obtain⟨h1,h2,h3⟩:=ywz1 (d:=fun i=>(sortR l).getD i (0,0)) (sortR l).length (fun i hi=>by show isRat ((sortR l).getD i (0,0))=true;rw[hg i hi];exact hr _ (List.getElem_mem hi)) (fun i j hij hj=>by
  show less ((sortR l).getD j (0,0)) ((sortR l).getD i (0,0))=false
  rw[hg i (by omega),hg j hj];exact List.pairwise_iff_getElem.1 hs i j (by omega) hj hij)
 refine⟨h1,fun y=>?_,by show(cpF _ _).length<=_;omega⟩
 show y∈cpF _ _↔_
 rw[h2,← yxl1,List.mem_iff_getElem]
 constructor
 ·rintro⟨i,hi,e⟩;exact⟨i,hi,by rw[← hg i hi];exact e⟩
 rintro⟨i,hi,e⟩;exact⟨i,hi,by show(sortR l).getD i (0,0)=y;rw[hg i hi];exact e⟩
end Go.PV

/-
 Plain laws: images,coverings,graphs of coverings,on both sides.
 Conditions: none.
-/
set_option linter.all false
namespace Go.PV
theorem ykg (xs:List Pt) (f:Pt->Option Bool) (p:Pt->Bool) (hf:∀ x,f x=some (p x)) (hl:xs.length<=4611686018427387904) :
  yya xs f=some (match xs.findIdx? p with | some i=>(i:Int) | none => -1):=by
 have h:=yvm (xs:=xs) (body:=yqa xs f) p (fun i=>(i:Int)) (fun i=>.inl (i:Int)) (.inr ()) (fun i x hx=>by
  have hi:=getElem?_lt hx
  simp only[yqa,ydj,hx,hf,Option.bind_some,yta (show i<9223372036854775807 by omega),show((i:Int)<(xs.length:Int)) from by omega,decide_true,if_true]
  cases p x <;> rfl) (by simp[yqa])
 unfold yya
 rw[show(0:Int)=((0:Nat):Int) from rfl,h]
 cases xs.findIdx? p <;> rfl
theorem yxe (xs:List Pt) (f:Pt->Option Bool) (p:Pt->Bool) (hf:∀ x,f x=some (p x)) (hl:xs.length<=4611686018427387904):yra xs f=some (xs.any p):=by
 simp only[yra,ykg xs f p hf hl,Option.bind_some]
 cases h:xs.findIdx? p with
 | none =>
  have hn:=List.findIdx?_eq_none_iff.1 h
  have:xs.any p=false:=by simpa using hn
  simp[this]
 | some m =>
  obtain⟨hm,hp,_⟩:=List.findIdx?_eq_some_iff_getElem.1 h
  have:xs.any p=true:=List.any_eq_true.2 ⟨xs[m],List.getElem_mem hm,hp⟩
  simp[this]
def tkR (s:Rt×Rt) (y:Rt):Rt×Rt:=(if less y s.1=true then y else s.1,if less s.2 y=true then y else s.2)
theorem yzl1 {s:Rt×Rt} {y:Rt} (h1:isRat s.1=true) (h2:isRat s.2=true) (hy:isRat y=true):isRat (tkR s y).1=true/\isRat (tkR s y).2=true:=by
 unfold tkR
 constructor
 ·dsimp only;split
  ·exact hy
  exact h1
 dsimp only;split
 ·exact hy
 exact h2
theorem ywc1 {y lo hi:Rt} (hy:isRat y=true) (h1:isRat lo=true) (h2:isRat hi=true):yif y lo hi=some (tkR (lo,hi) y):=by
 unfold yif ywv yrt tkR
 rw[yre y lo (yye hy) (yye h1),yre hi y (yye h2) (yye hy)]
 cases less y lo <;> cases less hi y <;> rfl
section
variable {n:Nat} {p:Nat->Pt}
def ysB (p:Nat->Pt) (a b:Rt):Nat->List Rt
 | 0=>[]
 | m+1=>if(less a (p m).1&&less (p m).1 b)=true then ysB p a b m++[(p m).2] else ysB p a b m
theorem yxi1 (h:Curve n p) (a b:Rt):∀ m,m<=n->∀ y∈ysB p a b m,isRat y=true
 | 0,_,y,hy=>by cases hy
 | m+1,hm,y,hy=>by
  unfold ysB at hy;split at hy
  ·rcases List.mem_append.1 hy with hy | hy
   ·exact yxi1 h a b m (by omega) y hy
   obtain rfl:=List.mem_singleton.1 hy
   exact h.yr (by omega)
  exact yxi1 h a b m (by omega) y hy
theorem ypk1:∀ (l:List Rt) (s:Rt×Rt),isRat s.1=true->isRat s.2=true->(∀ y∈l,isRat y=true)->isRat (l.foldl tkR s).1=true/\isRat (l.foldl tkR s).2=true
 | [],s,h1,h2,_=>⟨h1,h2⟩
 | y::l,s,h1,h2,h3=>by
  have:=yzl1 h1 h2 (h3 y (by simp))
  exact ypk1 l (tkR s y) this.1 this.2 fun z hz=>h3 z (by simp[hz])
theorem yke1 (h:Curve n p) {a b:Rt} (ha:isRat a=true) (hb:isRat b=true) (s:Rt×Rt) (h1:isRat s.1=true) (h2:isRat s.2=true) :
  loopO (yoe (tab n p) a b) (s.1.1,s.1.2,s.2.1,s.2.2,0)=some (((ysB p a b n).foldl tkR s).1.1,((ysB p a b n).foldl tkR s).1.2,((ysB p a b n).foldl tkR s).2.1,((ysB p a b n).foldl tkR s).2.2):=by
 have hn:=h.hi
 have hr:∀ i,i<=n->isRat ((ysB p a b i).foldl tkR s).1=true/\isRat ((ysB p a b i).foldl tkR s).2=true:=fun i hi=>ypk1 _ _ h1 h2 (yxi1 h a b i hi)
 have hx:=ydc (body:=yoe (tab n p) a b) n (fun i=>(((ysB p a b i).foldl tkR s).1.1,((ysB p a b i).foldl tkR s).1.2,((ysB p a b i).foldl tkR s).2.1,((ysB p a b i).foldl tkR s).2.2,(i:Int))) (((ysB p a b n).foldl tkR s).1.1,((ysB p a b n).foldl tkR s).1.2,((ysB p a b n).foldl tkR s).2.1,((ysB p a b n).foldl tkR s).2.2) (fun i hi=>by
  have tx:=yye (h.xr hi)
  simp only[yoe,yab,show((i:Int)<(n:Int)) from by omega,decide_true,if_true,yua hi,Option.bind_some,yre a _ (yye ha) tx,yre _ b tx (yye hb),yta (show i<9223372036854775807 by omega)]
  cases g1:less a (p i).1
  ·simp only[Bool.false_eq_true,if_false,Option.bind_some,ysB,g1,Bool.false_and]
  cases g2:less (p i).1 b
  ·simp only[if_true,Bool.false_eq_true,if_false,Option.bind_some,ysB,g1,g2,Bool.and_false]
  simp only[if_true,Option.bind_some,ysB,g1,g2,Bool.and_self,List.foldl_append,List.foldl_cons,List.foldl_nil];have:=hr i (by omega)
  rw[show(((ysB p a b i).foldl tkR s).1.1,((ysB p a b i).foldl tkR s).1.2)=((ysB p a b i).foldl tkR s).1 from rfl,show(((ysB p a b i).foldl tkR s).2.1,((ysB p a b i).foldl tkR s).2.2)=((ysB p a b i).foldl tkR s).2 from rfl,ywc1 (h.yr hi) this.1 this.2]
  rfl) (by simp only[yoe,yab,Int.lt_irrefl,decide_false,Bool.false_eq_true,if_false])
 exact hx
def imR (n:Nat) (p:Nat->Pt) (a b y z:Rt):Rt×Rt:=(z::ysB p a b n).foldl tkR (y,y)
theorem yeu1 (h:Curve n p) {a b y z:Rt} (hy:isRat y=true) (hz:isRat z=true):isRat (imR n p a b y z).1=true/\isRat (imR n p a b y z).2=true :=
 ypk1 _ _ hy hy fun x hx=>by
  rcases List.mem_cons.1 hx with rfl | hx
  ·exact hz
  exact yxi1 h a b n (Nat.le_refl _) x hx
theorem yyi1 (h:Curve n p) {a b:Rt} (ha:isUnit a=true) (hb:isUnit b=true) (bad:Bool):∃ v,ywk bad (tab n p) a b=some v/\isRat v.1=true/\isRat v.2.1=true /\
    (match atQ n p a,atQ n p b with
     | some y,some z=>v=((imR n p a b y z).1,(imR n p a b y z).2,bad)
     | _,_=>v.2.2=true)/\(bad=true->v.2.2=true):=by
  obtain⟨v1,e1,c1⟩:=yvl1 h ha bad;obtain⟨v2,e2,c2⟩:=yvl1 h hb v1.2;have ra:isRat a=true:=by simp only[isUnit,Bool.and_eq_true] at ha;exact ha.1
  have rb:isRat b=true:=by simp only[isUnit,Bool.and_eq_true] at hb;exact hb.1
  have hr:=yeu1 h (a:=a) (b:=b) c1.1 c2.1
  refine⟨((imR n p a b v1.1 v2.1).1,(imR n p a b v1.1 v2.1).2,v2.2),?_,hr.1,hr.2,?_,fun hbad=>?_⟩
  · unfold ywk
    rw[e1,Option.bind_some,e2,Option.bind_some,ywc1 c2.1 c1.1 c1.1,Option.bind_some];have:=yzl1 (s:=(v1.1,v1.1)) c1.1 c1.1 c2.1
    rw[yke1 h ra rb _ this.1 this.2,Option.bind_some];rfl
  · obtain⟨_,c1⟩:=c1
    obtain⟨_,c2⟩:=c2;cases h1:atQ n p a with
    | none =>
      rw[h1] at c1;have h3:v1.2=true:=c1
      cases h2:atQ n p b with
      | none=>rw[h2] at c2;exact c2
      | some z=>rw[h2] at c2;have c2:v2=(z,v1.2):=c2;show v2.2=true;rw[c2];exact h3
    | some y =>
      rw[h1] at c1;have c1:v1=(y,bad):=c1
      cases h2:atQ n p b with
      | none=>rw[h2] at c2;exact c2
      | some z=>rw[h2] at c2;have c2:v2=(z,v1.2):=c2;rw[c2,c1]
  · subst hbad
    have b1:=ybw1 c1;rw[b1] at c2;have c3:v2.2=true:=ybw1 c2
    exact c3
abbrev Iv:=Rt×Rt
def isIv (i:Iv):Bool:=isUnit i.1&&isUnit i.2&&less i.1 i.2
noncomputable def okI (n:Nat) (p:Nat->Pt) (i:Iv):Bool:=(atQ n p i.1).isSome&&(atQ n p i.2).isSome
noncomputable def covI (n:Nat) (p:Nat->Pt) (i k:Iv):Bool:=match atQ n p i.1,atQ n p i.2 with
 | some y,some z=> !less k.1 (imR n p i.1 i.2 y z).1 && !less (imR n p i.1 i.2 y z).2 k.2
 | _,_=>false
theorem yzi1 {i:Iv} (h:isIv i=true):isUnit i.1=true/\isUnit i.2=true/\isRat i.1=true/\isRat i.2=true:=by
 simp only[isIv,Bool.and_eq_true] at h
 have h1:=h.1.1
 have h2:=h.1.2
 refine⟨h1,h2,?_,?_⟩
 ·simp only[isUnit,Bool.and_eq_true] at h1;exact h1.1
 simp only[isUnit,Bool.and_eq_true] at h2;exact h2.1
theorem yjy (h:Curve n p) {i k:Iv} (hi:isIv i=true) (hk:isIv k=true) (bad:Bool):∃ v,yxg bad (tab n p) i k=some v/\(okI n p i=true->v=(covI n p i k,bad))/\(okI n p i=false->v.2=true)/\(bad=true->v.2=true):=by
 obtain⟨u1,u2,r1,r2⟩:=yzi1 hi
 obtain⟨_,_,k1,k2⟩:=yzi1 hk
 obtain⟨v,e,c1,c2,c3,c4⟩:=yyi1 h u1 u2 bad
 refine⟨(!less k.1 v.1 && !less v.2.1 k.2,v.2.2),?_,fun ho=>?_,fun ho=>?_,c4⟩
 ·unfold yxg
  rw[e];simp only[Option.bind_some,yre k.1 v.1 (yye k1) (yye c1),yre v.2.1 k.2 (yye c2) (yye k2)];cases less k.1 v.1 <;> rfl
 ·unfold okI at ho
  unfold covI;cases h1:atQ n p i.1 with
  | none=>rw[h1] at ho;cases ho
  | some y =>
   cases h2:atQ n p i.2 with
   | none=>rw[h1,h2] at ho;cases ho
   | some z =>
    rw[h1,h2] at c3;have c3:v=((imR n p i.1 i.2 y z).1,(imR n p i.1 i.2 y z).2,bad):=c3
    rw[c3]
 unfold okI at ho
 cases h1:atQ n p i.1 with
 | none=>rw[h1] at c3;exact c3
 | some y =>
  cases h2:atQ n p i.2 with
  | none=>rw[h1,h2] at c3;exact c3
  | some z=>rw[h1,h2] at ho;cases ho
end
end Go.PV

/-
 Plain laws: graphs of coverings on both sides.
 Conditions: none.
-/
set_option linter.all false
namespace Go.PV
theorem ylk (xs:List Rt) (f:Rt->Option Bool) (p:Rt->Bool) (hf:∀ x,f x=some (p x)) (hl:xs.length<=4611686018427387904) :
  yva xs f=some (match xs.findIdx? p with | some i=>(i:Int) | none => -1):=by
 have h:=yvm (xs:=xs) (body:=yza xs f) p (fun i=>(i:Int)) (fun i=>.inl (i:Int)) (.inr ()) (fun i x hx=>by
  have hi:=getElem?_lt hx
  simp only[yza,ydj,hx,hf,Option.bind_some,yta (show i<9223372036854775807 by omega),show((i:Int)<(xs.length:Int)) from by omega,decide_true,if_true]
  cases p x <;> rfl) (by simp[yza])
 unfold yva
 rw[show(0:Int)=((0:Nat):Int) from rfl,h]
 cases xs.findIdx? p <;> rfl
theorem ync (xs:List Rt) (f:Rt->Option Bool) (p:Rt->Bool) (hf:∀ x,f x=some (p x)) (hl:xs.length<=4611686018427387904):yma xs f=some (xs.any p):=by
 simp only[yma,ylk xs f p hf hl,Option.bind_some]
 cases h:xs.findIdx? p with
 | none =>
  have hn:=List.findIdx?_eq_none_iff.1 h
  have:xs.any p=false:=by simpa using hn
  simp[this]
 | some m =>
  obtain⟨hm,hp,_⟩:=List.findIdx?_eq_some_iff_getElem.1 h
  have:xs.any p=true:=List.any_eq_true.2 ⟨xs[m],List.getElem_mem hm,hp⟩
  simp[this]
theorem yea1 (i:Iv):yxk i=some (isIv i):=by
 unfold yxk yoj isIv
 rw[ync [i.1,i.2] (fun x0=>yog x0) (fun x=> !isUnit x) (fun x=>by simp[yog,ywm]) (by simp)]
 simp only[List.any_cons,List.any_nil,Bool.or_false,Option.bind_some,Bool.not_or,Bool.not_not]
 cases h1:isUnit i.1
 ·simp
 cases h2:isUnit i.2
 ·simp
 have r1:isRat i.1=true:=by simp only[isUnit,Bool.and_eq_true] at h1;exact h1.1
 have r2:isRat i.2=true:=by simp only[isUnit,Bool.and_eq_true] at h2;exact h2.1
 simp only[Bool.and_self,if_true,yre i.1 i.2 (yye r1) (yye r2),Option.bind_some,Bool.true_and]
def areIv (l:List Iv):Bool:=inB 1 8 l.length&&l.all isIv
theorem yxw (l:List Iv) (hl:l.length<=4611686018427387904):yjf l=some (areIv l):=by
 unfold yjf areIv
 rw[yxc,Option.bind_some]
 cases inB 1 8 (l.length:Int)
 ·rfl
 have hc:=yxe l (fun x0=>yag x0) (fun x=> !isIv x) (fun x=>by simp[yag,yea1]) hl
 simp only[if_true,hc,Option.bind_some,List.any_eq_not_all_not,Bool.not_not,Bool.true_and]
section
variable {n m:Nat} {p:Nat->Pt} {q:Nat->Iv}
def allOk (n:Nat) (p:Nat->Pt) (m:Nat) (q:Nat->Iv):Prop:=∀ a,a<m->okI n p (q a)=true
noncomputable def cvM (n:Nat) (p:Nat->Pt) (q:Nat->Iv) (a b:Nat):Int:=if covI n p (q a) (q b)=true then 1 else 0
theorem yhg1 (h:Curve n p) (hm:m<=8) (hq:∀ a,a<m->isIv (q a)=true) {i:Nat} (hi:i<m) (X:Bool×List (List Int)) (b0:Bool) (F:Nat->Nat->Int) (hF:∀ c,F i c=0) :
  ∃ b F',loopO (yvb (tab n p) (tab m q) (X.1,X.2,(i:Int)) (q i)) (b0,mat m m F,0)=some (b,mat m m F')/\((b0=true\/okI n p (q i)=false)->b=true)/\((b0=false/\okI n p (q i)=true)->b=false/\∀ a c,F' a c=if a=i/\c<m then cvM n p q i c else F a c):=by
 obtain⟨y,e1,b,F',rfl,e2,e3⟩:=yao (body:=yvb (tab n p) (tab m q) (X.1,X.2,(i:Int)) (q i))
  (fun x=>∃ (j:Nat) (b:Bool) (F':Nat->Nat->Int),x=(b,mat m m F',(j:Int))/\j<=m/\((b0=true\/(okI n p (q i)=false/\0<j))->b=true)/\((b0=false/\okI n p (q i)=true)->b=false/\∀ a c,F' a c=if a=i/\c<j then cvM n p q i c else F a c))
  (fun x=>m-x.2.2.toNat) (fun y=>∃ (b:Bool) (F':Nat->Nat->Int),y=(b,mat m m F')/\((b0=true\/okI n p (q i)=false)->b=true)/\((b0=false/\okI n p (q i)=true)->b=false/\∀ a c,F' a c=if a=i/\c<m then cvM n p q i c else F a c)) (fun x ⟨j,b,F',e,hj,g1,g2⟩=>by
  subst e;by_cases hlt:j<m
  ·left
   obtain⟨v,c1,c2,c3,c4⟩:=yjy h (hq i hi) (hq j hlt) b
   have hb:(b0=true\/(okI n p (q i)=false/\0<j+1))->v.2=true:=fun hh=>by
    rcases hh with hh | ⟨hh,_⟩
    ·exact c4 (g1 (.inl hh))
    exact c3 hh
   simp only[yvb,yab,show((j:Int)<(m:Int)) from by omega,decide_true,if_true,yua hlt,Option.bind_some,c1,yjs hi,yta (show j<9223372036854775807 by omega),Int.toNat_natCast]
   cases hv:v.1
   ·refine⟨(v.2,mat m m F',((j+1:Nat):Int)),by simp only[Bool.false_eq_true,if_false],⟨j+1,v.2,F',rfl,by omega,hb,fun hh=>?_⟩,by simp only[Int.toNat_natCast];omega⟩
    obtain⟨f1,f2⟩:=g2 hh;have c5:=c2 hh.2;have f3:covI n p (q i) (q j)=false:=by rw[c5] at hv;exact hv
    refine⟨by rw[c5];exact f1,fun a c=>?_⟩
    rw[f2];by_cases ha:a=i
    ·subst ha
     by_cases hc:c=j
     ·subst hc
      have hcv:cvM n p q a c=0:=by unfold cvM;rw[f3];rfl
      simp[hF,hcv]
     by_cases hc2:c<j
     ·simp[hc2,show c<j+1 by omega]
     simp[hc2,show ¬ c<j+1 by omega]
    simp[ha]
   refine⟨(v.2,mat m m (fun a c=>if a=i/\c=j then 1 else F' a c),((j+1:Nat):Int)),by simp only[if_true,yzt1 hi hlt],⟨j+1,v.2,_,rfl,by omega,hb,fun hh=>?_⟩,by simp only[Int.toNat_natCast];omega⟩
   obtain⟨f1,f2⟩:=g2 hh;have c5:=c2 hh.2;have f3:covI n p (q i) (q j)=true:=by rw[c5] at hv;exact hv
   refine⟨by rw[c5];exact f1,fun a c=>?_⟩
   rw[f2];by_cases ha:a=i
   ·subst ha
    by_cases hc:c=j
    ·subst hc
     have hcv:cvM n p q a c=1:=by unfold cvM;rw[f3];rfl
     simp[hcv]
    by_cases hc2:c<j
    ·simp[hc,hc2,show c<j+1 by omega]
    simp[hc,hc2,show ¬ c<j+1 by omega]
   simp[ha]
  right
  have:j=m:=by omega
  subst this;exact⟨(b,mat j j F'),by simp only[yvb,yab,Int.lt_irrefl,decide_false,Bool.false_eq_true,if_false],b,F',rfl,fun hh=>g1 (by
   rcases hh with hh | hh
   ·exact .inl hh
   ·exact .inr ⟨hh,by omega⟩),g2⟩) (b0,mat m m F,0) ⟨0,b0,F,rfl,by omega,fun hh=>by
   rcases hh with hh | ⟨_,hh⟩
   ·exact hh
   omega,fun hh=>⟨hh.1,fun a c=>by simp⟩⟩
 exact⟨b,F',e1,e2,e3⟩
theorem yus1 (h:Curve n p) (hm:m<=8) (hq:∀ a,a<m->isIv (q a)=true) {i:Nat} (hi:i<m) (F:Nat->Nat->Int):∃ b' F3,loopO (yvb (tab n p) (tab m q) (true,mat m m F,(i:Int)) (q i)) (true,mat m m F,0)=some (b',mat m m F3)/\((true=true\/okI n p (q i)=false)->b'=true)/\((true=false/\okI n p (q i)=true)->b'=false/\∀ a c,F3 a c=0):=by
 obtain⟨y,e1,F',rfl⟩:=yao (body:=yvb (tab n p) (tab m q) (true,mat m m F,(i:Int)) (q i))
  (fun x=>∃ (j:Nat) (F':Nat->Nat->Int),x=(true,mat m m F',(j:Int))/\j<=m) (fun x=>m-x.2.2.toNat) (fun y=>∃ F':Nat->Nat->Int,y=(true,mat m m F')) (fun x ⟨j,F',e,hj⟩=>by
  subst e;by_cases hlt:j<m
  ·left
   obtain⟨v,c1,c2,c3,c4⟩:=yjy h (hq i hi) (hq j hlt) true
   simp only[yvb,yab,show((j:Int)<(m:Int)) from by omega,decide_true,if_true,yua hlt,Option.bind_some,c1,yjs hi,yta (show j<9223372036854775807 by omega),Int.toNat_natCast,c4 rfl]
   cases hv:v.1
   ·exact⟨(true,mat m m F',((j+1:Nat):Int)),by simp only[Bool.false_eq_true,if_false],⟨j+1,F',rfl,by omega⟩,by simp only[Int.toNat_natCast];omega⟩
   exact⟨(true,mat m m (fun a c=>if a=i/\c=j then 1 else F' a c),((j+1:Nat):Int)),by simp only[if_true,yzt1 hi hlt],⟨j+1,_,rfl,by omega⟩,by simp only[Int.toNat_natCast];omega⟩
  right
  have:j=m:=by omega
  subst this;exact⟨(true,mat j j F'),by simp only[yvb,yab,Int.lt_irrefl,decide_false,Bool.false_eq_true,if_false],F',rfl⟩) (true,mat m m F,0) ⟨0,F,rfl,by omega⟩
 exact⟨true,F',e1,fun _=>rfl,fun hh=>by cases hh.1⟩
theorem yxc1 (h:Curve n p) (hm:m<=8) (hq:∀ a,a<m->isIv (q a)=true) :
  ∃ b F',loopO (ype (tab n p) (tab m q)) (false,mat m m (fun _ _=>0),0)=some (b,mat m m F')/\(¬ allOk n p m q->b=true)/\(allOk n p m q->b=false/\∀ a c,a<m->c<m->F' a c=cvM n p q a c):=by
 obtain⟨y,e1,b,F',rfl,e2,e3⟩:=yao (body:=ype (tab n p) (tab m q))
  (fun x=>∃ (i:Nat) (b:Bool) (F':Nat->Nat->Int),x=(b,mat m m F',(i:Int))/\i<=m/\((∃ a,a<i/\okI n p (q a)=false)->b=true)/\((∀ a,a<i->okI n p (q a)=true)->b=false/\∀ a c,c<m->F' a c=if a<i then cvM n p q a c else 0)/\∀ a c,i<=a->F' a c=0\/b=true)
  (fun x=>m-x.2.2.toNat) (fun y=>∃ (b:Bool) (F':Nat->Nat->Int),y=(b,mat m m F')/\(¬ allOk n p m q->b=true)/\(allOk n p m q->b=false/\∀ a c,a<m->c<m->F' a c=cvM n p q a c)) (fun x ⟨i,b,F',e,hi,g1,g2,g3⟩=>by
  subst e;by_cases hlt:i<m
  ·left
   -- the row may be thought empty
   have hrow:∃ F2:Nat->Nat->Int,mat m m F'=mat m m F2/\(b=false->∀ a c,F2 a c=if c<m then F' a c else 0)/\(b=false->∀ c,F2 i c=0):=by
    refine⟨fun a c=>if c<m then F' a c else 0,yqu fun a c _ hc=>by simp[hc],fun _ _ _=>rfl,fun hb c=>?_⟩
    have:=g3 i c (Nat.le_refl i)
    rw[hb] at this;rcases this with this | this
    ·simp[this]
    cases this
   obtain⟨F2,k1,k2,k3⟩:=hrow;have step:∃ b' F3,loopO (yvb (tab n p) (tab m q) (b,mat m m F',(i:Int)) (q i)) (b,mat m m F',0)=some (b',mat m m F3)/\((b=true\/okI n p (q i)=false)->b'=true)/\((b=false/\okI n p (q i)=true)->b'=false/\∀ a c,F3 a c=if a=i/\c<m then cvM n p q i c else F2 a c):=by
    cases hb:b
    ·have:=yhg1 h hm hq hlt (b,mat m m F') false F2 (k3 hb)
     rw[k1] at this ⊢
     rw[hb] at this;exact this
    obtain⟨b',F3,t1,t2,t3⟩:=yus1 h hm hq hlt F'
    exact⟨b',F3,t1,t2,fun hh=>by cases hh.1⟩
   obtain⟨b',F3,s1,s2,s3⟩:=step;refine⟨(b',mat m m F3,((i+1:Nat):Int)),by simp only[ype,yab,show((i:Int)<(m:Int)) from by omega,decide_true,if_true,yua hlt,Option.bind_some,s1,yfk,yta (show i<9223372036854775807 by omega)],⟨i+1,b',F3,rfl,by omega,fun ⟨a,ha,hb⟩=>?_,fun hall=>?_,fun a c ha=>?_⟩,by simp only[Int.toNat_natCast];omega⟩
   ·by_cases hai:a=i
    ·subst hai;exact s2 (.inr hb)
    exact s2 (.inl (g1 ⟨a,by omega,hb⟩))
   ·obtain⟨f1,f2⟩:=g2 fun a ha=>hall a (by omega)
    obtain⟨f3,f4⟩:=s3 ⟨f1,hall i (by omega)⟩
    refine⟨f3,fun a c hc=>?_⟩
    rw[f4,k2 f1,f2 a c hc];by_cases hai:a=i
    ·subst hai;simp[hc]
    by_cases h2:a<i
    ·simp[hai,hc,h2,show a<i+1 by omega]
    simp[hai,hc,h2,show ¬ a<i+1 by omega]
   cases hb:b'
   ·left
    have hbf:b=false:=by
     cases hbb:b
     ·rfl
     rw[s2 (.inl hbb)] at hb;cases hb
    have hok:okI n p (q i)=true:=by
     cases hbb:okI n p (q i)
     ·rw[s2 (.inr hbb)] at hb;cases hb
     rfl
    rw[(s3 ⟨hbf,hok⟩).2,if_neg (by omega),k2 hbf];split
    ·rcases g3 a c (by omega) with h1 | h1
     ·exact h1
     rw[hbf] at h1;cases h1
    rfl
   exact .inr rfl
  right
  have:i=m:=by omega
  subst this;refine⟨(b,mat i i F'),by simp only[ype,yab,Int.lt_irrefl,decide_false,Bool.false_eq_true,if_false],b,F',rfl,fun hno=>g1 ?_,fun hall=>?_⟩
  ·exact Classical.byContradiction fun hne=>hno fun a ha=>by
    cases hh:okI n p (q a)
    ·exact absurd ⟨a,ha,hh⟩ hne
    rfl
  obtain⟨f1,f2⟩:=g2 hall;exact⟨f1,fun a c ha hc=>by rw[f2 a c hc,if_pos ha]⟩) (false,mat m m (fun _ _=>0),0) ⟨0,false,fun _ _=>0,rfl,by omega,fun ⟨a,ha,_⟩=>by omega,fun _=>⟨rfl,fun a c _=>by simp⟩,fun a c _=>.inl rfl⟩
 exact⟨b,F',e1,e2,e3⟩
end
end Go.PV

/-
 Plain laws: sums,powers of tables of numbers,traces.
 Conditions: none.
-/
set_option linter.all false
namespace Go.PV
def sm (n:Nat) (f:Nat->Int):Int:=foldN n (fun s i=>s+f i) 0
def pw (n:Nat) (A:Nat->Nat->Int):Nat->Nat->Nat->Int
 | 0=>fun i j=>if i=j then 1 else 0
 | d+1=>fun i j=>sm n fun k=>pw n A d i k*A k j
section
variable {n:Nat} {A:Nat->Nat->Int}
def tr (n:Nat) (A:Nat->Nat->Int):Int:=sm n fun i=>A i i
def cw (n:Nat) (A:Nat->Nat->Int) (d:Nat):Int:=tr n (pw n A d)
end
end Go.PV

/-
 Plain laws: what divides numbers of closed walks.
 Conditions: none.
-/
set_option linter.all false
namespace Go.PV
section
variable {n:Nat} (hn:n<=8)
def S2 (n:Nat) (f:Nat->Nat->Int):Int:=sm n fun i=>sm n fun j=>f i j
def S3 (n:Nat) (f:Nat->Nat->Nat->Int):Int:=sm n fun i=>S2 n fun j k=>f i j k
def S4 (n:Nat) (f:Nat->Nat->Nat->Nat->Int):Int:=sm n fun i=>S3 n fun j k l=>f i j k l
def S5 (n:Nat) (f:Nat->Nat->Nat->Nat->Nat->Int):Int:=sm n fun i=>S4 n fun j k l m=>f i j k l m
def l2 (i j:Nat):Int:=if i<j then 1 else 0
def l3 (i j k:Nat):Int:=if 64*i+8*j+k<64*j+8*k+i/\64*i+8*j+k<64*k+8*i+j then 1 else 0
def l4 (i j k l:Nat):Int:=if 512*i+64*j+8*k+l<512*j+64*k+8*l+i/\512*i+64*j+8*k+l<512*k+64*l+8*i+j/\512*i+64*j+8*k+l<512*l+64*i+8*j+k then 1 else 0
def l5 (i j k l m:Nat):Int:=if 4096*i+512*j+64*k+8*l+m<4096*j+512*k+64*l+8*m+i/\4096*i+512*j+64*k+8*l+m<4096*k+512*l+64*m+8*i+j /\
 4096*i+512*j+64*k+8*l+m<4096*l+512*m+64*i+8*j+k/\4096*i+512*j+64*k+8*l+m<4096*m+512*i+64*j+8*k+l then 1 else 0
include hn in
end
end Go.PV

/-
 Plain laws: what divides numbers of closed walks,in short.
 Conditions: none.
-/
set_option linter.all false
namespace Go.PV
section
variable {n:Nat}
variable (hn:n<=8)
include hn
end
end Go.PV

/-
 Plain laws: closed walks on both sides.
 Conditions: none.
-/
set_option linter.all false
namespace Go.PV
section
variable {n:Nat} {G:Nat->Nat->Int}
end
end Go.PV

/-
 Plain laws: numbers of cycles.
 Conditions: none.
-/
set_option linter.all false
namespace Go.PV
def mu (k:Nat):Int:=[0,1, -1, -1,0, -1,1, -1,0,0,1, -1,0].getD k 0
def cyN (c:Nat->Int) (n:Nat):Int:=sm (n+1) fun e=>if n % e=0 then mu (n / e)*c e else 0
section
variable {n:Nat} {G:Nat->Nat->Int} (hn:n<=8) (hG:∀ i j,i<n->j<n->0<=G i j/\G i j<=9)
include hn hG
end
end Go.PV

/-
 Plain laws: graphs of coverings,the reference's side;both sides.
 Conditions: none.
-/
set_option linter.all false
namespace Go.PV
section
variable {n m:Nat} {p:Nat->Pt} {q:Nat->Iv}
end
end Go.PV

/-
 Plain laws: fractions with a value.
 Conditions: none.
-/
set_option linter.all false
namespace Go.PV
theorem yfu1 {a b r:Rt} (ha:isRat a=true) (hb:isRat b=true) (hr:isRat r=true) (h:val r=val a-val b):subQ a b=some r:=by
 have a2:=(isRat_iff.1 ha).1
 have b2:=(isRat_iff.1 hb).1
 have e1:=ypg (r:=a) (by omega)
 have e2:=ypg (r:=b) (by omega)
 refine yca1 (ybf1 ha hb) hr ?_
 rw[Rat.intCast_sub,Rat.intCast_mul,Rat.intCast_mul,Rat.intCast_mul,← e1,← e2,h]
 grind
theorem yxz1 {a b r:Rt} (ha:isRat a=true) (hb:isRat b=true) (hr:isRat r=true) (h:val r=val a*val b):mulQ a b=some r:=by
 have a2:=(isRat_iff.1 ha).1
 have b2:=(isRat_iff.1 hb).1
 have e1:=ypg (r:=a) (by omega)
 have e2:=ypg (r:=b) (by omega)
 refine yca1 (ybf1 ha hb) hr ?_
 rw[Rat.intCast_mul,Rat.intCast_mul,← e1,← e2,h]
 grind
theorem yvm1 {n d:Int} (hd:d<0):lowest n d=lowest (-n) (-d):=by
 unfold lowest
 simp only[if_pos hd,if_neg (show ¬ -d<0 by omega),Int.gcd_neg,Int.neg_gcd,Int.tdiv_neg,Int.neg_tdiv]
theorem divQ_val' {a b r:Rt} (ha:isRat a=true) (hb:isRat b=true) (h:divQ a b=some r):val r*val b=val a:=by
 rcases Int.lt_trichotomy 0 b.1 with hp | hp | hp
 ·exact divQ_val ha hb hp h
 ·unfold divQ at h;rw[if_pos hp.symm] at h;cases h
 unfold divQ at h
 rw[if_neg (by omega)] at h
 have a2:=(isRat_iff.1 ha).1
 have b2:=(isRat_iff.1 hb).1
 have hneg:a.2*b.1<0:=Int.mul_neg_of_pos_of_neg (by omega) hp
 have h':lowQ (-(a.1*b.2)) (-(a.2*b.1))=some r:=by
  rw[← h];unfold lowQ;rw[← yvm1 hneg]
 have e:=yzz (show 0 < -(a.2*b.1) by omega) h'
 have e1:=ypg (r:=a) (by omega)
 have e2:=ypg (r:=b) (by omega)
 rw[Rat.intCast_neg,Rat.intCast_neg,Rat.intCast_mul,Rat.intCast_mul,← e1,← e2] at e
 have n1:=ne0 (d:=a.2) (by omega)
 have n2:=ne0 (d:=b.2) (by omega)
 grind
section
variable {n:Nat} {p:Nat->Pt}
theorem yyz1 (h:Curve n p) {j:Nat} (hj:j+1<n) {x y far up:Rt} (hx:isRat x=true) (hy:isRat y=true) (hf:subQ x (p j).1=some far) (hu:subQ y (p j).2=some up) (hm:val (slopeQ (p j) (p (j+1)))*val far=val up):onQ (p j) (p (j+1)) x=some y:=by
 obtain⟨u,v,hs⟩:=h.piece hj
 have q:=yyu hy (h.yr (show j<n by omega)) hu
 unfold onQ
 rw[hf,Option.bind_some,yxz1 hs.rs (yww hf) (yww hu) hm.symm,Option.bind_some]
 exact yvz1 (h.yr (by omega)) (yww hu) hy (by rw[q];grind)
theorem yvs1 (h:Curve n p) {j:Nat} (hj:j<n):atQ n p (p j).1=some (p j).2:=by
 have h2:=h.lo
 have ha:AtJ n p (p j).1 j:=⟨hj,fun k hk=>(yce (yyc (h.xr (by omega))) (yyc (h.xr hj))).2 (h.xlt hk hj),yqs1⟩
 rw[ysp1 ha]
 rcases Nat.eq_zero_or_pos j with h0 | h0
 ·subst h0
  have z:val (0,1)=0:=by have:=ypg (r:=((0:Int),(1:Int))) (by decide);simpa using this
  exact yyz1 h (j:=0) (by omega) (far:=(0,1)) (up:=(0,1)) (h.xr hj) (h.yr hj) (yfu1 (h.xr hj) (h.xr hj) yrq (by rw[z];grind)) (yfu1 (h.yr hj) (h.yr hj) yrq (by rw[z];grind)) (by rw[z];grind)
 obtain⟨i,rfl⟩:∃ i,j=i+1:=⟨j-1,by omega⟩
 obtain⟨u,v,hs⟩:=h.piece hj
 rw[show i+1-1=i by omega]
 exact yyz1 h hj (h.xr hj) (h.yr hj) hs.far hs.up (divQ_val' hs.ru hs.rv hs.div)
def Crs (p:Nat->Pt) (j:Nat) (y:Rt):Prop:=cmp (p j).2 y*cmp (p (j+1)).2 y<0
def InB (n:Nat) (p:Nat->Pt) (y x:Rt):Prop:=(∃ j,j<n/\(p j).2=y/\x=(p j).1)\/∃ j,j+1<n/\Crs p j y/\backQ (p j) (p (j+1)) y=some x
def BefOk (n:Nat) (p:Nat->Pt) (y:Rt):Prop:=∀ j,j+1<n->Crs p j y->backQ (p j) (p (j+1)) y≠none
end
end Go.PV

/-
 Plain laws: fractions with a value,both sides.
 Conditions: none.
-/
set_option linter.all false
namespace Go.PV
section
variable {n:Nat} {p:Nat->Pt} {y:Rt}
structure GdB (n:Nat) (p:Nat->Pt) (y:Rt) (l:List Rt) (m:Nat):Prop where
 srt:Srt l
 rats:Rats l
 snd:∀ x∈l,InB n p y x
 len:l.length<=m
structure Cpl (p:Nat->Pt) (y:Rt) (i:Nat) (l:List Rt):Prop where
 a:∀ j,j+1<i->(p j).2=y->(p j).1∈l
 b:∀ j,j+1<i->(p (j+1)).2=y->(p (j+1)).1∈l
 c:∀ j,j+1<i->Crs p j y->∃ x,backQ (p j) (p (j+1)) y=some x/\x∈l
structure Bef (n:Nat) (p:Nat->Pt) (y:Rt) (l:List Rt):Prop where
 srt:Srt l
 rats:Rats l
 mem:∀ x,x∈l↔InB n p y x
 len:l.length<=100
end
end Go.PV

/-
 Plain laws: intervals shrunk to what is mapped onto another one.
 Conditions: none.
-/
set_option linter.all false
namespace Go.PV
section
variable {n:Nat} {p:Nat->Pt}
noncomputable def isE (n:Nat) (p:Nat->Pt) (k:Iv) (x:Rt):Bool:=decide (atQ n p x=some k.1)||decide (atQ n p x=some k.2)
def inI (i:Iv) (x:Rt):Bool:= !less x i.1 && !less i.2 x
structure Plc (n:Nat) (p:Nat->Pt) (i k:Iv) (L:List Rt):Prop where
 srt:Srt L
 rats:Rats L
 mem:∀ x,x∈L↔((InB n p k.1 x\/InB n p k.2 x)/\inI i x=true)\/((x=i.1\/x=i.2)/\isE n p k x=true)
 len:L.length<=1000
structure PlcX (n:Nat) (p:Nat->Pt) (i k:Iv) (x:Rt):Prop where
 unit:isUnit x=true
 at':atQ n p x=some k.1\/atQ n p x=some k.2
 lo:less x i.1=false
 hi:less i.2 x=false
noncomputable def vl (n:Nat) (p:Nat->Pt) (x:Rt):Rt:=(atQ n p x).getD (0,0)
noncomputable def dif (n:Nat) (p:Nat->Pt) (e:Iv):Bool:=decide (vl n p e.1≠vl n p e.2)
noncomputable def fdi (n:Nat) (p:Nat->Pt) (L:List Rt):Option Iv:=match(L.zip L.tail).findIdx? (dif n p) with
 | some m=>some ((L.zip L.tail).getD m ((0,0),(0,0)))
 | none=>none
theorem yzp1 {L:List Rt} {m:Nat} {x:Iv} (h:(L.zip L.tail)[m]?=some x):∃ (h1:m+1<L.length),x=(L[m],L[m+1]):=by
 obtain⟨h1,h2⟩:=List.getElem?_eq_some_iff.1 h
 have hl:m+1<L.length:=by
  rw[List.length_zip,List.length_tail] at h1;omega
 refine⟨hl,?_⟩
 rw[← h2,List.getElem_zip,List.getElem_tail]
theorem yaq1 (L:List Rt):(L.zip L.tail).length=L.length-1:=by rw[List.length_zip,List.length_tail];omega
end
end Go.PV

/-
 Plain laws: shrunk intervals on both sides.
 Conditions: none.
-/
set_option linter.all false
namespace Go.PV
section
variable {n:Nat} {p:Nat->Pt} {i k:Iv}
theorem ydf1 (a b:Rt):((a.1==b.1)&&(a.2==b.2))=decide (a=b):=by
 rw[Bool.eq_iff_iff,Bool.and_eq_true,beq_iff_eq,beq_iff_eq,decide_eq_true_iff]
 exact⟨fun h=>Prod.ext h.1 h.2,fun h=>by rw[h];exact⟨rfl,rfl⟩⟩
structure ShrOk (n:Nat) (p:Nat->Pt) (i k j:Iv):Prop where
 iv:isIv j=true
 ok:okI n p j=true
 cov:covI n p j k=true
 lo:less j.1 i.1=false
 hi:less i.2 j.2=false
theorem yzz1 {s:Rt×Rt} {y:Rt} (h1:isRat s.1=true) (h2:isRat s.2=true) (hy:isRat y=true):val (tkR s y).1<=val s.1/\val (tkR s y).1<=val y/\val s.2<=val (tkR s y).2/\val y<=val (tkR s y).2:=by
 unfold tkR
 have a:=yce (yyc hy) (yyc h1)
 have b:=yie (yyc hy) (yyc h1)
 have c:=yce (yyc h2) (yyc hy)
 have d:=yie (yyc h2) (yyc hy)
 cases q:less y s.1 <;> cases q':less s.2 y <;> simp only[Bool.false_eq_true,if_true,if_false] <;> rw[q] at a b <;> rw[q'] at c d <;> simp only[Bool.false_eq_true,true_iff,false_iff,reduceCtorEq] at a b c d <;> grind
theorem ygu1:∀ (l:List Rt) (s:Rt×Rt),isRat s.1=true->isRat s.2=true->(∀ y∈l,isRat y=true)->val (l.foldl tkR s).1<=val s.1/\val s.2<=val (l.foldl tkR s).2
 | [],s,_,_,_=>⟨Rat.le_refl,Rat.le_refl⟩
 | y::l,s,h1,h2,hl=>by
  have hy:=hl y (by simp)
  have hr:=yzl1 h1 h2 hy;have t:=yzz1 h1 h2 hy;have:=ygu1 l (tkR s y) hr.1 hr.2 fun z hz=>hl z (by simp[hz])
  rw[List.foldl_cons];exact⟨Rat.le_trans this.1 t.1,Rat.le_trans t.2.2.1 this.2⟩
theorem yyb2 (h:Curve n p) {a b y z:Rt} (hy:isRat y=true) (hz:isRat z=true):val (imR n p a b y z).1<=val y/\val (imR n p a b y z).1<=val z/\val y<=val (imR n p a b y z).2/\val z<=val (imR n p a b y z).2:=by
 unfold imR
 rw[List.foldl_cons]
 have hr:=yzl1 (s:=(y,y)) hy hy hz
 have t:=yzz1 (s:=(y,y)) hy hy hz
 have:=ygu1 (ysB p a b n) (tkR (y,y) z) hr.1 hr.2 (yxi1 h a b n (Nat.le_refl n))
 exact⟨Rat.le_trans this.1 t.1,Rat.le_trans this.1 t.2.1,Rat.le_trans t.2.2.1 this.2,Rat.le_trans t.2.2.2 this.2⟩
end
end Go.PV

/-
 Plain laws: chains of intervals.
 Conditions: none.
-/
set_option linter.all false
namespace Go.PV
section
variable {n m:Nat} {p:Nat->Pt} {q:Nat->Iv}
noncomputable def flt (n:Nat) (p:Nat->Pt) (m:Nat) (q:Nat->Iv) (i:Nat):Bool:= !covI n p (q i) (q ((i+1) % m))
noncomputable def faL (n:Nat) (p:Nat->Pt) (m:Nat) (q:Nat->Iv) (i:Nat):List Int:=((List.range i).filter (flt n p m q)).map fun j:Nat=>(j:Int)
structure ShI (n:Nat) (p:Nat->Pt) (m:Nat) (q Q:Nat->Iv) (t:Nat):Prop where
 iv:∀ j,t<=j->j<m->isIv (Q j)=true/\less (Q j).1 (q j).1=false/\less (q j).2 (Q j).2=false
 shr:∀ j,t<=j->j+1<m->ShrOk n p (q j) (Q (j+1)) (Q j)
 lst:Q (m-1)=q (m-1)
def chB (m:Nat) (F:List Int):Bool:=match F with
 | []=>true
 | x::_=>x==((m:Int)-1)
end
end Go.PV

/-
 Plain laws: chains on both sides.
 Conditions: none.
-/
set_option linter.all false
namespace Go.PV
structure ChNo (f:List Pt) (l:List Iv):Prop where
 a1:yiv f l=some ([],false)
 a2:yjv f l=some ([],false)
 b1:yta1 f l=some (false,false)
 b2:yua1 f l=some (false,false)
 c1:ybx f l=some (false,false)
 c2:yqd1 f l=some (false,false)
 d1:yir f l=some ([],false)
 d2:yjr f l=some ([],false)
structure ChYes (f:List Pt) (l:List Iv) (F:List Int):Prop where
 len:1<=l.length/\l.length<=8
 fl:F.length<=8
 a1:yiv f l=some (F,true)
 a2:yjv f l=some (F,true)
 b1:yta1 f l=some ((F.length:Int)==0,true)
 b2:yua1 f l=some ((F.length:Int)==0,true)
 c1:ybx f l=some (chB l.length F,true)
 c2:yqd1 f l=some (chB l.length F,true)
 d:(yir f l=some ([],false)/\yjr f l=some ([],false))\/(chB l.length F=true/\∃ (n m:Nat) (p:Nat->Pt) (q Q:Nat->Iv),f=tab n p/\l=tab m q/\Curve n p/\1<=m/\m<=8/\(∀ a,a<m->isIv (q a)=true)/\yae f=some true/\ShI n p m q Q 0/\yir f l=some (tab m Q,true)/\yjr f l=some (tab m Q,true))
def apart (i k:Iv):Bool:=less i.2 k.1||less k.2 i.1
noncomputable def hsV (n:Nat) (p:Nat->Pt) (i k:Iv):Bool×Bool:=if okI n p i=true/\okI n p k=true then(apart i k&&covI n p i i&&covI n p i k&&covI n p k i&&covI n p k k,true) else(false,false)
end Go.PV

/-
 Plain laws: the end values of iterates.
 Conditions: none.
-/
set_option linter.all false
namespace Go.PV
def btw (cuts:List Rt) (a b:Rt):List Rt:=if less b a=true then(cuts.filter fun x=>less b x&&less x a).reverse else cuts.filter fun x=>less a x&&less x b
section
variable {cuts:List Rt} {a b:Rt}
end
def wayN (cuts:List Rt) (e:Nat->Rt):Nat->List Rt
 | 0=>[e 0]
 | k+1=>wayN cuts e k++btw cuts (e k) (e (k+1))++[e (k+1)]
section
variable {n:Nat} {p:Nat->Pt}
noncomputable def valsO (n:Nat) (p:Nat->Pt) (o:Option (List Rt)) (xs:List Rt):Option (List Rt):=xs.foldl (fun o x=>o.bind fun l=>(atQ n p x).map fun y=>l++[y]) o
def RelA (o:Option (List Rt)) (k:Nat) (s:Bool×List Rt):Prop:=s.2.length=k/\match o with
 | some l=>s=(false,l)
 | none=>s.1=true
noncomputable def nextO (n:Nat) (p:Nat->Pt) (cuts:List Rt) (m:Nat) (e:Nat->Rt):Option (List Rt):=if(wayN cuts e (m-1)).length<=4097 then valsO n p (some []) (wayN cuts e (m-1)) else none
end
end Go.PV

/-
 Plain laws: laps,end values and variations of iterates.
 Conditions: none.
-/
set_option linter.all false
namespace Go.PV
section
variable {n:Nat} {p:Nat->Pt}
noncomputable def itO (n:Nat) (p:Nat->Pt) (cuts:List Rt):Nat->Option (List Rt)
 | 0=>some [(0,1),(1,1)]
 | k+1=>(itO n p cuts k).bind fun l=>nextO n p cuts l.length (fun i=>l.getD i default)
noncomputable def itL (n:Nat) (p:Nat->Pt) (cuts:List Rt) (k:Nat):List Rt:=(itO n p cuts k).getD []
structure Ends (l:List Rt):Prop where
 lo:2<=l.length
 hi:l.length<=4097
 u:∀ x∈l,isUnit x=true
theorem Ends.at {l:List Rt} (h:Ends l) {i:Nat} (hi:i<l.length):isUnit (l.getD i default)=true:=by
 refine h.u _ ?_
 simp[hi]
theorem yaj1 (hm:isMapT n p) (h2:2<=n) (hn:n<=12):∃ cuts:List Rt,yer (tab n p)=some cuts/\yij (tab n p)=some cuts/\(∀ x∈cuts,isUnit x=true)/\cuts.length<=12:=by
 have hl:=ywl1 (p:=p) h2
 have hb:=(ycf1 (wayOf p) (n-1)).bd
 have hb':∀ t∈lapsT n p,t.1<n:=fun t ht=>by have:=hb t ht;omega
 have e1:=yui1 hm h2 hn
 have e2:=yjw hm h2 hn
 generalize lapsT n p=L at hl hb' e1 e2
 have hd:((L.map encT).drop (Int.toNat 1))=(L.drop 1).map encT:=by simp[List.map_drop]
 have loop:loopO (yjm (tab n p) (L.map encT)) ([],0)=some ((L.drop 1).map fun t=>(p t.1).1):=by
  have hx:=ydc (body:=yjm (tab n p) (L.map encT)) (L.drop 1).length (fun i=>(((L.drop 1).take i).map (fun t=>(p t.1).1),(i:Int))) ((L.drop 1).map fun t=>(p t.1).1) (fun i hi=>by
   have hmem:(L.drop 1)[i]∈L:=List.mem_of_mem_drop (List.getElem_mem hi)
   have hlt:=hb' _ hmem
   have g1:idxO ((L.drop 1).map encT) (i:Int)=some (encT (L.drop 1)[i]):=by rw[ydj,List.getElem?_map,List.getElem?_eq_getElem hi];rfl
   have g2:idxO (encT (L.drop 1)[i]) 0=some (((L.drop 1)[i].1:Nat):Int):=rfl
   simp only[yjm,hd,List.length_map,show((i:Int)<((L.drop 1).length:Int)) from by omega,decide_true,if_true,g1,g2,Option.bind_some,yua hlt];rw[yea (by rw[List.length_take];simp;omega),yta (show i<9223372036854775807 by simp at hi;omega)]
   have htk:(L.drop 1).take (i+1)=(L.drop 1).take i++[(L.drop 1)[i]]:=by rw[List.take_add_one,List.getElem?_eq_getElem hi];rfl
   rw[htk,List.map_append];rfl) (by
   simp only[yjm,hd,List.length_map,Int.lt_irrefl,decide_false,Bool.false_eq_true,if_false,List.take_length])
  exact hx
 have gl:((0:Nat)<=1/\(1:Int)<=((L.map encT).length:Int)):=by rw[List.length_map];omega
 refine⟨(L.drop 1).map fun t=>(p t.1).1,?_,?_,fun x hx=>?_,by simp;omega⟩
 ·unfold yer
  rw[e1,Option.bind_some,yea gl,loop];rfl
 ·unfold yij
  have loop':loopO (yng (tab n p) (L.map encT)) ([],0)=some ((L.drop 1).map fun t=>(p t.1).1):=loop
  rw[e2,Option.bind_some,yea gl,loop'];rfl
 obtain⟨t,h3,rfl⟩:=List.mem_map.1 hx
 have hlt:=hb' t (List.mem_of_mem_drop h3)
 have hc:=(hm.1 _ hlt).1
 simp only[coord,Bool.and_eq_true] at hc
 exact hc.1
end
end Go.PV

/-
 Plain laws: draws of intervals always come to an end.
 Conditions: none.
-/
set_option linter.all false
namespace Go.PV
theorem ybq1 {B:Nat} (hB:B<=10000000) {c:Cur} (hc:Ck B c):Tot (yyg c) fun r=>Ck (B+10) r.2:=by
 unfold yyg
 refine(ykk hc (by omega) _).bind fun v1 ⟨⟨p1,p2⟩,h1⟩=>?_
 have p3:=p2 (by omega)
 rw[yec (n:=1+v1.1) (by omega) (by omega)]
 refine(ypi h1 (by omega) _ (by simp)).bind fun v2 ⟨m2,h2⟩=>?_
 have hv:1<=v2.1/\v2.1<=60:=by
  simp only[List.mem_cons,List.not_mem_nil,or_false] at m2;omega
 rw[yec (n:=v2.1+1) (by omega) (by omega)]
 refine(ykk h2 (by omega) _).bind fun v3 ⟨⟨q1,q2⟩,h3⟩=>?_
 have q3:=q2 (by omega)
 exact(yxu (by omega) (by omega) (by omega) (by omega)).bind fun v4 _=>Tot.ret (Ck.mono (c:=v3.2) h3 (by omega))
theorem yzb2 {B:Nat} (hB:B<=1000000) {c:Cur} (hc:Ck B c) (f:List Pt) (hf:f.length<=13):Tot (yin c f) fun r=>Ck (B+30) r.2:=by
 unfold yin
 refine(ykk hc (by omega) _).bind fun v1 ⟨_,h1⟩=>?_
 have k2:∀ b,Tot (yzd v1 b) fun r=>Ck (B+30) r.2:=by
  intro b;unfold yzd;refine Tot.ite (fun _=>?_) (fun _=>Tot.ite (fun _=>?_) fun _=>?_)
  ·refine(ypi h1 (by omega) _ (by simp)).bind fun v2 ⟨m2,h2⟩=>?_
   have hv:1<=v2.1/\v2.1<=60:=by
    simp only[List.mem_cons,List.not_mem_nil,or_false] at m2;omega
   exact(yuq (by omega) h2 (by omega) (by omega)).bind fun v3 ⟨_,h3⟩=>Tot.ret (h3.mono (by omega))
  ·exact(ybq1 (by omega) h1).bind fun v3 h3=>Tot.ret (h3.mono (by omega))
  exact(ytv (by omega) h1).bind fun v3 h3=>Tot.ret (h3.mono (by omega))
 have k1:∀ b,Tot (ykf f v1 b) fun r=>Ck (B+30) r.2:=by
  intro b;unfold ykf;refine Tot.ite (fun _=>Tot.ite (fun hp=>?_) fun _=>?_) (fun _=>Tot.ite (fun _=>Tot.ite (fun hp=>?_) fun _=>?_) fun _=>Tot.ite (fun _=>k2 _) fun _=>Tot.ite (fun _=>k2 _) fun _=>k2 _)
  ·have hp:=of_decide_eq_true hp
   refine(ykk h1 (by omega) _).bind fun v5 ⟨⟨q1,q2⟩,h5⟩=>?_
   exact Tot.idx q1 (q2 (by omega)) fun v6 _=>Tot.ret (Ck.mono (c:=v5.2) h5 (by omega))
  ·exact(ytv (by omega) h1).bind fun v3 h3=>Tot.ret (h3.mono (by omega))
  ·have hp:=of_decide_eq_true hp
   refine(ykk h1 (by omega) _).bind fun v5 ⟨⟨q1,q2⟩,h5⟩=>?_
   exact Tot.idx q1 (q2 (by omega)) fun v6 _=>Tot.ret (Ck.mono (c:=v5.2) h5 (by omega))
  exact(ytv (by omega) h1).bind fun v3 h3=>Tot.ret (h3.mono (by omega))
 exact Tot.ite (fun _=>k1 _) fun _=>k1 _
theorem yqk1 (l:List Rt) (hl:l.length<=1048576):yry l=some (l.zip l.tail):=by
 unfold yry
 have hz:=yaq1 l
 have hx:=ydc (body:=ydi l) (l.length-1) (fun i=>((l.zip l.tail).take i,((i+1:Nat):Int))) (l.zip l.tail) (fun i hi=>by
  have hiz:i<(l.zip l.tail).length:=by omega
  obtain⟨h1,e⟩:=yzp1 (List.getElem?_eq_getElem hiz)
  simp only[ydi,show(((i+1:Nat):Int)<(l.length:Int)) from by omega,decide_true,if_true,yej (show 0<i+1 by omega) (show i+1<4611686018427387904 by omega),show i+1-1=i by omega,ytf (show i<l.length by omega),ytf h1,Option.bind_some]
  rw[yea (by simp;omega),yta (show i+1<9223372036854775807 by omega),List.take_succ_eq_append_getElem hiz,e]) (by
  simp only[ydi,show ¬ (((l.length-1+1:Nat):Int)<(l.length:Int)) from by omega,decide_false,Bool.false_eq_true,if_false];rw[← hz,List.take_length])
 have hx:loopO (ydi l) ([],1)=some (l.zip l.tail):=hx
 rw[hx];rfl
theorem yxm {x:Rt} (h:isUnit x=true):isRat x=true:=by simp only[isUnit,Bool.and_eq_true] at h;exact h.1
structure Part (l:List Rt):Prop where
 srt:Srt l
 unit:∀ x∈l,isUnit x=true
 two:2<=l.length
theorem Part.rats {l:List Rt} (h:Part l):Rats l:=fun x hx=>yxm (h.unit x hx)
theorem Part.put {l r:List Rt} {x:Rt} (h:Part l) (hx:isUnit x=true) (hp:PutOk l x r):Part r:=⟨hp.srt,fun y hy=>by
 rcases(hp.mem y).1 hy with rfl | hy
 ·exact hx
 exact h.unit y hy,by
 by_cases hm:x∈l
 ·have:l=r:=ywi1 h.srt hp.srt h.rats (hp.rats h.rats (yxm hx)) fun y=>by
   rw[hp.mem];exact⟨.inr,fun q=>by rcases q with rfl | q;exact hm;exact q⟩
  rw[← this];exact h.two
 have:=hp.new hm;have:=h.two;omega⟩
theorem ycq1 (l:List Rt) (x:Rt) (hl:l.length<=1048576):Tot (yik l x) fun r=>r<0->x∉l:=by
 unfold yik
 refine Tot.bind (P:=fun y:Int ⊕ Unit=>match y with
  | .inl r=>0<=r
  | .inr _=>x∉l) ?_ fun y hy=>?_
 ·refine Tot.loop (fun y=>∃ i:Nat,y=(i:Int)/\i<=l.length/\∀ j (h:j<l.length),j<i->l[j]≠x) (fun y=>l.length-y.toNat) (fun y ⟨i,e,hi,ha⟩=>?_) 0 ⟨0,rfl,by omega,fun j _ h=>by omega⟩
  subst e;unfold yhk;by_cases hlt:i<l.length
  ·simp only[show((i:Int)<(l.length:Int)) from by omega,decide_true,if_true,ytf hlt,Option.bind_some,yta (show i<9223372036854775807 by omega),ydf1]
   refine Tot.ite (fun q=>Tot.inr ?_) fun q=>Tot.inl ⟨⟨i+1,rfl,by omega,fun j hj hji=>?_⟩,by show l.length-((i+1:Nat):Int).toNat<l.length-(i:Int).toNat;omega⟩
   ·show(0:Int)<=(i:Int);omega
   have q:=of_decide_eq_false q;rcases Nat.lt_or_ge j i with h | h
   ·exact ha j hj h
   have:j=i:=by omega
   subst this;exact fun e=>q e.symm
  simp only[show ¬ ((i:Int)<(l.length:Int)) from by omega,decide_false,Bool.false_eq_true,if_false];refine Tot.inr fun hm=>?_
  obtain⟨j,hj,e⟩:=List.mem_iff_getElem.1 hm;exact ha j hj (by omega) e
 cases y with
 | inl r=>exact Tot.ret fun h=>by simp only at hy;omega
 | inr u=>exact Tot.ret fun _=>hy
section
variable {n:Nat} {p:Nat->Pt}
theorem yrk1 (h:Curve n p):Tot (ypj (tab n p)) fun r=>r.length<=13/\∀ x∈r,∃ i,i<n/\x=p i:=by
 have h2:=h.lo
 have h12:=h.hi
 unfold ypj
 rw[yhy (by omega),Option.bind_some]
 refine Tot.bind (P:=fun r:List Pt=>r.length<=13/\∀ x∈r,∃ i,i<n/\x=p i) ?_ fun r hr=>Tot.ret hr
 refine Tot.loop (fun x:List Pt×Int=>∃ i:Nat,x.2=((i+1:Nat):Int)/\i+1<=n/\x.1.length<=i+1/\∀ z∈x.1,∃ i,i<n/\z=p i) (fun x=>n-x.2.toNat) (fun x ⟨i,e,hi,hl,hm⟩=>?_) _ ⟨0,rfl,by omega,by simp,fun z hz=>⟨0,by omega,by simpa using hz⟩⟩
 obtain⟨l,x2⟩:=x
 simp only at e hl hm
 subst e
 unfold yzg
 rw[yab]
 have hw:w64 (((i+1:Nat):Int)+1)=((i+1+1:Nat):Int):=yta (by omega)
 by_cases hlt:i+1<n
 ·obtain⟨u,v,hs⟩:=h.piece hlt
  simp only[show(((i+1:Nat):Int)<(n:Int)) from by omega,decide_true,if_true,hw,yej (show 0<i+1 by omega) (show i+1<4611686018427387904 by omega),show i+1-1=i by omega,yua (show i<n by omega),yua hlt,Option.bind_some,yfi (h.x i (by omega)) (h.y i (by omega)) (h.x (i+1) hlt) (h.y (i+1) hlt) hs]
  refine Tot.bind (P:=fun _=>True) ?_ fun w _=>?_
  ·refine Tot.ite (fun _=>Tot.ret trivial) fun q=>?_
   have hlt2:i+1+1<n:=by simp at q;omega
   obtain⟨u2,v2,hs2⟩:=h.piece hlt2;rw[yua hlt2,Option.bind_some,yfi (h.x (i+1) (by omega)) (h.y (i+1) (by omega)) (h.x (i+1+1) hlt2) (h.y (i+1+1) hlt2) hs2];exact Tot.ret trivial
  have mu:n-((i+1+1:Nat):Int).toNat<n-((i+1:Nat):Int).toNat:=by omega
  refine Tot.ite (fun _=>Tot.guard (by simp;omega) (Tot.inl ⟨⟨i+1,rfl,by omega,by simp;omega,fun z hz=>?_⟩,mu⟩)) fun _=>Tot.inl ⟨⟨i+1,rfl,by omega,by show l.length<=_;omega,hm⟩,mu⟩
  rcases List.mem_append.1 hz with q | q
  ·exact hm z q
  exact⟨i+1,hlt,List.mem_singleton.1 q⟩
 simp only[show ¬ (((i+1:Nat):Int)<(n:Int)) from by omega,decide_false,Bool.false_eq_true,if_false]
 exact Tot.inr ⟨by show l.length<=13;omega,hm⟩
theorem ydq1 (f:List Pt) (hf:f.length<=1048576):yqy f=some (f.map (·.1)):=by
 unfold yqy
 have hx:=ydc (body:=ylo f) f.length (fun i=>((f.take i).map (·.1),(i:Int))) (f.map (·.1)) (fun i hi=>by
  simp only[ylo,show((i:Int)<(f.length:Int)) from by omega,decide_true,if_true,ytf hi,Option.bind_some];rw[yea (by simp;omega),yta (show i<9223372036854775807 by omega),List.take_succ_eq_append_getElem hi,List.map_append]
  rfl) (by
  simp only[ylo,Int.lt_irrefl,decide_false,Bool.false_eq_true,if_false,List.take_length])
 have hx:loopO (ylo f) ([],0)=some (f.map (·.1)):=hx
 rw[hx];rfl
theorem ysk1 (hm:isMapT n p) (h2:2<=n) (hn:n<=12) (b:Bool):Tot (ybg (tab n p) b) fun r=>r.length<=13/\∀ x∈r,isUnit x=true:=by
 have h:=Curve.of_map hm h2 hn
 unfold ybg
 refine Tot.ite (fun _=>?_) fun _=>?_
 ·refine(yrk1 h).bind fun r ⟨r1,r2⟩=>?_
  rw[ydq1 r (by omega)];refine Tot.ret ⟨by simp;omega,fun x hx=>?_⟩
  obtain⟨z,hz,rfl⟩:=List.mem_map.1 hx;obtain⟨i,hi,rfl⟩:=r2 z hz;exact(yqh (h.xr hi)).2 (yzu (h.x i hi))
 obtain⟨cuts,_,e,e2,e3⟩:=yaj1 hm h2 hn
 rw[e]
 exact Tot.ret ⟨by omega,e2⟩
theorem yle1 (hm:isMapT n p) (h2:2<=n) (hn:n<=12) (b:Bool):Tot (yxd (tab n p) b) fun r=>r.2=true->Part r.1/\r.1.length<=100:=by
 have h:=Curve.of_map hm h2 hn
 unfold yxd ykb
 have hput:ydd [((0:Int),(1:Int))] (1,1)=some [(0,1),(1,1)]:=by
  obtain⟨r,e,hr⟩:=yda1 (l:=[((0:Int),(1:Int))]) (x:=(1,1)) (List.pairwise_singleton _ _) (fun x hx=>by rw[List.mem_singleton.1 hx];exact yrq) ysv (by simp)
  rw[e];congr 1
  exact ywi1 hr.srt (by simp[Srt,less]) (hr.rats (fun x hx=>by rw[List.mem_singleton.1 hx];exact yrq) ysv) (fun x hx=>by
   simp only[List.mem_cons,List.not_mem_nil,or_false] at hx;rcases hx with rfl | rfl
   ·exact yrq
   ·exact ysv) fun x=>by
   rw[hr.mem];simp only[List.mem_cons,List.not_mem_nil,or_false];exact⟨fun q=>q.symm,fun q=>q.symm⟩
 simp only[Option.bind_some]
 rw[hput,Option.bind_some]
 refine(ysk1 hm h2 hn b).bind fun v19 ⟨l19,u19⟩=>?_
 have p0:Part [((0:Int),(1:Int)),(1,1)]:=⟨by simp[Srt,less],fun x hx=>by
  simp only[List.mem_cons,List.not_mem_nil,or_false] at hx;rcases hx with rfl | rfl <;> decide,by simp⟩
 refine Tot.bind (P:=fun l:List Rt=>Part l/\l.length<=20) ?_ fun l4 ⟨hp4,hl4⟩=>?_
 ·refine Tot.loop (fun x:List Rt×Int=>∃ i:Nat,x.2=(i:Int)/\i<=v19.length/\Part x.1/\x.1.length<=2+i) (fun x=>v19.length-x.2.toNat) (fun x ⟨i,e,hi,hp,hl⟩=>?_) _ ⟨0,rfl,by omega,p0,by simp⟩
  obtain⟨l,x2⟩:=x;simp only at e hp hl
  subst e;unfold yvi;by_cases hlt:i<v19.length
  ·have hu:=u19 _ (List.getElem_mem hlt)
   simp only[show((i:Int)<(v19.length:Int)) from by omega,decide_true,if_true,ytf hlt,Option.bind_some,yta (show i<9223372036854775807 by omega)];refine(yda1 hp.srt hp.rats (yxm hu) (by omega)).bind fun v hv=>Tot.inl ⟨⟨i+1,rfl,by omega,hp.put hu hv,by have:=hv.len;show v.length<=_;omega⟩,by show v19.length-((i+1:Nat):Int).toNat<v19.length-(i:Int).toNat;omega⟩
  simp only[show ¬ ((i:Int)<(v19.length:Int)) from by omega,decide_false,Bool.false_eq_true,if_false];exact Tot.inr ⟨hp,by show l.length<=20;omega⟩
 unfold ycg
 refine Tot.bind (P:=fun y:(List Rt×Bool) ⊕ List Rt=>match y with
  | .inl r=>r.2=true->Part r.1/\r.1.length<=100
  | .inr l=>Part l/\l.length<=100) ?_ fun y hy=>?_
 ·refine Tot.loop (fun x:List Rt×Bool=>Part x.1/\x.1.length<=20) (fun x=>2*(30-x.1.length)+(if x.2=true then 1 else 0)) (fun x ⟨hp,hl⟩=>?_) _ ⟨hp4,hl4⟩
  obtain⟨l,ch⟩:=x;simp only at hp hl
  unfold yui;refine Tot.ite (fun q=>?_) fun q=>Tot.inr ⟨hp,by show l.length<=100;omega⟩
  simp only at q
  subst q;refine Tot.ite (fun q=>Tot.inr fun hh=>by cases hh) fun q=>?_
  have q:¬ ((l.length:Int)>9):=of_decide_eq_false q
  refine Tot.bind (P:=fun y:(List Rt×Bool) ⊕ (List Rt×Bool)=>match y with
   | .inl r=>r.2=false
   | .inr r=>Part r.1/\r.1.length<=20/\2*(30-r.1.length)+(if r.2=true then 1 else 0)<2*(30-l.length)+1) ?_ fun y hy=>?_
  ·refine Tot.loop (fun x:Int=>∃ i:Nat,x=(i:Int)/\i<=l.length) (fun x=>l.length-x.toNat) (fun x ⟨i,e,hi⟩=>?_) 0 ⟨0,rfl,by omega⟩
   subst e;unfold yti;by_cases hlt:i<l.length
   ·have hu:=hp.unit _ (List.getElem_mem hlt)
    simp only[show((i:Int)<(l.length:Int)) from by omega,decide_true,if_true,ytf hlt,Option.bind_some,yta (show i<9223372036854775807 by omega),yti1 h hu];cases ha:atQ n p l[i] with
    | none=>exact Tot.inr rfl
    | some y =>
     have hy:=yba1 h (fun i hi=>(hm.1 i hi).2) hu ha
     simp only[unO,Bool.not_true,Bool.false_eq_true,if_false];refine(ycq1 l y (by omega)).bind fun v16 h16=>?_
     refine Tot.ite (fun q'=>?_) fun _=>Tot.inl ⟨⟨i+1,rfl,by omega⟩,by show l.length-((i+1:Nat):Int).toNat<l.length-(i:Int).toNat;omega⟩
     have hnew:=h16 (of_decide_eq_true q')
     refine(yda1 hp.srt hp.rats (yxm hy) (by omega)).bind fun v hv=>Tot.inr ⟨hp.put hy hv,by have:=hv.len;show v.length<=20;omega,?_⟩
     have:=hv.new hnew
     show 2*(30-v.length)+1<_
     omega
   simp only[show ¬ ((i:Int)<(l.length:Int)) from by omega,decide_false,Bool.false_eq_true,if_false];exact Tot.inr ⟨hp,hl,by show 2*(30-l.length)+0<_;omega⟩
  cases y with
  | inl r=>exact Tot.inr fun hh=>by simp only at hy;rw[hy] at hh;cases hh
  | inr r=>exact Tot.inl ⟨⟨hy.1,hy.2.1⟩,by simpa using hy.2.2⟩
 cases y with
 | inl r=>exact Tot.ret hy
 | inr l=>exact Tot.ret fun _=>hy
end
end Go.PV

/-
 Plain laws: draws of chains always come to an end.
 Conditions: none.
-/
set_option linter.all false
namespace Go.PV
def AllIv (l:List Iv):Prop:=∀ x∈l,isIv x=true
section
variable {n:Nat} {p:Nat->Pt}
end
end Go.PV

/-
 Plain laws: end values of iterates.
 Conditions: none.
-/
set_option linter.all false
namespace Go.PV
end Go.PV

/-
 Plain laws: the end values of iterates go up and down by turns.
 Conditions: none.
-/
set_option linter.all false
namespace Go.PV
def tnL (σ:Nat->Int) (i:Nat):List Nat:=((List.range i).map (·+1)).filter fun m=>σ (m-1) != σ m
theorem ygw1 (σ:Nat->Int) (i:Nat):tnL σ (i+1)=tnL σ i++if(σ i != σ (i+1))=true then[i+1] else[]:=by
 unfold tnL
 rw[List.range_succ,List.map_append,List.filter_append]
 simp only[List.map_cons,List.map_nil,List.filter_cons,List.filter_nil,Nat.add_sub_cancel]
theorem tnL_mem {σ:Nat->Int} {i m:Nat}:m∈tnL σ i↔1<=m/\m<=i/\σ (m-1)≠σ m:=by
 unfold tnL
 rw[List.mem_filter,List.mem_map]
 constructor
 ·rintro⟨⟨k,hk,rfl⟩,h⟩
  have:=List.mem_range.1 hk
  exact⟨by omega,by omega,by simpa using h⟩
 rintro⟨h1,h2,h3⟩
 exact⟨⟨m-1,List.mem_range.2 (by omega),by omega⟩,by simpa using h3⟩
theorem yef1 (σ:Nat->Int):∀ i,(lapsN σ (i+1)).map (fun t=>t.1)=0::tnL σ i/\∃ L t,lapsN σ (i+1)=L++[t]/\t.2.2=σ i
 | 0=>⟨rfl,[],(0,1,σ 0),rfl,rfl⟩
 | i+1=>by
  obtain⟨h1,L,t,h2,h3⟩:=yef1 σ i;have e:lapsN σ (i+1+1)=if t.2.2=σ (i+1) then L++[(t.1,i+1+1,σ (i+1))] else L++[t]++[(i+1,i+1+1,σ (i+1))]:=by
   show lapStep (lapsN σ (i+1)) (i+1) (σ (i+1))=_
   rw[h2,yuv]
  rw[h2,List.map_append] at h1;rw[ygw1,e,h3];by_cases hs:σ i=σ (i+1)
  ·rw[if_pos hs,if_neg (by simpa using hs)]
   refine⟨?_,L,_,rfl,rfl⟩
   rw[List.map_append,List.append_nil,← h1];rfl
  rw[if_neg hs,if_pos (by simpa using hs)];refine⟨?_,L++[t],_,rfl,rfl⟩
  rw[List.map_append,List.map_append,h1];rfl
def cutsT (n:Nat) (p:Nat->Pt):List Rt:=(tnL (wayOf p) (n-2)).map fun m=>(p m).1
section
variable {n:Nat} {p:Nat->Pt}
theorem yhw1 (hm:isMapT n p) (h2:2<=n) (hn:n<=12) {cuts:List Rt} (ht:yij (tab n p)=some cuts):cuts=cutsT n p/\cuts.length+1=(lapsT n p).length:=by
 have hl:=ywl1 (p:=p) h2
 have hb:=(ycf1 (wayOf p) (n-1)).bd
 have hb':∀ t∈lapsT n p,t.1<n:=fun t ht=>by have:=hb t ht;omega
 have hst:(lapsT n p).map (fun t=>t.1)=0::tnL (wayOf p) (n-2):=by
  have:=(yef1 (wayOf p) (n-2)).1
  rw[show n-2+1=n-1 by omega] at this;exact this
 have e2:=yjw hm h2 hn
 generalize lapsT n p=L at hl hb' e2 hst
 have hd:((L.map encT).drop (Int.toNat 1))=(L.drop 1).map encT:=by simp[List.map_drop]
 have loop:loopO (yng (tab n p) (L.map encT)) ([],0)=some ((L.drop 1).map fun t=>(p t.1).1):=by
  have hx:=ydc (body:=yng (tab n p) (L.map encT)) (L.drop 1).length (fun i=>(((L.drop 1).take i).map (fun t=>(p t.1).1),(i:Int))) ((L.drop 1).map fun t=>(p t.1).1) (fun i hi=>by
   have hmem:(L.drop 1)[i]∈L:=List.mem_of_mem_drop (List.getElem_mem hi)
   have hlt:=hb' _ hmem
   have g1:idxO ((L.drop 1).map encT) (i:Int)=some (encT (L.drop 1)[i]):=by rw[ydj,List.getElem?_map,List.getElem?_eq_getElem hi];rfl
   have g2:idxO (encT (L.drop 1)[i]) 0=some (((L.drop 1)[i].1:Nat):Int):=rfl
   simp only[yng,hd,List.length_map,show((i:Int)<((L.drop 1).length:Int)) from by omega,decide_true,if_true,g1,g2,Option.bind_some,yua hlt];rw[yea (by rw[List.length_take];simp;omega),yta (show i<9223372036854775807 by simp at hi;omega)]
   have htk:(L.drop 1).take (i+1)=(L.drop 1).take i++[(L.drop 1)[i]]:=by rw[List.take_add_one,List.getElem?_eq_getElem hi];rfl
   rw[htk,List.map_append];rfl) (by
   simp only[yng,hd,List.length_map,Int.lt_irrefl,decide_false,Bool.false_eq_true,if_false,List.take_length])
  exact hx
 have gl:((0:Nat)<=1/\(1:Int)<=((L.map encT).length:Int)):=by rw[List.length_map];omega
 unfold yij at ht
 rw[e2,Option.bind_some,yea gl,loop] at ht
 have e:cuts=(L.drop 1).map fun t=>(p t.1).1:=(Option.some.inj ht).symm
 refine⟨?_,by rw[e,List.length_map,List.length_drop];omega⟩
 rw[e]
 unfold cutsT
 have:(L.drop 1).map (fun t=>t.1)=tnL (wayOf p) (n-2):=by rw[List.map_drop,hst];rfl
 rw[← this,List.map_map]
 rfl
def dy (p:Nat->Pt) (m:Nat):Rat:=val (p (m+1)).2-val (p m).2
def Ways (n:Nat) (p:Nat->Pt):Prop:=∀ m,m+1<n->(wayOf p m=1/\0<dy p m)\/(wayOf p m = -1/\dy p m<0)
theorem yhu1 (h:Curve n p) {m m':Nat} (hm:m+1<n) (hm':m'+1<n) {x y:Rt} (ho:OnP p m' x y) (lo:val (p m).1<=val x) (hi:val x<=val (p (m+1)).1):OnP p m x y:=by
 have d:=h.xlt (show m<m+1 by omega) hm
 have d':=h.xlt (show m'<m'+1 by omega) hm'
 obtain⟨l,u,e⟩:=ho
 rcases Nat.lt_trichotomy m' m with hlt | heq | hgt
 ·have hme:m=m'+1:=by
   refine Classical.byContradiction fun hne=>?_
   have:=h.xlt (show m'+1<m by omega) (by omega)
   grind
  subst hme;have ex:val x=val (p (m'+1)).1:=by grind
  refine⟨lo,hi,?_⟩
  rw[ex] at e ⊢
  have:val y=val (p (m'+1)).2:=by
   have:(val y-val (p (m'+1)).2)*(val (p (m'+1)).1-val (p m').1)=0:=by grind
   rcases Rat.mul_eq_zero.1 this with h1 | h1 <;> grind
  rw[this];grind
 ·subst heq;exact⟨l,u,e⟩
 have hme:m'=m+1:=by
  refine Classical.byContradiction fun hne=>?_
  have:=h.xlt (show m+1<m' by omega) (by omega)
  grind
 subst hme
 have ex:val x=val (p (m+1)).1:=by grind
 refine⟨lo,hi,?_⟩
 rw[ex] at e ⊢
 have:val y=val (p (m+1)).2:=by
  have:(val y-val (p (m+1)).2)*(val (p (m+1+1)).1-val (p (m+1)).1)=0:=by grind
  rcases Rat.mul_eq_zero.1 this with h1 | h1 <;> grind
 rw[this]
theorem yaa2 (h:Curve n p) {m:Nat} (hm:m+1<n):OnP p m (p m).1 (p m).2/\OnP p m (p (m+1)).1 (p (m+1)).2:=by
 have d:=h.xlt (show m<m+1 by omega) hm
 exact⟨⟨Rat.le_refl,by grind,by grind⟩,⟨by grind,Rat.le_refl,by grind⟩⟩
theorem yad {x:Rt} (h:isUnit x=true):isRat x=true:=by simp only[isUnit,Bool.and_eq_true] at h;exact h.1
theorem yiu1 (h:Curve n p) {b:Rt} (hb:isUnit b=true) (h0:0<val b):∃ j,j+1<n/\val (p j).1<val b/\val b<=val (p (j+1)).1:=by
 obtain⟨j,hj⟩:=yuw1 h hb
 have hr:=yad hb
 have f0:val (p 0).1=0:=by rw[h.fst];show((0:Int):Rat) / ((1:Int):Rat)=0;grind
 have hi:=(yie (yyc (h.xr hj.lt)) (yyc hr)).1 hj.at'
 cases j with
 | zero=>rw[f0] at hi;grind
 | succ j =>
  have hlt:=hj.lt;exact⟨j,hlt,(yce (yyc (h.xr (by omega))) (yyc hr)).1 (hj.bef j (by omega)),hi⟩
theorem yiw1 (h:Curve n p) {a:Rt} (ha:isUnit a=true) (h1:val a<1):∃ i,i+1<n/\val (p i).1<=val a/\val a<val (p (i+1)).1:=by
 obtain⟨j,hj⟩:=yuw1 h ha
 have hr:=yad ha
 have hlt:=hj.lt
 have hn:=h.lo
 have f0:val (p 0).1=0:=by rw[h.fst];show((0:Int):Rat) / ((1:Int):Rat)=0;grind
 have f1:val (p (n-1)).1=1:=by rw[h.lst];show((1:Int):Rat) / ((1:Int):Rat)=1;grind
 have hu:=(yqh hr).1 ha
 have hi:=(yie (yyc (h.xr hj.lt)) (yyc hr)).1 hj.at'
 by_cases he:val a=val (p j).1
 ·have hjn:j+1<n:=by
   refine Classical.byContradiction fun hno=>?_
   have:j=n-1:=by omega
   rw[this,f1] at he;grind
  exact⟨j,hjn,by grind,by have:=h.xlt (show j<j+1 by omega) hjn;grind⟩
 cases j with
 | zero=>rw[f0] at hi he;grind
 | succ j=>exact⟨j,hlt,by have:=(yce (yyc (h.xr (by omega))) (yyc hr)).1 (hj.bef j (by omega));grind,by grind⟩
def NoCut (cuts:List Rt) (a b:Rt):Prop:=∀ c∈cuts,¬ (val a<val c/\val c<val b)
end
end Go.PV

/-
 Plain laws: the way through the cuts,and the values on it.
 Conditions: none.
-/
set_option linter.all false
namespace Go.PV
inductive Gd (S:Rt->Rt->Prop) (T:Rt->Rt->Rt->Prop):List Rt->Prop
 | one (x:Rt):Gd S T [x]
 | two (x y:Rt):S x y->Gd S T [x,y]
 | more (W:List Rt) (x y z:Rt):Gd S T (W++[x,y])->S y z->T x y z->Gd S T (W++[x,y,z])
def Ix (S:Rt->Rt->Prop) (T:Rt->Rt->Rt->Prop) (l:List Rt):Prop :=
 (∀ i,i+1<l.length->S (l.getD i default) (l.getD (i+1) default))/\∀ i,i+2<l.length->T (l.getD i default) (l.getD (i+1) default) (l.getD (i+2) default)
def Lt (ρ:Rat) (a b:Rt):Prop:=0<ρ*(val b-val a)
theorem Lt.trans {ρ:Rat} {a b c:Rt} (h1:Lt ρ a b) (h2:Lt ρ b c):Lt ρ a c:=by unfold Lt at *;grind
def Tu (u a b:Rt):Prop:=(val a<val u/\val a<val b)\/(val u<val a/\val b<val a)
section
variable {cuts:List Rt}
def Seg (cuts:List Rt) (a b:Rt):Prop:=(val a<val b/\NoCut cuts a b)\/(val b<val a/\NoCut cuts b a)
def Tri (cuts:List Rt) (u a b:Rt):Prop:=Tu u a b\/(a∈cuts/\((val u<val a/\val a<val b)\/(val b<val a/\val a<val u)))
end
section
variable {n:Nat} {p:Nat->Pt}
def Alt (l:List Rt):Prop:=(∀ i,i+1<l.length->val (l.getD i default)≠val (l.getD (i+1) default))/\∀ i,i+2<l.length->Tu (l.getD i default) (l.getD (i+1) default) (l.getD (i+2) default)
end
end Go.PV

/-
 Plain laws: partitions,and values that are cuts,on both sides.
 Conditions: none.
-/
set_option linter.all false
namespace Go.PV
theorem nof {P:Prop} (h:false=true):P:=by cases h
def fdI (xs:List Rt) (y:Rt):Int:=match xs.findIdx? fun x=>decide (y=x) with | some i=>(i:Int) | none => -1
theorem fdI_no {xs:List Rt} {y:Rt}:fdI xs y<0↔y∉xs:=by
 unfold fdI
 cases h:xs.findIdx? (fun x=>decide (y=x)) with
 | none =>
  have hn:=List.findIdx?_eq_none_iff.1 h
  refine⟨fun _ hm=>?_,fun _=>by decide⟩
  have:=hn y hm
  simp at this
 | some i =>
  obtain⟨hi,hp,_⟩:=List.findIdx?_eq_some_iff_getElem.1 h
  refine⟨fun hh=>by simp only at hh;omega,fun hh=>absurd ?_ hh⟩
  have:y=xs[i]:=of_decide_eq_true hp
  rw[this];exact List.getElem_mem hi
theorem yac2 {xs:List Rt} {y:Rt} (h:y∈xs):∃ i:Nat,∃ hi:i<xs.length,fdI xs y=(i:Int)/\xs[i]=y:=by
 unfold fdI
 cases h1:xs.findIdx? (fun x=>decide (y=x)) with
 | none =>
  have:=List.findIdx?_eq_none_iff.1 h1 y h
  simp at this
 | some i =>
  obtain⟨hi,hp,_⟩:=List.findIdx?_eq_some_iff_getElem.1 h1
  exact⟨i,hi,rfl,(of_decide_eq_true hp:y=xs[i]).symm⟩
theorem ybc2 (xs:List Rt) (y:Rt):fdI xs y = -1\/0<=fdI xs y:=by
 unfold fdI
 cases xs.findIdx? (fun x=>decide (y=x)) with
 | none=>exact .inl rfl
 | some i=>right;simp only;omega
theorem yig1 (xs:List Rt) (y:Rt) (hl:xs.length<=4611686018427387904):yik xs y=some (fdI xs y):=by
 have h:=yvm (xs:=xs) (body:=yhk xs y) (fun x=>decide (y=x)) (fun i=>(i:Int)) (fun i=>.inl (i:Int)) (.inr ()) (fun i x hx=>by
  have hi:=getElem?_lt hx
  simp only[yhk,ydj,hx,Option.bind_some,ydf1,yta (show i<9223372036854775807 by omega),show((i:Int)<(xs.length:Int)) from by omega,decide_true,if_true];cases decide (y=x) <;> rfl) (by simp[yhk])
 unfold yik fdI
 rw[show(0:Int)=((0:Nat):Int) from rfl,h]
 cases xs.findIdx? (fun x=>decide (y=x)) <;> rfl
theorem ytk1 (xs:List Rt) (y:Rt) (hl:xs.length<=4611686018427387904):ypb xs y=some (decide (y∈xs)):=by
 have h:=yvm (xs:=xs) (body:=yob xs y) (fun x=>decide (y=x)) (fun i=>(i:Int)) (fun i=>.inl (i:Int)) (.inr ()) (fun i x hx=>by
  have hi:=getElem?_lt hx
  simp only[yob,ydj,hx,Option.bind_some,ydf1,yta (show i<9223372036854775807 by omega),show((i:Int)<(xs.length:Int)) from by omega,decide_true,if_true]
  cases decide (y=x) <;> rfl) (by simp[yob])
 have e:yzb xs y=some (fdI xs y):=by
  unfold yzb fdI
  rw[show(0:Int)=((0:Nat):Int) from rfl,h];cases xs.findIdx? (fun x=>decide (y=x)) <;> rfl
 unfold ypb
 rw[e,Option.bind_some]
 congr 1
 have:=fdI_no (xs:=xs) (y:=y)
 by_cases hm:y∈xs
 ·have:¬ fdI xs y<0:=fun q=>this.1 q hm
  simp[hm];omega
 have:=this.2 hm
 simp[hm];omega
theorem yyc1 (xs l:List Rt) (hx:xs.length<=4611686018427387904) (hl:l.length<=4611686018427387904):yvl xs l=some (decide (∀ y∈l,y∈xs)):=by
 unfold yvl
 rw[ync l (fun x0=>ymn x0 xs) (fun y=> !decide (y∈xs)) (fun y=>by simp only[ymn,ytk1 xs y hx,Option.bind_some]) hl,Option.bind_some]
 congr 1
 rw[Bool.eq_iff_iff]
 simp
theorem ywm1 (l:List Rt) (hl:l.length<=4611686018427387904):yoj l=some (l.all isUnit):=by
 unfold yoj
 rw[ync l (fun x0=>yog x0) (fun x=> !isUnit x) (fun x=>by simp[yog,ywm]) hl]
 simp only[List.any_eq_not_all_not,Bool.not_not,Option.bind_some]
structure Prt (l:List Rt):Prop where
 lo:2<=l.length
 hi:l.length<=9
 unit:∀ x∈l,isUnit x=true
 srt:Srt l
 fst:l[0]?=some (0,1)
 lst:l[l.length-1]?=some (1,1)
theorem yju1 {l:List Rt} (hr:Rats l) (h:∀ i (hi:i+1<l.length),less l[i] l[i+1]=true):Srt l:=by
 refine List.pairwise_iff_getElem.2 ?_
 have key:∀ d i (hi:i+d+1<l.length),less l[i] l[i+d+1]=true:=by
  intro d;induction d with
  | zero=>exact fun i hi=>h i hi
  | succ d ih =>
   intro i hi;exact yxb2 (hr _ (List.getElem_mem _)) (hr _ (List.getElem_mem _)) (hr _ (List.getElem_mem _)) (ih i (by omega)) (h (i+d+1) (by omega))
 intro i j hi hj hij
 obtain⟨d,rfl⟩:∃ d,j=i+d+1:=⟨j-i-1,by omega⟩
 exact key d i hj
theorem Srt.adj {l:List Rt} (h:Srt l) {i:Nat} (hi:i+1<l.length):less l[i] l[i+1]=true:=h.get (by omega) hi
theorem yfa1 (l:List Rt) (hl:l.length<=4611686018427387904):∃ c,yrc l=some c/\ylm l=some c/\(c=true↔Prt l):=by
 unfold yrc ylm
 rw[yxc,yqe,Option.bind_some,Option.bind_some]
 cases hin:inB 2 9 (l.length:Int)
 ·exact⟨false,rfl,rfl,nof,fun h=>by
   have:inB 2 9 (l.length:Int)=true:=inB_iff.2 ⟨by have:=h.lo;omega,by have:=h.hi;omega⟩
   rw[hin] at this;cases this⟩
 obtain⟨l2,l9⟩:=inB_iff.1 hin
 have p0:idxO l 0=some l[0]:=ytf (i:=0) (by omega)
 have hw:w64 ((l.length:Int)-1)=((l.length-1:Nat):Int):=yej (by omega) (by omega)
 have p1:idxO l ((l.length-1:Nat):Int)=some l[l.length-1]:=ytf (by omega)
 have q0:l[0]?=some l[0]:=List.getElem?_eq_getElem (by omega)
 have q1:l[l.length-1]?=some l[l.length-1]:=List.getElem?_eq_getElem (by omega)
 simp only[if_true,Bool.not_true,Bool.false_eq_true,if_false,ywm1 l (by omega),Option.bind_some]
 obtain⟨y,e1,e2⟩:=yao (body:=ynn l) (fun x=>∃ i:Nat,x=(i:Int)/\i<=l.length/\(∀ j (h:j<l.length),j<i->isUnit l[j]=true)/\∀ j (h:j+1<l.length),j+1<i->less l[j] l[j+1]=true) (fun x=>l.length-x.toNat)
  (fun y=>(y=.inl false/\¬ ((∀ x∈l,isUnit x=true)/\Srt l))\/(y=.inr ()/\(∀ x∈l,isUnit x=true)/\Srt l)) (fun x ⟨i,e,hi,hu,hs⟩=>by
   subst e;by_cases hlt:i<l.length
   ·have uu:∀ q:isUnit l[i]=true,∀ j (h:j<l.length),j<i+1->isUnit l[j]=true:=fun q j h hj=>by
     by_cases hji:j<i
     ·exact hu j h hji
     have:j=i:=by omega
     subst this;exact q
    simp only[ynn,show((i:Int)<(l.length:Int)) from by omega,decide_true,if_true,ytf hlt,Option.bind_some,ywj];cases hq:isUnit l[i]
    ·right;exact⟨.inl false,by simp,.inl ⟨rfl,fun h=>by have:=h.1 _ (List.getElem_mem hlt);rw[hq] at this;cases this⟩⟩
    have uu:=uu hq;by_cases h0:i=0
    ·left
     subst h0;exact⟨((1:Nat):Int),by simp[yec],⟨1,rfl,by omega,uu,fun j _ h=>by omega⟩,by simp;omega⟩
    obtain⟨k,rfl⟩:∃ k,i=k+1:=⟨i-1,by omega⟩
    simp only[show((((k+1:Nat):Int))>0) from by omega,decide_true,if_true,Bool.not_true,Bool.false_eq_true,if_false,yej (show 0<k+1 by omega) (by omega),Nat.add_sub_cancel,ytf (show k<l.length by omega),Option.bind_some,yuf _ _ (yye (yxm (hu k (by omega) (by omega)))) (yye (yxm hq)),ynz1]
    cases h7:less l[k] l[k+1]
    ·right;exact⟨.inl false,by simp,.inl ⟨rfl,fun h=>by have:=h.2.adj hlt;rw[h7] at this;cases this⟩⟩
    left
    refine⟨((k+1+1:Nat):Int),by simp only[Bool.not_true,Bool.false_eq_true,if_false,yta (show k+1<9223372036854775807 by omega)],⟨k+1+1,rfl,by omega,uu,fun j hj hji=>?_⟩,by simp only[Int.toNat_natCast];omega⟩
    by_cases hjk:j+1<k+1
    ·exact hs j hj hjk
    have:j=k:=by omega
    subst this;exact h7
   have:i=l.length:=by omega
   subst this;right
   have hall:∀ x∈l,isUnit x=true:=fun x hx=>by
    obtain⟨j,hj,e⟩:=List.mem_iff_getElem.1 hx;rw[← e];exact hu j hj hj
   exact⟨.inr (),by simp[ynn],.inr ⟨rfl,hall,yju1 (fun x hx=>yxm (hall x hx)) fun i hi=>hs i hi hi⟩⟩) 0 ⟨0,rfl,by omega,fun j _ h=>by omega,fun j _ h=>by omega⟩
 rw[e1]
 have hr:l.all isUnit=true->∃ c,ykj l=some c/\(c=true↔Srt l):=fun hu=>by
  rw[List.all_eq_true] at hu;have et:=yye1 l;obtain⟨c,c1,c2⟩:=yvt l.length (fun i=>l.getD i default) (by omega) (by omega) (fun i hi=>by
   show isRat (l.getD i default)=true
   rw[List.getD_eq_getElem?_getD,List.getElem?_eq_getElem hi];exact yxm (hu _ (List.getElem_mem hi)))
  rw[← et] at c1;have hg:∀ i (h:i<l.length),l.getD i default=l[i]:=fun i h=>by rw[List.getD_eq_getElem?_getD,List.getElem?_eq_getElem h];rfl
  refine⟨c,c1,c2.trans ⟨fun h=>yju1 (fun x hx=>yxm (hu x hx)) fun i hi=>?_,fun h i h0 hi=>?_⟩⟩
  ·have:=h (i+1) (by omega) hi
   simp only[Nat.add_sub_cancel] at this;rw[hg i (by omega),hg (i+1) hi] at this;exact this
  obtain⟨k,rfl⟩:∃ k,i=k+1:=⟨i-1,by omega⟩
  show less (l.getD (k+1-1) default) (l.getD (k+1) default)=true
  rw[Nat.add_sub_cancel,hg k (by omega),hg (k+1) hi];exact h.adj hi
 rcases e2 with⟨rfl,hno⟩ | ⟨rfl,hu,hs⟩
 ·refine⟨false,?_,rfl,nof,fun h=>absurd ⟨h.unit,h.srt⟩ hno⟩
  cases hu:l.all isUnit
  ·rfl
  obtain⟨c,c1,c2⟩:=hr hu;rw[List.all_eq_true] at hu;have:c=false:=by
   cases c
   ·rfl
   exact absurd ⟨hu,c2.1 rfl⟩ hno
  subst this;simp only[if_true,c1,Option.bind_some,Bool.false_eq_true,if_false]
 have hu':l.all isUnit=true:=List.all_eq_true.2 hu
 obtain⟨c,c1,c2⟩:=hr hu'
 obtain rfl:=c2.2 hs
 simp only[hu',if_true,c1,Option.bind_some,p0,yil,yem,hw,p1,Sum.elim_inr,yfq,ykb,ydf1]
 refine⟨decide (l[0]=(0,1))&&decide (l[l.length-1]=(1,1)),?_,?_,?_⟩
 ·cases decide (l[0]=((0:Int),(1:Int))) <;> rfl
 ·cases decide (l[0]=((0:Int),(1:Int))) <;> rfl
 rw[Bool.and_eq_true,decide_eq_true_iff,decide_eq_true_iff]
 refine⟨fun h=>⟨by omega,by omega,hu,hs,by rw[q0,h.1],by rw[q1,h.2]⟩,fun h=>⟨?_,?_⟩⟩
 ·have:=h.fst;rw[q0] at this;exact Option.some.inj this
 have:=h.lst;rw[q1] at this;exact Option.some.inj this
section
variable {n:Nat} {p:Nat->Pt} {xs:List Rt}
def AllV (n:Nat) (p:Nat->Pt) (xs:List Rt):Prop:=∀ x∈xs,∃ y,atQ n p x=some y
def Clo (n:Nat) (p:Nat->Pt) (xs:List Rt):Prop:=∀ x∈xs,∃ y,atQ n p x=some y/\y∈xs
theorem Clo.all (h:Clo n p xs):AllV n p xs:=fun x hx=>by obtain⟨y,e,_⟩:=h x hx;exact⟨y,e⟩
structure ValOk (n:Nat) (p:Nat->Pt) (xs:List Rt) (v:List Rt×Bool):Prop where
 rats:Rats v.1
 len:v.1.length=xs.length
 yes:v.2=false->AllV n p xs/\∀ y,y∈v.1↔∃ x∈xs,atQ n p x=some y
 no:v.2=true->¬ AllV n p xs
theorem yam1 (h:Curve n p) (hx:∀ x∈xs,isUnit x=true) (hl:xs.length<=1048576):Tot (yah false (tab n p) xs) (ValOk n p xs):=by
 unfold yah
 refine Tot.bind (P:=fun y:Bool×List Rt=>ValOk n p xs (y.2,y.1)) ?_ fun y hy=>Tot.ret hy
 refine Tot.loop (fun s=>∃ i:Nat,i<=xs.length/\s.2.2=(i:Int)/\Rats s.2.1/\s.2.1.length=i/\(s.1=false->(∀ x∈xs.take i,∃ y,atQ n p x=some y)/\∀ y,y∈s.2.1↔∃ x∈xs.take i,atQ n p x=some y)/\(s.1=true->¬ AllV n p xs)) (fun s=>xs.length-s.2.2.toNat) (fun ⟨b,l,j⟩ ⟨i,hi,ej,hr,hll,hy,hn⟩=>?_) _ ⟨0,by omega,rfl,fun x hx=>by simp at hx,rfl,fun _=>⟨fun x hx=>by simp at hx,fun y=>by simp⟩,fun hh=>by cases hh⟩
 simp only at ej hr hll hy hn
 subst ej
 unfold yln
 by_cases hlt:i<xs.length
 ·obtain⟨v,e1,e2,e3⟩:=yvl1 h (hx _ (List.getElem_mem hlt)) b
  simp only[show((i:Int)<(xs.length:Int)) from by omega,decide_true,if_true,ytf hlt,Option.bind_some,e1,yta (show i<9223372036854775807 by omega)];refine Tot.guard (by simp;omega) (Tot.inl ⟨⟨i+1,hlt,rfl,fun z hz=>?_,by simp[hll],fun hv=>?_,fun hv=>?_⟩,by simp only[Int.toNat_natCast];omega⟩)
  ·rcases List.mem_append.1 hz with q | q
   ·exact hr z q
   rw[List.mem_singleton.1 q];exact e2
  ·simp only at hv
   cases ha:atQ n p xs[i] with
   | none=>rw[ha] at e3;simp only at e3;rw[hv] at e3;cases e3
   | some w =>
    rw[ha] at e3;simp only at e3
    have hb:b=false:=by rw[e3] at hv;exact hv
    obtain⟨h1,h2⟩:=hy hb;rw[List.take_succ_eq_append_getElem hlt];refine⟨fun x hx=>?_,fun z=>?_⟩
    ·rcases List.mem_append.1 hx with q | q
     ·exact h1 x q
     rw[List.mem_singleton.1 q];exact⟨w,ha⟩
    rw[e3];simp only[List.mem_append,List.mem_singleton,h2];constructor
    ·rintro(⟨x,hx,e⟩ | rfl)
     ·exact⟨x,.inl hx,e⟩
     exact⟨_,.inr rfl,ha⟩
    rintro⟨x,hx | rfl,e⟩
    ·exact .inl ⟨x,hx,e⟩
    rw[ha] at e;exact .inr (Option.some.inj e).symm
  simp only at hv
  cases ha:atQ n p xs[i] with
  | none=>exact fun hA=>by obtain⟨y,e⟩:=hA _ (List.getElem_mem hlt);rw[ha] at e;cases e
  | some w =>
   rw[ha] at e3;simp only at e3
   exact hn (by rw[e3] at hv;exact hv)
 have:i=xs.length:=by omega
 subst this
 simp only[Int.lt_irrefl,decide_false,Bool.false_eq_true,if_false]
 rw[List.take_length] at hy
 exact Tot.inr ⟨hr,hll,hy,hn⟩
structure PlaOk (n:Nat) (p:Nat->Pt) (xs:List Rt) (l:List Int):Prop where
 len:l.length=xs.length
 at':∀ i (hi:i<xs.length) (hl:i<l.length),∃ y,atQ n p xs[i]=some y/\l[i]=fdI xs y
theorem yff1 (h:Curve n p) (hx:∀ x∈xs,isUnit x=true) (hl:xs.length<=1048576):Tot (ymm (tab n p) xs) fun v=>(¬ AllV n p xs/\v=([],false))\/(AllV n p xs/\v.2=true/\PlaOk n p xs v.1):=by
 unfold ymm
 refine Tot.bind (P:=fun y:(List Int×Bool) ⊕ List Int=>match y with
  | .inl r=>¬ AllV n p xs/\r=([],false)
  | .inr l=>AllV n p xs/\PlaOk n p xs l) ?_ fun y hy=>?_
 ·refine Tot.loop (fun s=>∃ i:Nat,i<=xs.length/\s.2=(i:Int)/\s.1.length=i/\∀ k (hk:k<xs.length) (hl:k<s.1.length),∃ y,atQ n p xs[k]=some y/\s.1[k]=fdI xs y) (fun s=>xs.length-s.2.toNat) (fun ⟨l,j⟩ ⟨i,hi,ej,hll,hv⟩=>?_) _ ⟨0,by omega,rfl,rfl,fun k _ hl=>by simp at hl⟩
  simp only at ej hll hv
  subst ej;unfold ylr;by_cases hlt:i<xs.length
  ·simp only[show((i:Int)<(xs.length:Int)) from by omega,decide_true,if_true,ytf hlt,Option.bind_some,yti1 h (hx _ (List.getElem_mem hlt)),yta (show i<9223372036854775807 by omega)]
   cases ha:atQ n p xs[i] with
   | none=>exact Tot.inr ⟨fun hA=>(by obtain⟨y,e⟩:=hA _ (List.getElem_mem hlt);rw[ha] at e;cases e),rfl⟩
   | some y =>
    simp only[unO,Bool.not_true,Bool.false_eq_true,if_false,yig1 xs y (by omega),Option.bind_some];refine Tot.guard (by simp;omega) (Tot.inl ⟨⟨i+1,hlt,rfl,by simp[hll],fun k hk hl=>?_⟩,by simp only[Int.toNat_natCast];omega⟩)
    rcases Nat.lt_or_ge k i with hki | hki
    ·obtain⟨z,z1,z2⟩:=hv k hk (by omega)
     exact⟨z,z1,by simp only;rw[List.getElem_append_left (by omega)];exact z2⟩
    simp only[List.length_append,List.length_singleton] at hl;have:k=i:=by omega
    subst this;refine⟨y,ha,?_⟩
    simp only
    rw[List.getElem_append_right (by omega)];simp
  have:i=xs.length:=by omega
  subst this;simp only[Int.lt_irrefl,decide_false,Bool.false_eq_true,if_false];refine Tot.inr ⟨fun x hx=>?_,hll,hv⟩
  obtain⟨k,hk,e⟩:=List.mem_iff_getElem.1 hx;obtain⟨y,e1,_⟩:=hv k hk (by omega)
  exact⟨y,by rw[← e];exact e1⟩
 cases y with
 | inl r=>exact Tot.ret (.inl hy)
 | inr l=>exact Tot.ret (.inr ⟨hy.1,rfl,hy.2⟩)
theorem PlaOk.clo {l:List Int} (h:PlaOk n p xs l):(-1∉l)↔Clo n p xs:=by
 constructor
 ·intro hno x hx
  obtain⟨i,hi,e⟩:=List.mem_iff_getElem.1 hx;have hil:i<l.length:=by rw[h.len];exact hi
  obtain⟨y,e1,e2⟩:=h.at' i hi hil
  refine⟨y,by rw[← e];exact e1,Classical.byContradiction fun hm=>hno ?_⟩
  have:=fdI_no.2 hm
  rcases ybc2 xs y with q | q
  ·rw[← q,← e2];exact List.getElem_mem hil
  omega
 intro hc hm
 obtain⟨i,hi,e⟩:=List.mem_iff_getElem.1 hm
 have hix:i<xs.length:=by rw[← h.len];exact hi
 obtain⟨y,e1,e2⟩:=h.at' i hix hi
 obtain⟨z,z1,z2⟩:=hc _ (List.getElem_mem hix)
 rw[e1] at z1
 obtain rfl:=Option.some.inj z1
 rw[e] at e2
 have:=fdI_no (xs:=xs) (y:=y)
 exact this.1 (by omega) z2
theorem yjw1 (l:List Int) (x:Int) (hl:l.length<=4611686018427387904):ykv l x=some (decide (x∈l)):=by
  have h:=yvm (xs:=l) (body:=ypp l x) (fun y=>y==x) (fun i=>(i:Int)) (fun i=>.inl true) (.inr ()) (fun i y hx=>by
    have hi:=getElem?_lt hx
    simp only[ypp,ydj,hx,Option.bind_some,yta (show i<9223372036854775807 by omega),show((i:Int)<(l.length:Int)) from by omega,decide_true,if_true];cases (y==x) <;> rfl) (by simp[ypp])
  unfold ykv;rw[show(0:Int)=((0:Nat):Int) from rfl,h];cases hf:l.findIdx? (fun y=>y==x) with
  | none =>
    have hn:=List.findIdx?_eq_none_iff.1 hf
    have:x∉l:=fun hm=>by have:=hn x hm;simp at this
    simp[this,ycs]
  | some i =>
    obtain⟨hi,hp,_⟩:=List.findIdx?_eq_some_iff_getElem.1 hf
    have : x ∈ l := by have e : l[i] = x := by simpa using hp
                       rw[← e];exact List.getElem_mem hi
    simp[this]
theorem yxm1 (h:Curve n p) (hx:∀ x∈xs,isUnit x=true) (hl:xs.length<=1048576) {b:Bool} {S:List Rt} (hS:ybg (tab n p) b=some S) (hSl:S.length<=1048576) :
  Tot (yge (tab n p) xs b) fun r=>(¬ AllV n p xs/\r=(false,false))\/(AllV n p xs/\r.2=true/\(r.1=true↔(∀ x∈S,x∈xs)/\Clo n p xs)):=by
 unfold yge
 refine(yff1 h hx hl).bind fun v hv=>?_
 rcases hv with⟨h1,rfl⟩ | ⟨h1,h2,h3⟩
 ·exact Tot.ret (.inl ⟨h1,rfl⟩)
 rw[h2,hS]
 simp only[Bool.not_true,Bool.false_eq_true,if_false,Option.bind_some]
 refine Tot.bind (P:=fun y:(Bool×Bool) ⊕ Unit=>match y with
  | .inl r=>r=(false,true)/\¬ ∀ x∈S,x∈xs
  | .inr _=>∀ x∈S,x∈xs) ?_ fun y hy=>?_
 ·refine Tot.loop (fun x:Int=>∃ i:Nat,x=(i:Int)/\i<=S.length/\∀ x∈S.take i,x∈xs) (fun x=>S.length-x.toNat) (fun x ⟨i,e,hi,ha⟩=>?_) 0 ⟨0,rfl,by omega,fun x hx=>by simp at hx⟩
  subst e;unfold ymr;by_cases hlt:i<S.length
  ·simp only[show((i:Int)<(S.length:Int)) from by omega,decide_true,if_true,ytf hlt,Option.bind_some,yig1 xs _ (show xs.length<=4611686018427387904 by omega),yta (show i<9223372036854775807 by omega)]
   refine Tot.ite (fun q=>Tot.inr ⟨rfl,fun hh=>fdI_no.1 (of_decide_eq_true q) (hh _ (List.getElem_mem hlt))⟩) fun q=>Tot.inl ⟨⟨i+1,rfl,by omega,fun x hx=>?_⟩,by simp only[Int.toNat_natCast];omega⟩
   rw[List.take_succ_eq_append_getElem hlt] at hx;rcases List.mem_append.1 hx with q' | q'
   ·exact ha x q'
   rw[List.mem_singleton.1 q'];exact Classical.byContradiction fun hm=>of_decide_eq_false q (fdI_no.2 hm)
  have:i=S.length:=by omega
  subst this;rw[List.take_length] at ha;simp only[Int.lt_irrefl,decide_false,Bool.false_eq_true,if_false];exact Tot.inr ha
 cases y with
 | inl r =>
  obtain⟨rfl,hno⟩:=hy;exact Tot.ret (.inr ⟨h1,rfl,nof,fun hh=>absurd hh.1 hno⟩)
 | inr u =>
  simp only[Sum.elim_inr,yon];rw[yjw1 v.1 (-1) (by rw[h3.len];omega),Option.bind_some]
  refine Tot.ret (.inr ⟨h1,rfl,?_⟩)
  have:=h3.clo
  simp only[Bool.not_eq_true',decide_eq_false_iff_not];rw[this];exact⟨fun q=>⟨hy,q⟩,fun q=>q.2⟩
theorem yuk1 (h:Curve n p) (hm:yae (tab n p)=some true) (hp:Prt xs) (hi:yrc xs=some true) :
  Tot (yud (tab n p) xs) fun r=>(¬ AllV n p xs/\r=(false,false))\/(AllV n p xs/\r.2=true/\(r.1=true↔Clo n p xs)):=by
 have h9:=hp.hi
 unfold yud
 simp only[hm,hi,Option.bind_some,Bool.not_true,Bool.false_eq_true,if_false]
 refine(yam1 h hp.unit (by omega)).bind fun v hv=>?_
 rw[yyc1 xs v.1 (by omega) (by rw[hv.len];omega),Option.bind_some]
 refine Tot.ite (fun q=>Tot.ret (.inl ⟨hv.no q,rfl⟩)) fun q=>?_
 obtain⟨h1,h2⟩:=hv.yes q
 refine Tot.ret (.inr ⟨h1,rfl,?_⟩)
 rw[decide_eq_true_iff]
 constructor
 ·intro hh x hx
  obtain⟨y,e⟩:=h1 x hx;exact⟨y,e,hh y ((h2 y).2 ⟨x,hx,e⟩)⟩
 intro hh y hy
 obtain⟨x,hx,e⟩:=(h2 y).1 hy
 obtain⟨z,z1,z2⟩:=hh x hx
 rw[e] at z1
 rw[Option.some.inj z1];exact z2
end
end Go.PV

/-
 Plain laws: points between pieces of the same slope left out,on both sides.
 Conditions: none.
-/
set_option linter.all false
namespace Go.PV
structure Zig (n:Nat) (p:Nat->Pt):Prop where
 lo:2<=n
 hi:n<=100000
 x:∀ i,i<n->coord (p i).1=true
 y:∀ i,i<n->coord (p i).2=true
 up:∀ i,0<i->i<n->less (p (i-1)).1 (p i).1=true
theorem Zig.of_map {n:Nat} {p:Nat->Pt} (h:isMapT n p) (h2:2<=n) (hn:n<=12):Zig n p:=⟨h2,by omega,fun i hi=>(h.1 i hi).1,fun i hi=>(h.1 i hi).2,h.2.1⟩
def kpS (n:Nat) (p:Nat->Pt) (i:Nat):Bool:=i==0||i+1==n || !decide (slopeQ (p (i-1)) (p i)=slopeQ (p i) (p (i+1)))
def simI (n:Nat) (p:Nat->Pt) (k:Nat):List Nat:=(List.range k).filter (kpS n p)
def simL (n:Nat) (p:Nat->Pt):List Pt:=(simI n p n).map p
theorem yjg1 (n:Nat) (p:Nat->Pt) (k:Nat):simI n p (k+1)=if kpS n p k=true then simI n p k++[k] else simI n p k:=by
 unfold simI
 rw[List.range_succ,List.filter_append]
 by_cases h:kpS n p k=true
 ·rw[if_pos h];simp[List.filter_cons,h]
 rw[if_neg h];simp[List.filter_cons,h]
theorem yzc1 (n:Nat) (p:Nat->Pt) (k:Nat):(simI n p k).length<=k:=by
 unfold simI
 have:=List.length_filter_le (kpS n p) (List.range k)
 rw[List.length_range] at this
 exact this
section
variable {n:Nat} {p:Nat->Pt}
theorem Zig.piece (h:Zig n p) {i:Nat} (hi:i+1<n):∃ u v,SlopeOk (p i) (p (i+1)) u v :=
 yjk1 (h.x i (by omega)) (ybd (h.y i (by omega))) (h.x (i+1) hi) (ybd (h.y (i+1) hi)) (h.up (i+1) (by omega) hi)
theorem yeq1 (p:Nat->Pt):simI n p 1=[0]:=by simp[simI,List.range_succ,kpS]
theorem yfq1 (h:Zig n p):yim (tab n p)=some (slopesT n p):=by
 have h2:=h.lo
 have hn:=h.hi
 have hx:=yyz (body:=yxf (tab n p)) (n-1) (fun l i=>(false,l,((i+1:Nat):Int))) (fun i=>slopeQ (p i) (p (i+1))) (slopesT n p) (fun i hi=>by
  obtain⟨u,v,hs⟩:=h.piece (i:=i) (by omega)
  simp only[yxf,yab,yej (show 0<i+1 by omega) (by omega),Nat.add_sub_cancel,yua (show i<n by omega),yua (show i+1<n by omega),show(((i+1:Nat):Int)<(n:Int)) from by omega,decide_true,if_true,Option.bind_some,ywu (h.x i (by omega)) (ybd (h.y i (by omega))) (h.x (i+1) (by omega)) (ybd (h.y (i+1) (by omega))) hs false,yta (show i+1<9223372036854775807 by omega)]
  rw[yea (by simp;omega)]) (by
  simp only[yxf,yab,show ¬ (((n-1+1:Nat):Int)<(n:Int)) from by omega,decide_false,Bool.false_eq_true,if_false];rfl)
 unfold yim
 rw[show(1:Int)=((0+1:Nat):Int) from rfl,hx];rfl
theorem ykw (h:Zig n p):ygq (tab n p)=some (simL n p):=by
 have h2:=h.lo
 have hn:=h.hi
 have hw:w64 ((n:Int)-1)=((n-1:Nat):Int):=yej (by omega) (by omega)
 have hx:=ydc (body:=ygk (tab n p) (slopesT n p)) (n-2) (fun i=>((simI n p (i+1)).map p,((i+1:Nat):Int))) ((simI n p (n-1)).map p) (fun i hi=>by
  have hlen:=yzc1 n p (i+1)
  simp only[ygk,yab,hw,show(((i+1:Nat):Int)<((n-1:Nat):Int)) from by omega,decide_true,if_true,yej (show 0<i+1 by omega) (by omega),Nat.add_sub_cancel,slopesT,yua (show i<n-1 by omega),yua (show i+1<n-1 by omega),yua (show i+1<n by omega),Option.bind_some,ydf1,yta (show i+1<9223372036854775807 by omega)]
  rw[yjg1 n p (i+1)];have hk:kpS n p (i+1) = !decide (slopeQ (p i) (p (i+1))=slopeQ (p (i+1)) (p (i+1+1))):=by
   unfold kpS;have e1:(i+1==0)=false:=by simp
   have e2:(i+1+1==n)=false:=by simp;omega
   rw[e1,e2];simp
  rw[hk];cases hd:decide (slopeQ (p i) (p (i+1))=slopeQ (p (i+1)) (p (i+1+1)))
  ·simp only[Bool.not_false,if_true]
   rw[yea (by simp;omega),List.map_append];rfl
  ·simp only[Bool.not_true,Bool.false_eq_true,if_false]) (by
  simp only[ygk,yab,hw,show n-2+1=n-1 by omega,Int.lt_irrefl,decide_false,Bool.false_eq_true,if_false])
 unfold ygq
 rw[yfq1 h,Option.bind_some,yhy (by omega),Option.bind_some]
 rw[show(0:Nat)+1=1 from rfl,yeq1] at hx
 have hx:loopO (ygk (tab n p) (slopesT n p)) ([p 0],1)=some ((simI n p (n-1)).map p):=hx
 rw[hx,Option.bind_some]
 unfold yeq
 have hlen:=yzc1 n p (n-1)
 rw[yab,hw,yua (show n-1<n by omega),Option.bind_some,yea (by simp;omega)]
 have hk:kpS n p (n-1)=true:=by
  unfold kpS;have:(n-1+1==n)=true:=by simp;omega
  rw[this];simp
 have:=yjg1 n p (n-1)
 rw[show n-1+1=n by omega,hk,if_pos rfl] at this
 unfold simL
 rw[this,List.map_append];rfl
theorem yym1 {body:List Pt×Int->Option ((List Pt×Int) ⊕ List Pt)} (h:Zig n p)
  (hb:∀ (l:List Pt) (i:Nat),l.length<=200000->i+1<n->body (l,((i+1:Nat):Int))=some (.inl (if kpS n p (i+1)=true then l++[p (i+1)] else l,((i+1+1:Nat):Int)))) (he:∀ l,body (l,(n:Int))=some (.inr l)):loopO body ([p 0],1)=some (simL n p):=by
 have h2:=h.lo
 have hn:=h.hi
 have hx:=ydc (body:=body) (n-1) (fun i=>((simI n p (i+1)).map p,((i+1:Nat):Int))) (simL n p) (fun i hi=>by
  have hlen:=yzc1 n p (i+1)
  rw[hb _ i (by simp;omega) (by omega),yjg1 n p (i+1)]
  cases kpS n p (i+1)
  ·simp
  ·simp) (by
  show body (_,((n-1+1:Nat):Int))=_
  rw[show n-1+1=n by omega,he];rfl)
 rw[show(0:Nat)+1=1 from rfl,yeq1] at hx
 exact hx
theorem ykb1 (h:Zig n p):ypj (tab n p)=some (simL n p):=by
 have h2:=h.lo
 have hn:=h.hi
 unfold ypj
 rw[yhy (by omega),Option.bind_some,yym1 (body:=yzg (tab n p)) h (fun l i hl hi=>?_) fun l=>?_]
 ·rfl
 ·obtain⟨u,v,hs⟩:=h.piece (i:=i) (by omega)
  have hw:w64 (((i+1:Nat):Int)+1)=((i+1+1:Nat):Int):=yta (by omega)
  simp only[yzg,yab,show(((i+1:Nat):Int)<(n:Int)) from by omega,decide_true,if_true,hw];by_cases hlt:i+1+1<n
  ·obtain⟨u2,v2,hs2⟩:=h.piece hlt
   have hk:kpS n p (i+1) = !decide (slopeQ (p i) (p (i+1))=slopeQ (p (i+1)) (p (i+1+1))):=by
    unfold kpS;have e1:(i+1==0)=false:=by simp
    have e2:(i+1+1==n)=false:=by simp;omega
    rw[e1,e2];simp
   have hne:((((i+1+1:Nat):Int)==(n:Int))=false):=by simp;omega
   simp only[hne,Bool.false_eq_true,if_false,yej (show 0<i+1 by omega) (show i+1<4611686018427387904 by omega),Nat.add_sub_cancel,yua (show i<n by omega),yua hi,yua hlt,Option.bind_some,yfi (h.x i (by omega)) (ybd (h.y i (by omega))) (h.x (i+1) hi) (ybd (h.y (i+1) hi)) hs,yfi (h.x (i+1) hi) (ybd (h.y (i+1) hi)) (h.x (i+1+1) hlt) (ybd (h.y (i+1+1) hlt)) hs2,ydf1,hk]
   cases decide (slopeQ (p i) (p (i+1))=slopeQ (p (i+1)) (p (i+1+1)))
   ·simp only[Bool.not_false,if_true]
    rw[yea (by simp;omega)]
   simp only[Bool.not_true,Bool.false_eq_true,if_false]
  have e:i+1+1=n:=by omega
  have hk:kpS n p (i+1)=true:=by
   unfold kpS;have e2:(i+1+1==n)=true:=by simp;omega
   rw[e2];simp
  simp only[e,hk,beq_self_eq_true,if_true,Option.bind_some,yua hi];rw[yea (by simp;omega)]
 simp only[yzg,yab,Int.lt_irrefl,decide_false,Bool.false_eq_true,if_false]
theorem sim_mem {i:Nat}:i∈simI n p n↔i<n/\kpS n p i=true:=by
 unfold simI
 rw[List.mem_filter,List.mem_range]
end
end Go.PV

/-
 Plain laws: Markov partitions on both sides.
 Conditions: none.
-/
set_option linter.all false
namespace Go.PV
theorem yku1 (f:List Pt) (hf:f.length<=1048576):ydq f=some (f.map (·.1)):=by
 have hx:=ydc (body:=ysh f) f.length (fun i=>((f.take i).map (·.1),(i:Int))) (f.map (·.1)) (fun i hi=>by
  simp only[ysh,show((i:Int)<(f.length:Int)) from by omega,decide_true,if_true,ytf hi,Option.bind_some];rw[yea (by simp;omega),yta (show i<9223372036854775807 by omega),List.take_succ_eq_append_getElem hi,List.map_append]
  rfl) (by
  simp only[ysh,Int.lt_irrefl,decide_false,Bool.false_eq_true,if_false,List.take_length])
 have hx:loopO (ysh f) ([],0)=some (f.map (·.1)):=hx
 unfold ydq
 rw[hx];rfl
theorem yky (l:List Rt) (hl:l.length<=1048576):ynr l=some (l.zip l.tail):=yqk1 l hl
section
variable {n:Nat} {p:Nat->Pt}
def simX (n:Nat) (p:Nat->Pt):List Rt:=(simL n p).map (·.1)
theorem simX_mem {x:Rt}:x∈simX n p↔∃ i,i<n/\kpS n p i=true/\(p i).1=x:=by
 unfold simX simL
 rw[List.map_map,List.mem_map]
 constructor
 ·rintro⟨i,hi,e⟩
  obtain⟨h1,h2⟩:=sim_mem.1 hi;exact⟨i,h1,h2,e⟩
 rintro⟨i,h1,h2,e⟩
 exact⟨i,sim_mem.2 ⟨h1,h2⟩,e⟩
theorem yvk1:(simX n p).length<=n:=by
 unfold simX simL
 rw[List.length_map,List.length_map]
 exact yzc1 n p n
theorem ykw1 {x:Rt} (h:x∈cutsT n p) (hn:2<=n):x∈simX n p:=by
 obtain⟨m,hm,e⟩:=List.mem_map.1 h
 obtain⟨m1,m2,m3⟩:=tnL_mem.1 hm
 refine simX_mem.2 ⟨m,by omega,?_,e⟩
 unfold kpS
 have:decide (slopeQ (p (m-1)) (p m)=slopeQ (p m) (p (m+1)))=false:=by
  refine decide_eq_false fun q=>m3 ?_
  unfold wayOf;rw[show m-1+1=m by omega,q]
 rw[this];simp
theorem ykg1 (hm:isMapT n p) (h2:2<=n) (hn:n<=12):yer (tab n p)=some (cutsT n p)/\yij (tab n p)=some (cutsT n p)/\(∀ x∈cutsT n p,isUnit x=true)/\(cutsT n p).length<=12:=by
 obtain⟨cuts,e1,e2,e3,e4⟩:=yaj1 hm h2 hn
 obtain⟨e,_⟩:=yhw1 hm h2 hn e2
 subst e
 exact⟨e1,e2,e3,e4⟩
def stS (n:Nat) (p:Nat->Pt) (b:Bool):List Rt:=if b=true then simX n p else cutsT n p
theorem ygf1 (hm:isMapT n p) (h2:2<=n) (hn:n<=12) (b:Bool):ybg (tab n p) b=some (stS n p b):=by
 unfold ybg stS
 cases b
 ·rw[if_neg (by simp),if_neg (by simp),(ykg1 hm h2 hn).2.1];rfl
 rw[if_pos rfl,if_pos rfl,ykb1 (.of_map hm h2 hn),Option.bind_some,ydq1 _ (by have:=yvk1 (n:=n) (p:=p);unfold simX at this;rw[List.length_map] at this;omega)];rfl
theorem ylw1 (hm:isMapT n p) (h2:2<=n) (hn:n<=12) (b:Bool):(stS n p b).length<=12/\∀ x∈stS n p b,isUnit x=true:=by
 have h:=Curve.of_map hm h2 hn
 obtain⟨_,_,t3,t4⟩:=ykg1 hm h2 hn
 unfold stS
 cases b
 ·rw[if_neg (by simp)];exact⟨t4,t3⟩
 rw[if_pos rfl]
 refine⟨by have:=yvk1 (n:=n) (p:=p);omega,fun x hx=>?_⟩
 obtain⟨i,hi,_,rfl⟩:=simX_mem.1 hx
 exact(yqh (h.xr hi)).2 (yzu (h.x i hi))
theorem ylu1 (b:Bool) (h2:2<=n) {x:Rt} (h:x∈cutsT n p):x∈stS n p b:=by
 unfold stS
 cases b
 ·rw[if_neg (by simp)];exact h
 rw[if_pos rfl];exact ykw1 h h2
def Mk (n:Nat) (p:Nat->Pt) (b:Bool) (xs:List Rt):Prop:=(∀ x∈stS n p b,x∈xs)/\Clo n p xs
theorem Mk.weak {b:Bool} {xs:List Rt} (h:Mk n p b xs) (h2:2<=n):Mk n p false xs:=⟨fun x hx=>h.1 x (ylu1 b h2 (by simpa [stS] using hx)),h.2⟩
end
structure MkIn (f:List Pt) (xs:List Rt) (n:Nat) (p:Nat->Pt):Prop where
 ff:f=tab n p
 lo:2<=n
 hi:n<=12
 map:isMapT n p
 prt:Prt xs
 im:yae f=some true
 sm:yle f=some true
 ip:yrc xs=some true
 sp:ylm xs=some true
theorem ymw1 (f:List Pt) (xs:List Rt) (hf:f.length<=4611686018427387904) (hx:xs.length<=4611686018427387904) :
  (yud f xs=some (false,false)/\yqd f xs=some false)\/(yqd f xs=some true/\∃ n p,MkIn f xs n p):=by
 obtain⟨c,c1,c2,c3⟩:=yiy f hf
 obtain⟨d,d1,d2,d3⟩:=yfa1 xs hx
 unfold yud yqd
 rw[c1,c2,d1,d2]
 cases c
 ·exact .inl ⟨rfl,rfl⟩
 cases d
 ·exact .inl ⟨rfl,rfl⟩
 obtain⟨n,p,rfl,h2,hn,hm⟩:=c3 rfl
 exact .inr ⟨rfl,n,p,rfl,h2,hn,hm,d3.1 rfl,c2,c1,d1,d2⟩
def MkAns (n:Nat) (p:Nat->Pt) (xs:List Rt) (b:Bool) (r:Bool×Bool):Prop:=(¬ AllV n p xs/\r=(false,false))\/(AllV n p xs/\r.2=true/\(r.1=true↔Mk n p b xs))
theorem MkAns.same {n:Nat} {p:Nat->Pt} {xs:List Rt} {b:Bool} {r s:Bool×Bool} (h:MkAns n p xs b r) (k:MkAns n p xs b s):r=s:=by
 rcases h with⟨h1,rfl⟩ | ⟨h1,h2,h3⟩
 ·rcases k with⟨_,rfl⟩ | ⟨k1,_⟩
  ·rfl
  exact absurd k1 h1
 rcases k with⟨k1,_⟩ | ⟨k1,k2,k3⟩
 ·exact absurd h1 k1
 exact Prod.ext (Bool.eq_iff_iff.2 (h3.trans k3.symm)) (h2.trans k2.symm)
section
variable {f:List Pt} {xs:List Rt} {n:Nat} {p:Nat->Pt}
theorem MkIn.cur (h:MkIn f xs n p):Curve n p:=.of_map h.map h.lo h.hi
theorem MkIn.yc (h:MkIn f xs n p):∀ i,i<n->coord (p i).2=true:=fun i hi=>(h.map.1 i hi).2
theorem MkIn.mkv (h:MkIn f xs n p) (b:Bool):Tot (yge f xs b) (MkAns n p xs b):=by
 have h9:=h.prt.hi
 rw[h.ff]
 exact yxm1 h.cur h.prt.unit (by omega) (ygf1 h.map h.lo h.hi b) (by have:=(ylw1 h.map h.lo h.hi b).1;omega)
theorem MkIn.keep (h:MkIn f xs n p):Tot (yud f xs) fun r=>(¬ AllV n p xs/\r=(false,false))\/(AllV n p xs/\r.2=true/\(r.1=true↔Clo n p xs)):=by
 rw[h.ff]
 exact yuk1 h.cur (by rw[← h.ff];exact h.im) h.prt h.ip
theorem MkIn.isMarkov (h:MkIn f xs n p):Tot (yfe f xs) (MkAns n p xs false):=by
 have h9:=h.prt.hi
 obtain⟨t1,_,t3,t4⟩:=ykg1 h.map h.lo h.hi
 unfold yfe
 refine h.keep.bind fun v hv=>?_
 rw[h.ff,t1,Option.bind_some,yyc1 xs _ (by omega) (by omega)]
 rcases hv with⟨v1,rfl⟩ | ⟨v1,v2,v3⟩
 ·exact Tot.ret (.inl ⟨v1,rfl⟩)
 rw[v2]
 cases hv1:v.1
 ·refine Tot.ret (.inr ⟨v1,rfl,nof,fun q=>?_⟩)
  rw[v3.2 q.2] at hv1;cases hv1
 refine Tot.ret (.inr ⟨v1,rfl,?_⟩)
 simp only[decide_eq_true_iff]
 exact⟨fun q=>⟨by simpa [stS] using q,v3.1 hv1⟩,fun q=>by simpa [stS] using q.1⟩
theorem MkIn.isLinear (h:MkIn f xs n p):Tot (yxb f xs) (MkAns n p xs true):=by
 have h9:=h.prt.hi
 have hz:=Zig.of_map h.map h.lo h.hi
 have h12:=h.hi
 have hsl:(simL n p).length<=n:=by unfold simL;rw[List.length_map];exact yzc1 n p n
 unfold yxb
 refine h.keep.bind fun v hv=>?_
 rw[h.ff,ykw hz,Option.bind_some,yku1 _ (by omega),Option.bind_some,yyc1 xs _ (by omega) (by rw[List.length_map];omega)]
 rcases hv with⟨v1,rfl⟩ | ⟨v1,v2,v3⟩
 ·exact Tot.ret (.inl ⟨v1,rfl⟩)
 rw[v2]
 cases hv1:v.1
 ·refine Tot.ret (.inr ⟨v1,rfl,nof,fun q=>?_⟩)
  rw[v3.2 q.2] at hv1;cases hv1
 refine Tot.ret (.inr ⟨v1,rfl,?_⟩)
 simp only[decide_eq_true_iff]
 exact⟨fun q=>⟨by simpa [stS,simX] using q,v3.1 hv1⟩,fun q=>by simpa [stS,simX] using q.1⟩
theorem MkIn.mkLinear (h:MkIn f xs n p):Tot (yqj f xs) (MkAns n p xs true):=by
 unfold yqj
 refine(h.mkv false).bind fun v hv=>?_
 rcases hv with⟨v1,rfl⟩ | ⟨v1,v2,v3⟩
 ·exact Tot.ret (.inl ⟨v1,rfl⟩)
 rw[v2]
 simp only[Bool.not_true,Bool.false_eq_true,if_false]
 refine(h.mkv true).bind fun w hw=>?_
 rcases hw with⟨w1,_⟩ | ⟨w1,w2,w3⟩
 ·exact absurd v1 w1
 refine Tot.ret (.inr ⟨v1,rfl,?_⟩)
 rw[Bool.and_eq_true,v3,w3]
 exact⟨fun q=>q.2,fun q=>⟨q.weak h.lo,q⟩⟩
end
theorem yws1 {f:List Pt} {xs:List Rt} (h:yud f xs=some (false,false)):yfe f xs=some (false,false)/\yxb f xs=some (false,false):=by
 unfold yfe yxb
 rw[h]
 exact⟨rfl,rfl⟩
theorem yav (f:List Pt) (xs:List Rt) (hf:f.length<=4611686018427387904) (hx:xs.length<=4611686018427387904) :
  (yfe f xs=some (false,false)/\yxb f xs=some (false,false)/\ykd f xs=some (false,false)/\yqd f xs=some false) \/
  ∃ n p r s,MkIn f xs n p/\MkAns n p xs false r/\MkAns n p xs true s/\yfe f xs=some r/\yxb f xs=some s/\ykd f xs=some s/\yqd f xs=some true/\yge f xs false=some r/\yqj f xs=some s:=by
 rcases ymw1 f xs hf hx with⟨h1,h2⟩ | ⟨h2,n,p,h⟩
 ·obtain⟨a,b⟩:=yws1 h1
  refine .inl ⟨a,b,?_,h2⟩
  ·unfold ykd;rw[h2];rfl
 obtain⟨r,e1,r1⟩:=h.isMarkov
 obtain⟨r',e2,r2⟩:=h.mkv false
 obtain⟨s,e3,s1⟩:=h.isLinear
 obtain⟨s',e4,s2⟩:=h.mkLinear
 obtain rfl:=r1.same r2
 obtain rfl:=s1.same s2
 refine .inr ⟨n,p,r,s,h,r1,s1,e1,e3,?_,h2,e2,e4⟩
 ·unfold ykd;rw[h2,Option.bind_some];simp only[Bool.not_true,Bool.false_eq_true,if_false,e4,Option.bind_some]
end Go.PV

/-
 Plain laws: graphs of Markov partitions on both sides.
 Conditions: none.
-/
set_option linter.all false
namespace Go.PV
section
variable {n:Nat} {p:Nat->Pt}
theorem ybm1 (h:Curve n p) {m:Nat} (hm:m+1<n) {a b u v:Rt} (ha:OnP p m a u) (hb:OnP p m b v) {σ:Rat} (hs:0<=σ*dy p m) (hab:val a<=val b):0<=σ*(val v-val u):=by
 have d:=h.xlt (show m<m+1 by omega) hm
 have e1:=ha.eq
 have e2:=hb.eq
 have key:σ*(val v-val u)*(val (p (m+1)).1-val (p m).1)=σ*dy p m*(val b-val a):=by unfold dy;grind
 refine Classical.byContradiction fun hno=>?_
 have h1:=Rat.mul_nonneg hs (show 0<=val b-val a by grind)
 have h2:=Rat.mul_lt_mul_of_pos_right (show σ*(val v-val u)<0 by grind) (show 0<val (p (m+1)).1-val (p m).1 by grind)
 grind
theorem yba2 (h:Curve n p) {σ:Rat} {i:Nat} {a u:Rt} (ha:OnP p i a u):∀ (k:Nat) {b v:Rt},i+k+1<n->OnP p (i+k) b v->val a<=val b->(∀ m,i<=m->m<=i+k->0<=σ*dy p m)->0<=σ*(val v-val u)
 | 0,b,v,hn,hb,hab,hs=>ybm1 h hn ha hb (hs i (Nat.le_refl _) (Nat.le_refl _)) hab
 | k+1,b,v,hn,hb,hab,hs=>by
  have hn1:i+k+1<n:=by omega
  have c1:=(yaa2 h hn1).2
  have c2:=(yaa2 h hn).1
  have hsj:=hs (i+(k+1)) (by omega) (Nat.le_refl _)
  have hk:val a<=val (p (i+1)).1:=ha.hi
  have hx:val (p (i+1)).1<=val (p (i+k+1)).1:=by
   by_cases h0:k=0
   ·subst h0;exact Rat.le_refl
   have:=h.xlt (show i+1<i+k+1 by omega) (by omega);grind
  have h1:=yba2 h ha k hn1 c1 (by grind) (fun m h1 h2=>hs m h1 (by omega))
  have h2:=ybm1 h hn c2 hb hsj hb.lo;rw[show i+(k+1)=i+k+1 by omega] at h2;grind
theorem ygq1 (h:Curve n p) {m:Nat} (hm:m+1<n):(wayOf p m=1/\0<dy p m)\/(wayOf p m = -1/\dy p m<0)\/(wayOf p m=0/\dy p m=0):=by
 obtain⟨u,v,hp⟩:=h.piece hm
 have v4:=yyu (h.yr hm) (h.yr (show m<n by omega)) hp.up
 have hy:dy p m=val u:=by rw[v4];rfl
 have pu:=yyc hp.ru
 have e:=ypg pu
 have cu:=yls pu
 have s1:=hp.sg.1
 have s2:=hp.sg.2
 rw[hy]
 unfold wayOf sg
 by_cases h1:0<(slopeQ (p m) (p (m+1))).1
 ·left
  rw[if_pos h1];refine⟨rfl,?_⟩
  have c1:(0:Rat)<(u.1:Rat):=by exact_mod_cast s1.1 h1
  refine Classical.byContradiction fun hno=>?_
  have:=Rat.mul_nonneg (show 0 <= -val u by grind) (show 0<=(u.2:Rat) by grind)
  grind
 by_cases h2:(slopeQ (p m) (p (m+1))).1<0
 ·right;left
  rw[if_neg h1,if_pos h2];refine⟨rfl,?_⟩
  have c1:(u.1:Rat)<(0:Rat):=by exact_mod_cast s2.1 h2
  refine Classical.byContradiction fun hno=>?_
  have:=Rat.mul_nonneg (show 0<=val u by grind) (show 0<=(u.2:Rat) by grind)
  grind
 right;right
 rw[if_neg h1,if_neg h2]
 refine⟨rfl,?_⟩
 have:u.1=0:=by
  have a1:=mt s1.2 h1;have a2:=mt s2.2 h2;omega
 unfold val
 rw[this]
 grind
theorem yhq1 (h:Curve n p) {a b:Rt} (ha:isUnit a=true) (hb:isUnit b=true) (hab:val a<val b) (hno:NoCut (cutsT n p) a b) :
  ∃ σ:Rat,(σ=1\/σ = -1)/\∀ x y w z,isUnit x=true->isUnit w=true->atQ n p x=some y->atQ n p w=some z->val a<=val x->val x<=val w->val w<=val b->0<=σ*(val z-val y):=by
 have ra:=(yqh (yad ha)).1 ha
 have rb:=(yqh (yad hb)).1 hb
 obtain⟨i,hi,i1,i2⟩:=yiw1 h ha (by grind)
 obtain⟨j,hj,j1,j2⟩:=yiu1 h hb (by grind)
 have hlt:∀ {x y:Nat},x<=y->y<n->val (p x).1<=val (p y).1:=fun {x y} hxy hy=>by
  by_cases h0:x=y
  ·rw[h0];exact Rat.le_refl
  have:=h.xlt (show x<y by omega) hy;grind
 have hij:i<=j:=by
  refine Classical.byContradiction fun hn=>?_
  have:=hlt (show j+1<=i by omega) (by omega)
  grind
 have hsame:∀ m,i+m<=j->wayOf p (i+m)=wayOf p i:=by
  intro m;induction m with
  | zero=>intro _;rfl
  | succ m ih =>
   intro hm;rw[← ih (by omega)];refine Classical.byContradiction fun hne=>?_
   have hc:(p (i+(m+1))).1∈cutsT n p:=List.mem_map.2 ⟨i+(m+1),tnL_mem.2 ⟨by omega,by omega,by rw[show i+(m+1)-1=i+m by omega];exact fun he=>hne he.symm⟩,rfl⟩
   have c1:val a<val (p (i+(m+1))).1:=by
    have:=hlt (show i+1<=i+(m+1) by omega) (by omega);grind
   have c2:val (p (i+(m+1))).1<val b:=by
    have:=hlt (show i+(m+1)<=j by omega) (by omega);grind
   exact hno _ hc ⟨c1,c2⟩
 have hσ:∃ σ:Rat,(σ=1\/σ = -1)/\∀ m,i<=m->m<=j->0<=σ*dy p m:=by
  by_cases hw:wayOf p i = -1
  ·refine⟨-1,.inr rfl,fun m h1 h2=>?_⟩
   obtain⟨q,rfl⟩:∃ q,m=i+q:=⟨m-i,by omega⟩
   have:=hsame q h2
   rcases ygq1 h (show i+q+1<n by omega) with⟨s,_⟩ | ⟨_,d⟩ | ⟨s,_⟩
   ·rw[this,hw] at s;omega
   ·grind
   rw[this,hw] at s;omega
  refine⟨1,.inl rfl,fun m h1 h2=>?_⟩
  obtain⟨q,rfl⟩:∃ q,m=i+q:=⟨m-i,by omega⟩
  have:=hsame q h2
  rcases ygq1 h (show i+q+1<n by omega) with⟨_,d⟩ | ⟨s,_⟩ | ⟨_,d⟩
  ·grind
  ·rw[this] at s;exact absurd s hw
  grind
 obtain⟨σ,hs,hup⟩:=hσ
 refine⟨σ,hs,fun x y w z hx hw hxy hwz q1 q2 q3=>?_⟩
 have rx:=(yqh (yad hx)).1 hx
 have rw':=(yqh (yad hw)).1 hw
 have place:∀ {t s:Rt},isUnit t=true->atQ n p t=some s->val a<=val t->val t<=val b->∃ m,i<=m/\m<=j/\OnP p m t s/\(val a<val t->val (p m).1<val t):=by
  intro t s ht hts h1 h2;have rt:=(yqh (yad ht)).1 ht
  obtain⟨k,hk⟩:=yuw1 h ht;obtain⟨k1,k2⟩:=ywb2 h ht hk hts;by_cases hat:val a<val t
  ·obtain⟨m,hm,m1,m2⟩:=yiu1 h ht (by grind)
   refine⟨m,?_,?_,yhu1 h hm k1 k2 (by grind) m2,fun _=>m1⟩
   ·refine Classical.byContradiction fun hn=>?_
    have:=hlt (show m+1<=i by omega) (by omega)
    grind
   refine Classical.byContradiction fun hn=>?_
   have:=hlt (show j+1<=m by omega) (by omega)
   grind
  have he:val t=val a:=by grind
  exact⟨i,Nat.le_refl _,hij,yhu1 h hi k1 k2 (by grind) (by grind),fun hh=>absurd hh hat⟩
 by_cases heq:val x=val w
 ·have:=ytz1 (yad hx) (yad hw) heq
  subst this;rw[hxy] at hwz;rw[Option.some.inj hwz];grind
 obtain⟨m,m1,m2,m3,_⟩:=place hx hxy q1 (by grind)
 obtain⟨m',m1',m2',m3',m4'⟩:=place hw hwz (by grind) q3
 have hmm:m<=m':=by
  refine Classical.byContradiction fun hn=>?_
  have h1:=hlt (show m'+1<=m by omega) (by omega)
  have h2:=m3.lo;have h3:=m3'.hi
  grind
 obtain⟨k,rfl⟩:∃ k,m'=m+k:=⟨m' - m,by omega⟩
 exact yba2 h m3 k (by omega) m3' q2 fun t t1 t2=>hup t (by omega) (by omega)
theorem ycc2 {L H:Rat} {s:Rt×Rt} {y:Rt} (h1:L<=val s.1/\val s.1<=H) (h2:L<=val s.2/\val s.2<=H) (hy:L<=val y/\val y<=H):(L<=val (tkR s y).1/\val (tkR s y).1<=H)/\(L<=val (tkR s y).2/\val (tkR s y).2<=H):=by
 unfold tkR
 constructor
 ·dsimp only;split
  ·exact hy
  exact h1
 dsimp only;split
 ·exact hy
 exact h2
theorem ymu1 {L H:Rat}:∀ (l:List Rt) (s:Rt×Rt),(L<=val s.1/\val s.1<=H)->(L<=val s.2/\val s.2<=H)->(∀ y∈l,L<=val y/\val y<=H)->(L<=val (l.foldl tkR s).1/\val (l.foldl tkR s).1<=H)/\(L<=val (l.foldl tkR s).2/\val (l.foldl tkR s).2<=H)
 | [],s,h1,h2,_=>⟨h1,h2⟩
 | y::l,s,h1,h2,h3=>by
  obtain⟨a,b⟩:=ycc2 h1 h2 (h3 y (by simp))
  exact ymu1 l (tkR s y) a b fun z hz=>h3 z (by simp[hz])
theorem yiq1 (h:Curve n p) {a b:Rt} (ha:isRat a=true) (hb:isRat b=true):∀ m,m<=n->∀ y∈ysB p a b m,∃ k,k<n/\y=(p k).2/\val a<val (p k).1/\val (p k).1<val b
 | 0,_,y,hy=>by cases hy
 | m+1,hm,y,hy=>by
  unfold ysB at hy;have pm:=yyc (h.xr (show m<n by omega))
  split at hy
  ·rename_i hc
   rw[Bool.and_eq_true] at hc;rcases List.mem_append.1 hy with q | q
   ·exact yiq1 h ha hb m (by omega) y q
   exact⟨m,by omega,List.mem_singleton.1 q,(yce (yyc ha) pm).1 hc.1,(yce pm (yyc hb)).1 hc.2⟩
  exact yiq1 h ha hb m (by omega) y hy
theorem ynw1 (h:Curve n p) {a b y z:Rt} (ha:isUnit a=true) (hb:isUnit b=true) (hab:val a<val b) (hno:NoCut (cutsT n p) a b) (hy:atQ n p a=some y) (hz:atQ n p b=some z) :
  (val y<=val z->val (imR n p a b y z).1=val y/\val (imR n p a b y z).2=val z)/\(val z<=val y->val (imR n p a b y z).1=val z/\val (imR n p a b y z).2=val y):=by
 obtain⟨σ,hs,hup⟩:=yhq1 h ha hb hab hno
 obtain⟨l1,l2,l3,l4⟩:=yyb2 h (a:=a) (b:=b) (ysi1 hy) (ysi1 hz)
 have mid:∀ t∈ysB p a b n,(val y<=val z->val y<=val t/\val t<=val z)/\(val z<=val y->val z<=val t/\val t<=val y):=by
  intro t ht;obtain⟨k,hk,rfl,k1,k2⟩:=yiq1 h (yad ha) (yad hb) n (Nat.le_refl n) t ht
  have uk:=(yqh (h.xr hk)).2 (yzu (h.x k hk))
  have ak:=yvs1 h hk;have a1:=hup _ _ _ _ ha uk hy ak Rat.le_refl (by grind) (by grind)
  have a2:=hup _ _ _ _ uk hb ak hz (by grind) (by grind) Rat.le_refl
  rcases hs with rfl | rfl <;> constructor <;> intro _ <;> constructor <;> grind
 have bd:=fun (L H:Rat) (q1:L<=val y/\val y<=H) (q2:∀ t∈z::ysB p a b n,L<=val t/\val t<=H)=>ymu1 (L:=L) (H:=H) (z::ysB p a b n) (y,y) q1 q1 q2
 constructor
 ·intro hle
  obtain⟨⟨b1,b2⟩,b3,b4⟩:=bd (val y) (val z) ⟨Rat.le_refl,hle⟩ fun t ht=>by
   rcases List.mem_cons.1 ht with rfl | q
   ·exact⟨hle,Rat.le_refl⟩
   exact(mid t q).1 hle
  unfold imR at *
  constructor <;> grind
 intro hle
 obtain⟨⟨b1,b2⟩,b3,b4⟩:=bd (val z) (val y) ⟨hle,Rat.le_refl⟩ fun t ht=>by
  rcases List.mem_cons.1 ht with rfl | q
  ·exact⟨Rat.le_refl,hle⟩
  exact(mid t q).2 hle
 unfold imR at *
 constructor <;> grind
structure MG (n:Nat) (p:Nat->Pt) (xs:List Rt) (m:Nat) (c:Nat->Rt) (σ:Nat->Nat):Prop where
 cur:Curve n p
 yc:∀ i,i<n->coord (p i).2=true
 e:xs=tab (m+1) c
 lo:1<=m
 hi:m<=8
 u:∀ i,i<=m->isUnit (c i)=true
 lt:∀ i j,i<j->j<=m->val (c i)<val (c j)
 at':∀ i,i<=m->atQ n p (c i)=some (c (σ i))/\σ i<=m/\fdI xs (c (σ i))=(σ i:Int)
 cut:∀ i,i<m->NoCut (cutsT n p) (c i) (c (i+1))
 c0:c 0=(0,1)
 cm:c m=(1,1)
def gM (σ:Nat->Nat) (i k:Nat):Int:=if min (σ i) (σ (i+1))<=k/\k<max (σ i) (σ (i+1)) then 1 else 0
theorem MkIn.mg {f:List Pt} {xs:List Rt} (h:MkIn f xs n p) {b:Bool} (hk:Mk n p b xs):∃ m c σ,MG n p xs m c σ:=by
 have h2:=h.prt.lo
 have h9:=h.prt.hi
 obtain⟨m,hm⟩:∃ m,xs.length=m+1:=⟨xs.length-1,by omega⟩
 obtain⟨c,hc⟩:∃ c:Nat->Rt,∀ i,c i=xs.getD i default:=⟨_,fun _=>rfl⟩
 have e:xs=tab (m+1) c:=by
  have e:=yye1 xs;rw[hm] at e;exact e.trans (yzl fun i _=>(hc i).symm)
 have hg:∀ i (hi:i<xs.length),c i=xs[i]:=fun i hi=>by rw[hc,List.getD_eq_getElem?_getD,List.getElem?_eq_getElem hi];rfl
 have mem:∀ i,i<=m->c i∈xs:=fun i hi=>by rw[hg i (by omega)];exact List.getElem_mem _
 have u:∀ i,i<=m->isUnit (c i)=true:=fun i hi=>h.prt.unit _ (mem i hi)
 have lt:∀ i j,i<j->j<=m->val (c i)<val (c j):=fun i j hij hj=>by
  have:=h.prt.srt.get (i:=i) (j:=j) hij (by omega)
  rw[← hg i (by omega),← hg j (by omega)] at this;exact(yce (yyc (yad (u i (by omega)))) (yyc (yad (u j hj)))).1 this
 have hσ:∀ i,∃ s,i<=m->atQ n p (c i)=some (c s)/\s<=m/\fdI xs (c s)=(s:Int):=fun i=>by
  by_cases hi:i<=m
  ·obtain⟨y,e1,e2⟩:=hk.2 _ (mem i hi)
   obtain⟨s,hs,e3,e4⟩:=yac2 e2;refine⟨s,fun _=>⟨by rw[hg s hs,e4];exact e1,by omega,?_⟩⟩
   rw[hg s hs,e4];exact e3
  exact⟨0,fun q=>absurd q hi⟩
 refine⟨m,c,fun i=>Classical.choose (hσ i),h.cur,h.yc,e,by omega,by omega,u,lt,fun i hi=>Classical.choose_spec (hσ i) hi,fun i hi x hx hh=>?_,?_,?_⟩
 ·have hx':x∈xs:=hk.1 x (ylu1 b h.lo hx)
  rw[e] at hx'
  obtain⟨j,hj,rfl⟩:=tab_mem.1 hx'
  rcases Nat.lt_or_ge i j with q | q
  ·by_cases hji:j=i+1
   ·subst hji;grind
   have:=lt (i+1) j (by omega) (by omega);grind
  by_cases hji:j=i
  ·subst hji;grind
  have:=lt j i (by omega) (by omega);grind
 ·have:=h.prt.fst
  rw[List.getElem?_eq_getElem (by omega),← hg 0 (by omega)] at this;exact Option.some.inj this
 have:=h.prt.lst
 rw[List.getElem?_eq_getElem (by omega),← hg (xs.length-1) (by omega),show xs.length-1=m by omega] at this
 exact Option.some.inj this
section
variable {xs:List Rt} {m:Nat} {c:Nat->Rt} {σ:Nat->Nat}
theorem MG.le (h:MG n p xs m c σ) {i j:Nat} (hi:i<=m) (hj:j<=m):val (c i)<=val (c j)↔i<=j:=by
 constructor
 ·intro hh
  refine Classical.byContradiction fun hn=>?_
  have:=h.lt j i (by omega) hi
  grind
 intro hh
 by_cases he:i=j
 ·rw[he];exact Rat.le_refl
 have:=h.lt i j (by omega) hj;grind
theorem MG.iv (h:MG n p xs m c σ) {i:Nat} (hi:i<m):isIv (c i,c (i+1))=true:=by
 unfold isIv
 rw[h.u i (by omega),h.u (i+1) (by omega),(yce (yyc (yad (h.u i (by omega)))) (yyc (yad (h.u (i+1) (by omega))))).2 (h.lt i (i+1) (by omega) (by omega))];rfl
theorem MG.cov (h:MG n p xs m c σ) {i k:Nat} (hi:i<m) (hk:k<m):cvM n p (fun a=>(c a,c (a+1))) i k=gM σ i k:=by
 obtain⟨a1,a2,_⟩:=h.at' i (by omega)
 obtain⟨b1,b2,_⟩:=h.at' (i+1) (by omega)
 obtain⟨v1,v2⟩:=ynw1 h.cur (h.u i (by omega)) (h.u (i+1) (by omega)) (h.lt i (i+1) (by omega) (by omega)) (h.cut i hi) a1 b1
 obtain⟨r1,r2⟩:=yeu1 h.cur (a:=c i) (b:=c (i+1)) (ysi1 a1) (ysi1 b1)
 have pk:=yyc (yad (h.u k (by omega)))
 have pk1:=yyc (yad (h.u (k+1) (by omega)))
 unfold cvM gM covI
 simp only[a1,b1]
 have key:((!less (c k) (imR n p (c i) (c (i+1)) (c (σ i)) (c (σ (i+1)))).1 && !less (imR n p (c i) (c (i+1)) (c (σ i)) (c (σ (i+1)))).2 (c (k+1)))=true)↔(min (σ i) (σ (i+1))<=k/\k<max (σ i) (σ (i+1))):=by
  rw[Bool.and_eq_true,Bool.not_eq_true',Bool.not_eq_true',yie pk (yyc r1),yie (yyc r2) pk1];rcases Nat.le_total (σ i) (σ (i+1)) with q | q
  ·obtain⟨e1,e2⟩:=v1 ((h.le a2 b2).2 q)
   rw[e1,e2,h.le a2 (by omega),h.le (by omega) b2];omega
  obtain⟨e1,e2⟩:=v2 ((h.le b2 a2).2 q)
  rw[e1,e2,h.le b2 (by omega),h.le (by omega) a2];omega
 by_cases hq:min (σ i) (σ (i+1))<=k/\k<max (σ i) (σ (i+1))
 ·rw[if_pos (key.2 hq),if_pos hq]
 rw[if_neg (fun q=>hq (key.1 q)),if_neg hq]
theorem MG.zip (h:MG n p xs m c σ):xs.zip xs.tail=tab m fun a=>(c a,c (a+1)):=by
 have hl:(xs.zip xs.tail).length=m:=by rw[yaq1,h.e,yab];omega
 apply List.ext_getElem?
 intro i
 by_cases hi:i<m
 ·have hz:(xs.zip xs.tail)[i]?=some ((xs.zip xs.tail)[i]'(by omega)):=List.getElem?_eq_getElem (by omega)
  obtain⟨h1,e⟩:=yzp1 hz;rw[hz,e,yxr hi];have g:∀ j (hj:j<xs.length),xs[j]=c j:=fun j hj=>by
   have h1:xs[j]?=some xs[j]:=List.getElem?_eq_getElem hj
   have h2:(tab (m+1) c)[j]?=some (c j):=yxr (by rw[h.e,yab] at hj;exact hj)
   rw[← h.e,h1] at h2;exact Option.some.inj h2
  rw[g,g]
 rw[List.getElem?_eq_none (by omega),ynl (by omega)]
theorem MG.ok (h:MG n p xs m c σ):allOk n p m fun a=>(c a,c (a+1)):=fun a ha=>by
 unfold okI
 rw[(h.at' a (by omega)).1,(h.at' (a+1) (by omega)).1];rfl
theorem MG.impl (h:MG n p xs m c σ) (hm:yae (tab n p)=some true):yyk (tab n p) (tab m fun a=>(c a,c (a+1)))=some (mat m m (gM σ),true):=by
 have h8:=h.hi
 have h1:=h.lo
 have ha:areIv (tab m fun a=>(c a,c (a+1)))=true:=by
  unfold areIv;rw[yab,Bool.and_eq_true,inB_iff,yjp1];exact⟨⟨by omega,by omega⟩,fun i hi=>h.iv hi⟩
 obtain⟨b,F,i1,i2,i3⟩:=yxc1 h.cur h8 (q:=fun a=>(c a,c (a+1))) fun a ha=>h.iv ha
 obtain⟨b0,hF⟩:=i3 h.ok
 unfold yyk
 rw[hm,yxw _ (by rw[yab];omega),ha]
 simp only[Option.bind_some,Bool.not_true,Bool.false_eq_true,if_false,yab,ybo m (by omega),i1,yek,b0]
 rw[yqu fun a d ha hd=>(hF a d ha hd).trans (h.cov ha hd)]
theorem MG.row (h:MG n p xs m c σ) {i:Nat} (hi:i<m):loopO (ymi ((σ i:Nat):Int) ((σ (i+1):Nat):Int)) (List.replicate m (0:Int),((min (σ i) (σ (i+1)):Nat):Int))=some (tab m (gM σ i)):=by
 have a2:=(h.at' i (by omega)).2.1
 have b2:=(h.at' (i+1) (by omega)).2.1
 have h8:=h.hi
 have most:yco ((σ i:Nat):Int) ((σ (i+1):Nat):Int)=some ((max (σ i) (σ (i+1)):Nat):Int):=by
  unfold yco;by_cases q:σ i>σ (i+1)
  ·rw[if_pos (by simp;omega)];congr 2;omega
  rw[if_neg (by simp;omega)];congr 2;omega
 generalize hlo:min (σ i) (σ (i+1))=lo at *
 generalize hhi:max (σ i) (σ (i+1))=hi' at *
 have hx:=ydc (body:=ymi ((σ i:Nat):Int) ((σ (i+1):Nat):Int)) (hi' - lo) (fun j=>(tab m (fun k=>if lo<=k/\k<lo+j then(1:Int) else 0),((lo+j:Nat):Int))) (tab m (gM σ i)) (fun j hj=>by
  simp only[ymi,most,Option.bind_some,show(((lo+j:Nat):Int)<((hi':Nat):Int)) from by omega,decide_true,if_true,yua (show lo+j<m by omega),yta (show lo+j<9223372036854775807 by omega),Int.toNat_natCast,yzx (show lo+j<m by omega)]
  congr 3
  refine yzl fun k hk=>?_
  by_cases hkj:k=lo+j
  ·rw[if_pos hkj,if_pos (by omega)]
  ·rw[if_neg hkj]
   by_cases q:lo<=k/\k<lo+j
   ·rw[if_pos q,if_pos (by omega)]
   rw[if_neg q,if_neg (by omega)]) (by
  simp only[ymi,most,Option.bind_some,show ¬ (((lo+(hi' - lo):Nat):Int)<((hi':Nat):Int)) from by omega,decide_false,Bool.false_eq_true,if_false];congr 2
  refine yzl fun k hk=>?_
  unfold gM;rw[hlo,hhi];by_cases q:lo<=k/\k<hi'
  ·rw[if_pos q,if_pos (by omega)]
  rw[if_neg q,if_neg (by omega)])
 have e0:List.replicate m (0:Int)=tab m (fun k=>if lo<=k/\k<lo+0 then(1:Int) else 0):=by
  rw[yei1];exact yzl fun k hk=>by rw[if_neg (by omega)]
 rw[e0]
 exact hx
theorem MG.spec (h:MG n p xs m c σ) {r:Bool×Bool} (hr:yge (tab n p) xs false=some r) (h1:r.1=true) (h2:r.2=true):yrj (tab n p) xs=some (mat m m (gM σ),true):=by
 have h8:=h.hi
 have hl:xs.length=m+1:=by rw[h.e,yab]
 have hx:∀ x∈xs,isUnit x=true:=fun x hx=>by
  rw[h.e] at hx;obtain⟨i,hi,rfl⟩:=tab_mem.1 hx;exact h.u i (by omega)
 obtain⟨v,e1,hv⟩:=yff1 h.cur hx (by omega)
 have hv1:v.1=tab (m+1) fun i=>((σ i:Nat):Int):=by
  rcases hv with⟨hno,_⟩ | ⟨_,_,hp⟩
  ·refine absurd (fun x hx=>?_) hno
   rw[h.e] at hx;obtain⟨i,hi,rfl⟩:=tab_mem.1 hx;exact⟨_,(h.at' i (by omega)).1⟩
  apply List.ext_getElem?
  intro i;by_cases hi:i<m+1
  ·have hil:i<v.1.length:=by rw[hp.len,hl];exact hi
   obtain⟨y,y1,y2⟩:=hp.at' i (by omega) hil
   have hxi:xs[i]'(by omega)=c i:=by
    have h1:xs[i]?=some (xs[i]'(by omega)):=List.getElem?_eq_getElem (by omega)
    have h2:(tab (m+1) c)[i]?=some (c i):=yxr hi
    rw[← h.e,h1] at h2;exact Option.some.inj h2
   rw[hxi,(h.at' i (by omega)).1] at y1;rw[List.getElem?_eq_getElem hil,yxr hi,y2,← Option.some.inj y1,(h.at' i (by omega)).2.2]
  rw[List.getElem?_eq_none (by rw[hp.len,hl];omega),ynl (by omega)]
 have hw:w64 (((m+1:Nat):Int)-1)=((m:Nat):Int):=by rw[yej (by omega) (by omega)];rfl
 have loop:=yyz (body:=yni xs v) m (fun l i=>(l,((i+1:Nat):Int))) (fun i=>tab m (gM σ i)) (mat m m (gM σ)) (fun i hi=>by
  have a2:=(h.at' i (by omega)).2.1
  have b2:=(h.at' (i+1) (by omega)).2.1
  have yrw1:yql ((σ i:Nat):Int) ((σ (i+1):Nat):Int)=some ((min (σ i) (σ (i+1)):Nat):Int):=by
   unfold yql;by_cases q:σ i<σ (i+1)
   ·rw[if_pos (by simp;omega)];congr 2;omega
   rw[if_neg (by simp;omega)];congr 2;omega
  simp only[yni,hw,hl,show(((i+1:Nat):Int)<((m+1:Nat):Int)) from by omega,decide_true,if_true,hv1,yej (show 0<i+1 by omega) (show i+1<4611686018427387904 by omega),Nat.add_sub_cancel,yua (show i<m+1 by omega),yua (show i+1<m+1 by omega),Option.bind_some,yrw1,Int.toNat_natCast,h.row hi,ydp,ycp,yta (show i+1<9223372036854775807 by omega)]
  rw[yea (by omega),yea (by rw[yab];simp;omega)]) (by
  simp only[yni,hl,Int.lt_irrefl,decide_false,Bool.false_eq_true,if_false];rfl)
 have loop:loopO (yni xs v) ([],1)=some (mat m m (gM σ)):=loop
 unfold yrj
 rw[hr,Option.bind_some,h1,h2]
 simp only[Bool.not_true,Bool.or_self,Bool.false_eq_true,if_false,e1,Option.bind_some,loop,ybp]
end
end
theorem ybv (f:List Pt) (xs:List Rt) (hf:f.length<=4611686018427387904) (hx:xs.length<=4611686018427387904) :
  (ysc f xs=some ([],false)/\yyd f xs=some ([],false)) \/
  ∃ n p m c σ,MkIn f xs n p/\MG n p xs m c σ/\ysc f xs=some (mat m m (gM σ),true)/\yyd f xs=some (mat m m (gM σ),true)/\yrj f xs=some (mat m m (gM σ),true):=by
 unfold ysc yyd
 rcases yav f xs hf hx with⟨a,b,c,d⟩ | ⟨n,p,r,s,h,r1,s1,e1,e2,e3,e4,e5,e6⟩
 ·rw[a,d]
  exact .inl ⟨rfl,rfl⟩
 rw[e1,e4,Option.bind_some,Option.bind_some]
 have h9:=h.prt.hi
 by_cases hh:r.1=true/\r.2=true
 ·rcases r1 with⟨_,rfl⟩ | ⟨_,_,r3⟩
  ·cases hh.1
  obtain⟨m,c,σ,hg⟩:=h.mg (r3.1 hh.1)
  have e5':=e5
  rw[h.ff] at e5'
  have g1:=hg.spec e5' hh.1 hh.2
  have g2:=hg.impl (by rw[← h.ff];exact h.im)
  rw[← h.ff] at g1 g2
  refine .inr ⟨n,p,m,c,σ,h,hg,?_,?_,g1⟩
  ·simp only[hh.1,hh.2,Bool.not_true,Bool.or_self,Bool.false_eq_true,if_false,yky xs (by omega),Option.bind_some,hg.zip,g2]
  simp only[Bool.not_true,Bool.false_eq_true,if_false,g1,Option.bind_some]
 have hn:(!r.2 || !r.1)=true:=by
  cases h1:r.1 <;> cases h2:r.2 <;> simp_all
 refine .inl ⟨by rw[if_pos hn],?_⟩
 unfold yrj
 have hn':(!r.1 || !r.2)=true:=by rw[Bool.or_comm];exact hn
 simp only[Bool.not_true,Bool.false_eq_true,if_false,e5,Option.bind_some,hn',if_true]
end Go.PV

/-
 Plain laws: the yrw1 Markov partition,the reference's side.
 Conditions: none.
-/
set_option linter.all false
namespace Go.PV
theorem ylg1 {l:List Rt} (h:Srt l):l.Nodup:=h.imp fun {a b} hab e=>by subst e;rw[yqs1] at hab;cases hab
theorem ybj1:∀ (xs z:List Rt),xs.Nodup->(∀ x∈xs,x∈z)->xs.length<=z.length
 | [],_,_,_=>Nat.zero_le _
 | x::xs,z,h1,h2=>by
  obtain⟨n1,n2⟩:=List.nodup_cons.1 h1;have hx:=h2 x (by simp)
  have ih:=ybj1 xs (z.erase x) n2 fun y hy=>(List.mem_erase_of_ne fun e=>n1 (by rw[← e];exact hy)).2 (h2 y (by simp[hy]))
  rw[List.length_erase_of_mem hx] at ih;have:=List.length_pos_of_mem hx
  simp only[List.length_cons];omega
section
variable {n:Nat} {p:Nat->Pt} {S:List Rt}
structure Sup (n:Nat) (p:Nat->Pt) (S:List Rt) (z:List Rt):Prop where
 srt:Srt z
 a:((0:Int),(1:Int))∈z
 b:((1:Int),(1:Int))∈z
 st:∀ x∈S,x∈z
 clo:Clo n p z
def RefOk (n:Nat) (p:Nat->Pt) (S:List Rt) (r:List Rt×Bool):Prop :=
 (r.2=true/\Part r.1/\r.1.length<=9/\Sup n p S r.1/\∀ z,Sup n p S z->∀ x∈r.1,x∈z)\/(r=([],false)/\∀ z,Sup n p S z->9<z.length)
theorem RefOk.same {r s:List Rt×Bool} (h:RefOk n p S r) (k:RefOk n p S s):r=s:=by
 rcases h with⟨h1,h2,h3,h4,h5⟩ | ⟨rfl,h2⟩
 ·rcases k with⟨k1,k2,k3,k4,k5⟩ | ⟨rfl,k2⟩
  ·exact Prod.ext (ywi1 h2.srt k2.srt h2.rats k2.rats fun x=>⟨fun q=>h5 _ k4 x q,fun q=>k5 _ h4 x q⟩) (h1.trans k1.symm)
  have:=k2 _ h4;omega
 rcases k with⟨k1,k2,k3,k4,k5⟩ | ⟨rfl,k2⟩
 ·have:=h2 _ k4;omega
 rfl
structure Way (n:Nat) (p:Nat->Pt) (S:List Rt) (l:List Rt):Prop where
 part:Part l
 a:((0:Int),(1:Int))∈l
 b:((1:Int),(1:Int))∈l
 st:∀ x∈S,x∈l
 min:∀ z,Sup n p S z->∀ x∈l,x∈z
theorem Way.long {l:List Rt} (h:Way n p S l) (hl:9<l.length):RefOk n p S ([],false):=.inr ⟨rfl,fun z hz=>by
 have:=ybj1 l z (ylg1 h.part.srt) (h.min z hz)
 omega⟩
theorem Way.bad {l:List Rt} (h:Way n p S l) {x:Rt} (hx:x∈l) (hn:atQ n p x=none):RefOk n p S ([],false):=.inr ⟨rfl,fun z hz=>by
 obtain⟨y,e,_⟩:=hz.clo x (h.min z hz x hx)
 rw[hn] at e;cases e⟩
theorem Way.done {l:List Rt} (h:Way n p S l) (hl:l.length<=9) (hc:Clo n p l):RefOk n p S (l,true):=.inl ⟨rfl,h.part,hl,⟨h.part.srt,h.a,h.b,h.st,hc⟩,h.min⟩
theorem Way.more {l r:List Rt} (h:Way n p S l) (hr:Part r) (hsub:∀ x∈l,x∈r) (hmem:∀ y∈r,y∈l\/∃ x∈l,atQ n p x=some y):Way n p S r :=
 ⟨hr,hsub _ h.a,hsub _ h.b,fun x hx=>hsub x (h.st x hx),fun z hz y hy=>by
  rcases hmem y hy with q | ⟨x,hx,e⟩
  ·exact h.min z hz y q
  obtain⟨w,e1,e2⟩:=hz.clo x (h.min z hz x hx)
  rw[e] at e1;rw[Option.some.inj e1];exact e2⟩
theorem part_two:Part [((0:Int),(1:Int)),(1,1)]:=⟨by simp[Srt,less],fun x hx=>by
  simp only[List.mem_cons,List.not_mem_nil,or_false] at hx;rcases hx with rfl | rfl <;> decide,by simp⟩
theorem yxs1 (hm:isMapT n p) (h2:2<=n) (hn:n<=12) (b:Bool):Tot (yxd (tab n p) b) (RefOk n p (stS n p b)):=by
 have h:=Curve.of_map hm h2 hn
 obtain⟨s1,s2⟩:=ylw1 hm h2 hn b
 have es:=ygf1 hm h2 hn b
 generalize stS n p b=S at *
 unfold yxd ykb
 have hput:ydd [((0:Int),(1:Int))] (1,1)=some [(0,1),(1,1)]:=by
  obtain⟨r,e,hr⟩:=yda1 (l:=[((0:Int),(1:Int))]) (x:=(1,1)) (List.pairwise_singleton _ _) (fun x hx=>by rw[List.mem_singleton.1 hx];exact yrq) ysv (by simp)
  rw[e];congr 1
  exact ywi1 hr.srt part_two.srt (hr.rats (fun x hx=>by rw[List.mem_singleton.1 hx];exact yrq) ysv) part_two.rats fun x=>by
   rw[hr.mem];simp only[List.mem_cons,List.not_mem_nil,or_false];exact⟨fun q=>q.symm,fun q=>q.symm⟩
 simp only[Option.bind_some]
 rw[hput,Option.bind_some,es,Option.bind_some]
 refine Tot.bind (P:=fun l:List Rt=>Way n p S l/\l.length<=14) ?_ fun l4 ⟨hp4,hl4⟩=>?_
 ·refine Tot.loop (fun x:List Rt×Int=>∃ i:Nat,x.2=(i:Int)/\i<=S.length/\Part x.1/\x.1.length<=2+i/\∀ y,y∈x.1↔y=(0,1)\/y=(1,1)\/y∈S.take i) (fun x=>S.length-x.2.toNat) (fun x ⟨i,e,hi,hp,hl,hmem⟩=>?_) _ ⟨0,rfl,by omega,part_two,by simp,fun y=>by simp⟩
  obtain⟨l,x2⟩:=x;simp only at e hp hl hmem
  subst e;unfold yvi;by_cases hlt:i<S.length
  ·have hu:=s2 _ (List.getElem_mem hlt)
   simp only[show((i:Int)<(S.length:Int)) from by omega,decide_true,if_true,ytf hlt,Option.bind_some,yta (show i<9223372036854775807 by omega)];refine(yda1 hp.srt hp.rats (yxm hu) (by omega)).bind fun v hv=>Tot.inl ⟨⟨i+1,rfl,by omega,hp.put hu hv,by have:=hv.len;show v.length<=_;omega,fun y=>?_⟩,by show S.length-((i+1:Nat):Int).toNat<S.length-(i:Int).toNat;omega⟩
   rw[List.take_succ_eq_append_getElem hlt];simp only[hv.mem,hmem,List.mem_append,List.mem_singleton];constructor
   ·rintro(q | q | q | q)
    ·exact .inr (.inr (.inr q))
    ·exact .inl q
    ·exact .inr (.inl q)
    exact .inr (.inr (.inl q))
   rintro(q | q | q | q)
   ·exact .inr (.inl q)
   ·exact .inr (.inr (.inl q))
   ·exact .inr (.inr (.inr q))
   exact .inl q
  have:i=S.length:=by omega
  subst this;rw[List.take_length] at hmem;simp only[Int.lt_irrefl,decide_false,Bool.false_eq_true,if_false];refine Tot.inr ⟨⟨hp,(hmem _).2 (.inl rfl),(hmem _).2 (.inr (.inl rfl)),fun x hx=>(hmem x).2 (.inr (.inr hx)),fun z hz x hx=>?_⟩,by show l.length<=14;omega⟩
  rcases(hmem x).1 hx with rfl | rfl | q
  ·exact hz.a
  ·exact hz.b
  exact hz.st x q
 unfold ycg
 refine Tot.bind (P:=fun y:(List Rt×Bool) ⊕ List Rt=>match y with
  | .inl r=>RefOk n p S r
  | .inr l=>RefOk n p S (l,true)) ?_ fun y hy=>?_
 ·refine Tot.loop (fun x:List Rt×Bool=>Way n p S x.1/\x.1.length<=20/\(x.2=false->RefOk n p S (x.1,true))) (fun x=>2*(30-x.1.length)+(if x.2=true then 1 else 0)) (fun x ⟨hp,hl,hf⟩=>?_) _ ⟨hp4,by show l4.length<=20;omega,fun q=>by cases q⟩
  obtain⟨l,ch⟩:=x;simp only at hp hl hf
  unfold yui;refine Tot.ite (fun q=>?_) fun q=>Tot.inr (hf q)
  simp only at q
  subst q;refine Tot.ite (fun q=>Tot.inr (hp.long (by have:=of_decide_eq_true q;simp only at this;omega))) fun q=>?_
  have q:¬ ((l.length:Int)>9):=of_decide_eq_false q
  refine Tot.bind (P:=fun y:(List Rt×Bool) ⊕ (List Rt×Bool)=>match y with
   | .inl r=>RefOk n p S r
   | .inr r=>(Way n p S r.1/\r.1.length<=20/\(r.2=false->RefOk n p S (r.1,true)))/\2*(30-r.1.length)+(if r.2=true then 1 else 0)<2*(30-l.length)+1) ?_ fun y hy=>?_
  ·refine Tot.loop (fun x:Int=>∃ i:Nat,x=(i:Int)/\i<=l.length/\∀ x∈l.take i,∃ y,atQ n p x=some y/\y∈l) (fun x=>l.length-x.toNat) (fun x ⟨i,e,hi,hc⟩=>?_) 0 ⟨0,rfl,by omega,fun x hx=>by simp at hx⟩
   subst e;unfold yti;by_cases hlt:i<l.length
   ·have hml:=List.getElem_mem hlt
    have hu:=hp.part.unit _ hml;simp only[show((i:Int)<(l.length:Int)) from by omega,decide_true,if_true,ytf hlt,Option.bind_some,yta (show i<9223372036854775807 by omega),yti1 h hu]
    cases ha:atQ n p l[i] with
    | none=>exact Tot.inr (hp.bad hml ha)
    | some y =>
     have hy:=yba1 h (fun i hi=>(hm.1 i hi).2) hu ha
     simp only[unO,Bool.not_true,Bool.false_eq_true,if_false,yig1 l y (show l.length<=4611686018427387904 by omega),Option.bind_some];refine Tot.ite (fun q'=>?_) fun q'=>Tot.inl ⟨⟨i+1,rfl,by omega,fun x hx=>?_⟩,by show l.length-((i+1:Nat):Int).toNat<l.length-(i:Int).toNat;omega⟩
     ·have hnew:=fdI_no.1 (of_decide_eq_true q')
      refine(yda1 hp.part.srt hp.part.rats (yxm hy) (by omega)).bind fun v hv=>Tot.inr ⟨⟨hp.more (hp.part.put hy hv) (fun x hx=>(hv.mem x).2 (.inr hx)) fun z hz=>?_,by have:=hv.len;show v.length<=20;omega,fun q=>by cases q⟩,?_⟩
      ·rcases(hv.mem z).1 hz with rfl | q
       ·exact .inr ⟨_,hml,ha⟩
       exact .inl q
      have:=hv.new hnew
      show 2*(30-v.length)+1<_
      omega
     rw[List.take_succ_eq_append_getElem hlt] at hx;rcases List.mem_append.1 hx with q | q
     ·exact hc x q
     rw[List.mem_singleton.1 q];exact⟨y,ha,Classical.byContradiction fun hno=>of_decide_eq_false q' (fdI_no.2 hno)⟩
   have:i=l.length:=by omega
   subst this;rw[List.take_length] at hc;simp only[Int.lt_irrefl,decide_false,Bool.false_eq_true,if_false];exact Tot.inr ⟨⟨hp,hl,fun _=>hp.done (by omega) hc⟩,by show 2*(30-l.length)+0<_;omega⟩
  cases y with
  | inl r=>exact Tot.inr hy
  | inr r=>exact Tot.inl ⟨hy.1,by simpa using hy.2⟩
 cases y with
 | inl r=>exact Tot.ret hy
 | inr l=>exact Tot.ret hy
theorem yca2 (hy:∀ i,i<n->coord (p i).2=true) {l:List Rt} (h:Part l) (h9:l.length<=9) (hs:Sup n p S l):Prt l:=by
 refine⟨h.two,h9,h.unit,h.srt,?_,?_⟩
 ·have h2:=h.two
  obtain⟨i,hi,e⟩:=List.mem_iff_getElem.1 hs.a;rw[List.getElem?_eq_getElem (by omega)];by_cases h0:i=0
  ·subst h0;rw[e]
  have hl:=h.srt.get (i:=0) (j:=i) (by omega) hi
  have u:=h.unit _ (List.getElem_mem (show 0<l.length by omega))
  rw[e] at hl;have r:=yxm u;have:=(yce (yyc r) (by decide)).1 hl
  have u':=(yqh r).1 u
  have z:val ((0:Int),(1:Int))=0:=by show((0:Int):Rat) / ((1:Int):Rat)=0;grind
  grind
 have h2:=h.two
 obtain⟨i,hi,e⟩:=List.mem_iff_getElem.1 hs.b
 rw[List.getElem?_eq_getElem (by omega)]
 by_cases h0:i=l.length-1
 ·subst h0;rw[e]
 have hl:=h.srt.get (i:=i) (j:=l.length-1) (by omega) (by omega)
 have u:=h.unit _ (List.getElem_mem (show l.length-1<l.length by omega))
 rw[e] at hl
 have r:=yxm u
 have:=(yce (by decide) (yyc r)).1 hl
 have u':=(yqh r).1 u
 have z:val ((1:Int),(1:Int))=1:=by show((1:Int):Rat) / ((1:Int):Rat)=1;grind
 grind
end
end Go.PV

/-
 Plain laws: numerals.
 Conditions: none.
-/
set_option linter.all false
namespace Go.PV
def decB (n:Nat):ByteArray:=⟨(Lib.decDigits n).toArray⟩
def ratB (r:Int×Int):ByteArray:=itoaB r.1++ByteArray.mk #[47]++itoaB r.2
end Go.PV

/-
 Plain law: the product of a graph and a vector.
 Conditions: none.
-/
set_option linter.all false
namespace Go.PV
end Go.PV

/-
 Plain law: more steps give bounds that are no worse.
 Conditions: none.
-/
set_option linter.all false
namespace Go.PV
section
variable {n:Nat} {G:Nat->Nat->Int}
def lbd (G:Nat->Nat->Int) (n:Nat) (p q:Int) (v:Nat->Int):Prop:=∀ i,i<n->p*v i<=q*dotN (G i) v n
def ubd (G:Nat->Nat->Int) (n:Nat) (p q:Int) (v:Nat->Int):Prop:=∀ i,i<n->q*dotN (G i) v n<=p*v i
section
variable {v:Nat->Int}
end
end
end Go.PV

/-
 Plain law: growth of drawn graphs.
 Conditions: none.
-/
set_option linter.all false
namespace Go.PV
theorem yad1 {n:Nat} {G:Nat->Nat->Int} (h1:1<=n) (hn:n<=8) (hG:∀ i j,i<n->j<n->0<=G i j/\G i j<=9):isGraph (mat n n G)=true:=by
 unfold isGraph
 rw[ysg,Bool.and_eq_true]
 refine⟨inB_iff.2 ⟨by omega,by omega⟩,?_⟩
 unfold mat
 rw[yjp1]
 intro i hi
 rw[yab,Bool.and_eq_true,yjp1]
 exact⟨by simp,fun j hj=>inB_iff.2 (hG i j hi hj)⟩
theorem yvb1 {n:Nat} {G:Nat->Nat->Int} (hn:n<=8):sized (mat n n G):=⟨by rw[ysg];omega,fun row hr=>by
 obtain⟨i,_,rfl⟩:=tab_mem.1 hr
 rw[yab];omega⟩
section
variable {n:Nat} {G:Nat->Nat->Int} {v:Nat->Int}
end
end Go.PV

/-
 Plain law: FnWalkCounts.
 Conditions: none.
-/
set_option linter.all false
namespace Go.PV
theorem ynu1 (xs:List Int) (h0:1<=xs.length) (hl:xs.length<=1048576):∃ x∈xs,yzf xs=some x:=by
 unfold yzf
 rw[if_neg (by simp;omega)]
 unfold yyf
 have i0:idxO xs 0=some xs[0]:=by have:=ytf (xs:=xs) (i:=0) (by omega);exact this
 rw[i0,Option.bind_some]
 obtain⟨y,e,hy⟩:=yao (body:=ywd xs) (fun s=>s.1∈xs/\∃ i:Nat,s.2=(i:Int)/\i<=xs.length) (fun s=>xs.length-s.2.toNat) (fun y=>y∈xs) (by
  rintro⟨a,b⟩ ⟨ha,i,hi,hle⟩
  simp only at ha hi
  subst hi;by_cases hlt:i<xs.length
  ·left
   refine⟨(if a<xs[i] then xs[i] else a,((i+1:Nat):Int)),?_,⟨?_,i+1,rfl,hlt⟩,by simp only[Int.toNat_natCast];omega⟩
   ·simp only[ywd,show((i:Int)<(xs.length:Int)) from by omega,decide_true,if_true,ytf hlt,Option.bind_some,yta (show i<9223372036854775807 by omega)]
   show(if a<xs[i] then xs[i] else a)∈xs
   split
   ·exact List.getElem_mem hlt
   exact ha
  right
  exact⟨a,by simp[ywd];omega,ha⟩) (xs[0],1) ⟨List.getElem_mem (by omega),1,rfl,h0⟩
 rw[e]
 exact⟨y,hy,rfl⟩
theorem yys1 {xs:List Int} (hx:∀ x∈xs,0<=x):∀ x∈xs,x<=xs.sum:=by
 induction xs with
 | nil=>intro x h;cases h
 | cons y ys ih =>
  have hs:0<=ys.sum:=by
   clear ih;induction ys with
   | nil=>simp
   | cons z zs ih2 =>
    rw[List.sum_cons];have:=ih2 fun x hx'=>hx x (by simp at hx' ⊢;rcases hx' with h | h <;> simp[h])
    have:=hx z (by simp)
    omega
  intro x hm;rw[List.sum_cons];rcases List.mem_cons.1 hm with rfl | hm
  ·omega
  have:=ih (fun z hz=>hx z (by simp[hz])) x hm
  have:=hx y (by simp)
  omega
theorem yzs1 {n:Nat} {G:Nat->Nat->Int} (h1:1<=n) (h2:n<=8) (hG:∀ i j,i<n->j<n->0<=G i j/\G i j<=9) {k:Nat} (hk:k<=12) (ht:total (mat n n (powN n G 1000000001 k))<=1000000000) :
  ywh (mat n n G) (k:Int)=some (mat n n (powN n G 1000000001 k),true)/\yed1 (mat n n G) (k:Int)=some (mat n n (powN n G 1000000001 k),true):=by
 have hin:inB 0 12 (k:Int)=true:=inB_iff.2 ⟨by omega,by omega⟩
 have hg:=yad1 h1 h2 hG
 have hs:=yvb1 (G:=G) h2
 have rows:=ygk1 h2 fun i j hi hj=>yby hG (by decide) (by decide) (most:=1000000001) k i j hi hj
 have small:∀ row∈mat n n (powN n G 1000000001 k),∀ x∈row,0<=x/\x<=1000000000:=by
  intro row hr x hx;have r1:=(rows row hr).2
  have s1:=yys1 (fun x hx=>(r1 x hx).1) x hx
  have s2:=yys1 (xs:=(mat n n (powN n G 1000000001 k)).map List.sum) (fun y hy=>by
   obtain⟨row',hr',rfl⟩:=List.mem_map.1 hy;exact(yrc1 (rows row' hr').2).1) row.sum (List.mem_map.2 ⟨row,hr,rfl⟩)
  unfold total at ht;exact⟨(r1 x hx).1,by omega⟩
 have rlen:∀ row∈mat n n (powN n G 1000000001 k),row.length=n:=fun row hr=>by
  obtain⟨i,hi,rfl⟩:=tab_mem.1 hr;exact yab _ _
 constructor
 ·unfold ywh ycm yzq
  rw[yuo _ hs,hg];simp only[Option.bind_some,if_true,yxc,hin,Bool.not_true,Bool.false_eq_true,if_false,yup h2 k (by omega)];rw[yuz _ _ (fun _=>false) (fun row hr=>by
   obtain⟨x,hx,e⟩:=ynu1 row (by rw[rlen row hr];exact h1) (by rw[rlen row hr];omega)
   unfold yvh;rw[e,Option.bind_some];have:=(small row hr x hx).2
   rw[decide_eq_false (by omega)]) (by rw[ysg];omega)]
  simp
 unfold yed1 yrl
 rw[yzf1 _ hs,hg]
 simp only[Option.bind_some,Bool.not_true,Bool.false_eq_true,if_false,yqe,hin,yhw h2 k (by omega)]
 have hx:loopO (yvk (mat n n (powN n G 1000000001 k))) 0=some (.inr ()):=by
  refine ydc (body:=yvk (mat n n (powN n G 1000000001 k))) n (fun i=>(i:Int)) (.inr ()) (fun i hi=>?_) (by simp[yvk,ysg])
  have hr:tab n (powN n G 1000000001 k i)∈mat n n (powN n G 1000000001 k):=tab_mem.2 ⟨i,hi,rfl⟩
  have hall:(tab n (powN n G 1000000001 k i)).all (inB 0 1000000000)=true:=by
   rw[List.all_eq_true];intro x hx;exact inB_iff.2 (small _ hr x hx)
  simp only[yvk,ysg,show((i:Int)<(n:Int)) from by omega,decide_true,if_true,yjs hi,Option.bind_some,yqa1 _ _ _ (show(tab n (powN n G 1000000001 k i)).length<=4611686018427387904 by rw[yab];omega),hall,Bool.not_true,Bool.false_eq_true,if_false,yta (show i<9223372036854775807 by omega)]
 rw[hx]
 rfl
theorem ywk1 {B:Nat} (hB:B<=100000) {c:Cur} (hc:Ck B c):Tot (yue c) fun r=>True:=by
 unfold yue
 refine(ypi hc (by omega) _ (by simp)).bind fun v1 ⟨m1,h1⟩=>?_
 exact(ypi h1 (by omega) _ (by simp)).bind fun v2 ⟨m2,h2⟩=>Tot.ret trivial
end Go.PV

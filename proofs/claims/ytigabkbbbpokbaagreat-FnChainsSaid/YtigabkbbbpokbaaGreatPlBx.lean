/-
  Plain laws of what the functions answer.
  Conditions: none.
-/
import Derived.Test.YtigabkbbbpokbaaGreatPlAx
import Derived.Test.YtigabkbbbpokbaaGreatPvCx
/-
 Plain laws: walks within a list of states;a sequence that begins with 1,obeys Newton's identities,and ends.
 Conditions: none.
-/
set_option linter.all false
namespace Go.PV
namespace Ser
def wk (A:Nat->Nat->Int) (S:List Nat):Nat->Nat->Nat->Int
 | 0,i,j=>if i=j then 1 else 0
 | k+1,i,j=>(ls S (fun l=>C (wk A S k i l*A l j))).at' 0
def R (A:Nat->Nat->Int) (S:List Nat) (i j:Nat):Ser:=mk fun k=>wk A S k i j
def del (i j:Nat):Ser:=if i=j then C 1 else C 0
def fst' (A:Nat->Nat->Int) (v:Nat) (S:List Nat):Ser:=sh (C (A v v))+sh (sh (ls S fun i=>ls S fun j=>C (A v i)*R A S i j*C (A j v)))
def gT (A:Nat->Nat->Int) (v:Nat) (S:List Nat) (j:Nat):Ser:=sh (ls S fun i=>C (A v i)*R A S i j)
def hT (A:Nat->Nat->Int) (v:Nat) (S:List Nat) (i:Nat):Ser:=sh (ls S fun j=>R A S i j*C (A j v))
section
variable {A:Nat->Nat->Int}
theorem yht1 (i j:Nat):(del i j).at' 0=if i=j then 1 else 0:=by unfold del;split <;> rfl
theorem yit1 (i j k:Nat):(del i j).at' (k+1)=0:=by unfold del;split <;> rfl
theorem R_eq (S:List Nat) (i j:Nat):R A S i j=del i j+sh (ls S fun l=>R A S i l*C (A l j)):=ext fun k=>by
 cases k with
 | zero=>rw[ywm,yht1,yub1,Int.add_zero];rfl
 | succ k =>
  rw[ywm,yit1,yvz,Int.zero_add];show(ls S (fun l=>C (wk A S k i l*A l j))).at' 0=_
  rcases ynz1 (S:=S) (f:=fun l=>C (wk A S k i l*A l j)) (g:=fun l=>R A S i l*C (A l j)) (a:=0) (b:=k) fun l _=>by rw[ykd1];rfl with e | e
  ·exact e
  subst e;cases k <;> rfl
theorem ycn1 {S:List Nat} {b x y:Nat->Ser} (hx:∀ j,j∈S->x j=b j+sh (ls S fun l=>x l*C (A l j))) (hy:∀ j,j∈S->y j=b j+sh (ls S fun l=>y l*C (A l j))):∀ j,j∈S->x j=y j:=by
 have key:∀ k,∀ j,j∈S->(x j).at' k=(y j).at' k:=by
  intro k;induction k with
  | zero=>intro j hj;rw[hx j hj,hy j hj,ywm,ywm,yub1,yub1]
  | succ k ih =>
   intro j hj;rw[hx j hj,hy j hj,ywm,ywm,yvz,yvz];rw[ygt1 (S:=S) (f:=fun l=>x l*C (A l j)) (g:=fun l=>y l*C (A l j)) (a:=k) fun l hl=>by rw[ykd1,ykd1,ih l hl]]
 exact fun j hj=>ext fun k=>key k j hj
theorem ygx1 {S:List Nat} (hS:S.Nodup) {j:Nat} (hj:j∈S) (f:Nat->Ser):ls S (fun l=>f l*del l j)=f j:=by
 induction S with
 | nil=>cases hj
 | cons v S ih =>
  have hv:=List.nodup_cons.1 hS;simp only[ls];by_cases h:v=j
  ·subst h
   rw[yen (g:=fun _=>C 0) fun i hi=>by
    have:i≠v:=fun h=>hv.1 (h▸hi)
    unfold del;rw[if_neg this,mul_comm',zero_mul'],yzg1,add_zero']
   unfold del;rw[if_pos rfl,mul_one']
  have:j∈S:=by
   rcases List.mem_cons.1 hj with h' | h'
   ·exact absurd h'.symm h
   exact h'
  rw[ih hv.2 this];unfold del;rw[if_neg h,mul_comm',zero_mul',zero_add']
section
variable {v:Nat} {S:List Nat}
theorem g_eq (hS:S.Nodup) {j:Nat} (hj:j∈S):gT A v S j=sh (C (A v j))+sh (ls S fun l=>gT A v S l*C (A l j)):=by
 have e1:(ls S fun i=>C (A v i)*R A S i j)=C (A v j)+ls S (fun i=>C (A v i)*sh (ls S fun l=>R A S i l*C (A l j))):=by
  rw[yen (g:=fun i=>C (A v i)*del i j+C (A v i)*sh (ls S fun l=>R A S i l*C (A l j))) fun i _=>by rw[← mul_add',← R_eq],ywz,ygx1 hS hj]
 have e2:ls S (fun i=>C (A v i)*sh (ls S fun l=>R A S i l*C (A l j)))=ls S fun l=>gT A v S l*C (A l j):=by
  rw[yen (g:=fun i=>ls S fun l=>sh (C (A v i)*R A S i l*C (A l j))) fun i _=>by
   rw[yzu,← ls_mul,yft1];exact congrArg sh (yen fun l _=>by ac_rfl),yvb1]
  refine yen fun l _=>?_
  unfold gT;rw[yop1,yft1,ls_mul']
 rw[show gT A v S j=sh (ls S fun i=>C (A v i)*R A S i j) from rfl,e1,e2,ygy]
theorem f_eq:fst' A v S=sh (C (A v v))+sh (ls S fun l=>gT A v S l*C (A l v)):=by
 unfold fst' gT
 congr 2
 rw[yen (f:=fun l=>sh (ls S fun i=>C (A v i)*R A S i l)*C (A l v)) (g:=fun l=>sh (ls S fun i=>C (A v i)*R A S i l*C (A l v))) fun l _=>by rw[yop1,ls_mul'],yft1,yvb1]
theorem yoz1 (hS:S.Nodup) {j:Nat} (hj:j∈S) (hv:v∉S):R A (v::S) v j=R A (v::S) v v*gT A v S j:=by
 refine ycn1 (A:=A) (S:=S) (b:=fun j=>sh (R A (v::S) v v*C (A v j))) (x:=fun j=>R A (v::S) v j) (y:=fun j=>R A (v::S) v v*gT A v S j) (fun j hj=>?_) (fun j hj=>?_) j hj
 ·have:v≠j:=fun h=>hv (h▸hj)
  rw[R_eq,ls,ygy];unfold del;rw[if_neg this,zero_add']
 rw[g_eq hS hj,mul_add',yzu,yzu,← ls_mul,← yzu,yzu]
 congr 2
 exact yen fun l _=>by ac_rfl
theorem U_eq (hS:S.Nodup) (hv:v∉S):R A (v::S) v v=C 1+R A (v::S) v v*fst' A v S:=by
 have e:R A (v::S) v v=del v v+sh (ls (v::S) fun l=>R A (v::S) v l*C (A l v)):=R_eq _ _ _
 rw[f_eq,mul_add',yzu,yzu,← ls_mul]
 rw[ls,yen (S:=S) (g:=fun l=>R A (v::S) v v*(gT A v S l*C (A l v))) fun l hl=>by rw[yoz1 hS hl hv];ac_rfl,ygy] at e
 unfold del at e
 rw[if_pos rfl] at e
 exact e
theorem yhx1 (hS:S.Nodup) (hv:v∉S) {i:Nat} (hi:i∈S):∀ j,j∈S->R A (v::S) i j=R A S i j+R A (v::S) i v*gT A v S j:=by
 refine ycn1 (A:=A) (S:=S) (b:=fun j=>del i j+sh (R A (v::S) i v*C (A v j))) (x:=fun j=>R A (v::S) i j) (y:=fun j=>R A S i j+R A (v::S) i v*gT A v S j) (fun j hj=>?_) (fun j hj=>?_)
 ·show R A (v::S) i j=_
  rw[R_eq (v::S),ls,ygy,add_assoc']
 have e1:=R_eq (A:=A) S i j
 have e2:=g_eq (A:=A) (v:=v) hS hj
 show R A S i j+R A (v::S) i v*gT A v S j=_
 rw[yen (S:=S) (f:=fun l=>(R A S i l+R A (v::S) i v*gT A v S l)*C (A l j)) (g:=fun l=>R A S i l*C (A l j)+R A (v::S) i v*(gT A v S l*C (A l j))) fun l _=>by rw[add_mul',mul_assoc'],ywz,ls_mul,ygy]
 have e3:R A (v::S) i v*gT A v S j=sh (R A (v::S) i v*C (A v j))+sh (R A (v::S) i v*ls S fun l=>gT A v S l*C (A l j)):=by
  rw[← yzu,← yzu,← mul_add',← e2]
 rw[e3,e1]
 ac_rfl
theorem X_eq (hS:S.Nodup) (hv:v∉S) {i:Nat} (hi:i∈S):R A (v::S) i v=hT A v S i*R A (v::S) v v:=by
 have hne:i≠v:=fun h=>hv (h▸hi)
 have e:R A (v::S) i v=del i v+sh (ls (v::S) fun l=>R A (v::S) i l*C (A l v)):=R_eq _ _ _
 rw[ls,yen (S:=S) (g:=fun l=>R A S i l*C (A l v)+R A (v::S) i v*(gT A v S l*C (A l v))) fun l hl=>by rw[yhx1 hS hv hi l hl,add_mul',mul_assoc'],ywz,ls_mul,ygy,ygy] at e
 unfold del at e
 rw[if_neg hne,zero_add'] at e
 have e2:R A (v::S) i v=hT A v S i+R A (v::S) i v*fst' A v S:=by
  rw[f_eq,mul_add',yzu,yzu];refine e.trans ?_
  unfold hT;ac_rfl
 -- X=h+X f,U=1+U f
 have e3:=U_eq (A:=A) hS hv
 have e4:R A (v::S) i v*R A (v::S) v v=R A (v::S) i v+R A (v::S) i v*R A (v::S) v v*fst' A v S:=by
  have:=congrArg (fun s=>R A (v::S) i v*s) e3
  simp only[mul_add',mul_one'] at this;exact this.trans (by ac_rfl)
 have e5:R A (v::S) i v*R A (v::S) v v=hT A v S i*R A (v::S) v v+R A (v::S) i v*R A (v::S) v v*fst' A v S:=by
  have:=congrArg (fun s=>s*R A (v::S) v v) e2
  simp only[add_mul'] at this;refine this.trans ?_
  ac_rfl
 have e6:=e4.symm.trans e5
 refine yyg1 (f:=R A (v::S) i v*R A (v::S) v v*fst' A v S) ?_
 rw[add_comm',e6,add_comm']
end
theorem yva2 {S:List Nat} (hS:S.Nodup) {i j:Nat} (hi:i∈S) (hj:j∈S):(ls S fun l=>R A S i l*R A S l j)=R A S i j+D (R A S i j):=by
 refine ycn1 (A:=A) (S:=S) (b:=fun j=>R A S i j) (x:=fun j=>ls S fun l=>R A S i l*R A S l j) (y:=fun j=>R A S i j+D (R A S i j)) (fun j hj=>?_) (fun j hj=>?_) j hj
 ·show(ls S fun l=>R A S i l*R A S l j)=_
  rw[yen (g:=fun l=>R A S i l*del l j+R A S i l*sh (ls S fun m=>R A S l m*C (A m j))) fun l _=>by rw[← mul_add',← R_eq],ywz,ygx1 hS hj]
  congr 1
  rw[yen (g:=fun l=>sh (ls S fun m=>R A S i l*R A S l m*C (A m j))) fun l _=>by
   rw[yzu,← ls_mul];exact congrArg sh (yen fun m _=>by ac_rfl),yft1,yvb1]
  exact congrArg sh (yen fun m _=>ls_mul' ..)
 show R A S i j+D (R A S i j)=R A S i j+_
 congr 1
 have h:=congrArg D (R_eq (A:=A) S i j)
 rw[h,yex1,D_sh,show D (del i j)=C 0 by unfold del;split <;> exact D_C _,zero_add',← ygy,← ls_D,← ywz]
 refine congrArg sh (yen fun l _=>?_)
 rw[yfx1,D_C,mul_comm' (R A S i l) (C 0),zero_mul',add_zero',add_mul']
def P (A:Nat->Nat->Int) (S:List Nat):Ser:=ls S fun i=>sh (ls S fun l=>R A S i l*C (A l i))
theorem yja2 (S:List Nat):(ls S fun i=>R A S i i)=(ls S fun _=>C 1)+P A S:=by
 unfold P
 rw[← ywz]
 exact yen fun i _=>by rw[R_eq];unfold del;rw[if_pos rfl]
theorem ypz1 (S:List Nat):(P A S).at' 0=0:=yff1 fun i _=>yub1 _
theorem ywa2 {v:Nat} {S:List Nat} (hS:S.Nodup):D (fst' A v S)=fst' A v S+ls S fun i=>hT A v S i*gT A v S i:=by
 have e1:(ls S fun i=>hT A v S i*gT A v S i)=sh (sh (ls S fun i=>ls S fun j=>C (A v i)*(R A S i j+D (R A S i j))*C (A j v))):=by
  have e2:(ls S fun i=>ls S fun j=>C (A v i)*(R A S i j+D (R A S i j))*C (A j v))=ls S fun i=>ls S fun j=>ls S fun l=>C (A v i)*(R A S i l*R A S l j)*C (A j v):=yen fun i hi=>yen fun j hj=>by
   rw[← yva2 hS hi hj,← ls_mul,← ls_mul']
  rw[e2,yen (g:=fun i=>ls S fun l=>ls S fun j=>C (A v i)*(R A S i l*R A S l j)*C (A j v)) fun i _=>yvb1 ..,yvb1,← yft1,← yft1];refine yen fun l _=>?_
  unfold hT gT
  rw[yop1,yzu,mul_comm',← ls_mul'];refine congrArg sh (congrArg sh (yen fun i _=>?_))
  rw[← ls_mul];exact yen fun j _=>by ac_rfl
 have e3:(ls S fun i=>ls S fun j=>C (A v i)*(R A S i j+D (R A S i j))*C (A j v))=(ls S fun i=>ls S fun j=>C (A v i)*R A S i j*C (A j v))+D (ls S fun i=>ls S fun j=>C (A v i)*R A S i j*C (A j v)):=by
  rw[← ls_D,← ywz];refine yen fun i _=>?_
  rw[← ls_D,← ywz];refine yen fun j _=>?_
  rw[yfx1,yfx1,D_C,D_C,zero_mul',zero_add',mul_comm' _ (C 0),zero_mul',add_zero',mul_add',add_mul']
 rw[e1,e3]
 unfold fst'
 generalize (ls S fun i=>ls S fun j=>C (A v i)*R A S i j*C (A j v))=F
 rw[yex1,D_sh,D_sh,D_sh,D_C,sh_0,add_zero',ygy,ygy,ygy]
 ac_rfl
theorem P_up {v:Nat} {S:List Nat} (hS:S.Nodup) (hv:v∉S):P A (v::S)=P A S+D (fst' A v S)*R A (v::S) v v:=by
 have e:=yja2 (A:=A) (v::S)
 have e0:=yja2 (A:=A) S
 rw[ls,ls,yen (S:=S) (g:=fun i=>R A S i i+hT A v S i*gT A v S i*R A (v::S) v v) fun i hi=>by rw[yhx1 hS hv hi i hi,X_eq hS hv hi];ac_rfl,ywz,ls_mul',e0] at e
 have eU:=U_eq (A:=A) hS hv
 rw[ywa2 hS,add_mul']
 refine yyg1 (f:=C 1+ls S fun _=>C 1) ?_
 rw[← e]
 generalize (ls S fun i=>hT A v S i*gT A v S i)=H at *
 generalize R A (v::S) v v=U at *
 rw[mul_comm' (fst' A v S) U]
 generalize hF:U*fst' A v S=F at *
 have:U+((ls S fun x=>C 1)+P A S+H*U)=C 1+F+((ls S fun x=>C 1)+P A S+H*U):=congrArg (·+((ls S fun x=>C 1)+P A S+H*U)) eU
 rw[this]
 ac_rfl
def E (A:Nat->Nat->Int):List Nat->Ser
 | []=>C 1
 | v::S=>E A S+C (-1)*(E A S*fst' A v S)
theorem E_up (v:Nat) (S:List Nat):E A (v::S)+E A S*fst' A v S=E A S:=by
 show E A S+C (-1)*(E A S*fst' A v S)+E A S*fst' A v S=E A S
 refine ext fun k=>?_
 rw[ywm,ywm,yio]
 omega
theorem yix1:∀ S:List Nat,(E A S).at' 0=1
 | []=>rfl
 | v::S=>by
  have h:=congrArg (fun s=>at' s 0) (E_up (A:=A) v S)
  simp only[ywm] at h;have h2:(E A S*fst' A v S).at' 0=0:=by
   show(E A S).at' 0*(fst' A v S).at' 0=0
   have:(fst' A v S).at' 0=0:=rfl
   rw[this];simp
  rw[h2,yix1 S] at h;omega
theorem E_U {v:Nat} {S:List Nat} (hS:S.Nodup) (hv:v∉S):E A (v::S)*R A (v::S) v v=E A S:=by
 have e1:=congrArg (fun s=>s*R A (v::S) v v) (E_up (A:=A) v S)
 simp only[add_mul'] at e1
 have e2:=congrArg (fun s=>E A S*s) (U_eq (A:=A) hS hv)
 simp only[mul_add',mul_one'] at e2
 refine yyg1 (f:=E A S*fst' A v S*R A (v::S) v v) ?_
 rw[add_comm',e1,e2,add_comm']
 ac_rfl
theorem yjx1:∀ {S:List Nat},S.Nodup->D (E A S)+E A S*P A S=C 0
 | [],_=>by
  show D (C 1)+C 1*C 0=C 0
  rw[D_C,one_mul',add_zero']
 | v::S,h=>by
  have hv:=List.nodup_cons.1 h;have ih:=yjx1 hv.2;have e1:=E_up (A:=A) v S
  have e2:=E_U (A:=A) hv.2 hv.1
  have e3:=P_up (A:=A) hv.2 hv.1
  have d1:=congrArg D e1;rw[yex1,yfx1] at d1;have p1:=congrArg (fun s=>s*P A S) e1
  simp only[add_mul'] at p1;have f1:=congrArg (fun s=>s*fst' A v S) ih
  simp only[add_mul',zero_mul'] at f1;have q:E A (v::S)*P A (v::S)=E A (v::S)*P A S+E A S*D (fst' A v S):=by
   rw[e3,mul_add',← e2];congr 1
   ac_rfl
  rw[q];refine ext fun k=>?_
  have a:=congrArg (fun s=>at' s k) d1
  have b:=congrArg (fun s=>at' s k) p1
  have c:=congrArg (fun s=>at' s k) f1
  have d:=congrArg (fun s=>at' s k) ih
  have r:E A S*P A S*fst' A v S=E A S*fst' A v S*P A S:=by ac_rfl
  rw[r] at c;have z:(C 0).at' k=0:=by cases k <;> rfl
  simp only[ywm] at a b c d ⊢;omega
end
end Ser
end Go.PV

/-
 Plain laws: characteristic coefficients obey Newton's identities;numbers of cycles;Euler products.
 Conditions: none.
-/
set_option linter.all false
namespace Go.PV
namespace Ser
theorem yvq1 (f:Nat->Ser) (v:Nat):∀ S:List Nat,ls (S++[v]) f=ls S f+f v
 | []=>by simp only[List.nil_append,ls];rw[add_zero',zero_add']
 | w::S=>by simp only[List.cons_append,ls];rw[yvq1 f v S,add_assoc']
theorem yld1 (f:Nat->Ser) (k:Nat):∀ n,(ls (List.range n) f).at' k=sm n fun i=>(f i).at' k
 | 0=>by cases k <;> rfl
 | n+1=>by rw[List.range_succ,yvq1,ywm,yld1 f k n,yyc]
section
variable {n:Nat} {A:Nat->Nat->Int}
theorem R_pw (i j:Nat) (k:Nat):(R A (List.range n) i j).at' k=pw n A k i j:=by
 have key:∀ k j,wk A (List.range n) k i j=pw n A k i j:=by
  intro k;induction k with
  | zero=>intro j;rfl
  | succ k ih=>intro j;simp only[wk,pw];rw[yld1];exact ybq fun l _=>by rw[ynp1,ih]
 exact key k j
theorem P_cw (k:Nat):(P A (List.range n)).at' (k+1)=cw n A (k+1):=by
 unfold P
 rw[yld1]
 refine ybq fun i _=>?_
 rw[yvz,yld1]
 show _=sm n fun l=>pw n A k i l*A l i
 exact ybq fun l _=>by rw[ykd1,R_pw]
theorem yah1 (f:Nat->Int):∀ n,sm (n+1) f=f 0+sm n fun i=>f (i+1)
 | 0=>by simp[yyc,yiq]
 | n+1=>by rw[yyc,yah1 f n,yyc n (fun i=>f (i+1))];omega
theorem ykx1 (k:Nat):∀ f g:Ser,(f*g).at' k=sm (k+1) fun j=>f.at' j*g.at' (k-j):=by
 induction k with
 | zero=>intro f g;rw[yyc,yiq,Int.zero_add];rfl
 | succ k ih =>
  intro f g;rw[yah1];have:=ih (mk fun i=>f.at' (i+1)) g
  show f.at' 0*g.at' (k+1)+(mk (fun i=>f.at' (i+1))*g).at' k=_
  rw[this];congr 1
  exact ybq fun j _=>by rw[show k+1-(j+1)=k-j by omega];rfl
def ec (n:Nat) (A:Nat->Nat->Int) (k:Nat):Int:=(E A (List.range n)).at' k
theorem ywq1:ec n A 0=1:=yix1 _
theorem ypi1 (k:Nat):(k:Int)*ec n A k+sm k (fun j=>ec n A j*cw n A (k-j))=0:=by
 have h:=congrArg (fun s=>at' s k) (yjx1 (A:=A) (S:=List.range n) List.nodup_range)
 have z:(C 0).at' k=0:=by cases k <;> rfl
 simp only[ywm,D_at] at h
 rw[z,ykx1,yyc,Nat.sub_self,ypz1,Int.mul_zero,Int.add_zero] at h
 rw[← h]
 show _=(k:Int)*ec n A k+_
 congr 1
 refine ybq fun j hj=>?_
 obtain⟨q,hq⟩:∃ q,k-j=q+1:=⟨k-j-1,by omega⟩
 rw[hq,P_cw]
 rfl
def T (k:Nat):Ser:=mk fun j=>if j=k then 1 else 0
theorem yqz1:T 0=C 1:=ext fun j=>by cases j <;> rfl
theorem ylx1 (k:Nat):T (k+1)=sh (T k):=ext fun j=>by
 cases j with
 | zero=>rfl
 | succ j=>show(if j+1=k+1 then(1:Int) else 0)=if j=k then 1 else 0;simp
theorem yrz1 (X:Ser):∀ k j,(X*T k).at' j=if k<=j then X.at' (j-k) else 0
 | 0,j=>by rw[yqz1,mul_one'];simp
 | k+1,0=>by rw[ylx1,yzu];simp[yub1]
 | k+1,j+1=>by
  rw[ylx1,yzu,yvz,yrz1 X k j];by_cases h:k<=j
  ·rw[if_pos h,if_pos (by omega),show j+1-(k+1)=j-k by omega]
  rw[if_neg h,if_neg (by omega)]
theorem D_T (k:Nat):D (T k)=C (k:Int)*T k:=ext fun j=>by
 rw[yio,D_at]
 show(j:Int)*(if j=k then 1 else 0)=(k:Int)*if j=k then 1 else 0
 by_cases h:j=k
 ·subst h;rfl
 rw[if_neg h];simp
def Lk (k:Nat):Ser:=mk fun j=>if 1<=j/\j % k=0 then(k:Int) else 0
theorem yxa2 {k:Nat} (hk:1<=k):Lk k=Lk k*T k+C (k:Int)*T k:=ext fun j=>by
 rw[ywm,yrz1,yio]
 show(if 1<=j/\j % k=0 then(k:Int) else 0)=(if k<=j then(if 1<=j-k/\(j-k) % k=0 then(k:Int) else 0) else 0)+(k:Int)*(if j=k then 1 else 0)
 by_cases h:k<=j
 ·rw[if_pos h]
  have hm:(j-k) % k=j % k:=by
   have:=Nat.sub_add_cancel h
   conv=>rhs;rw[← this]
   rw[Nat.add_mod_right]
  rw[hm];by_cases hj:j=k
  ·subst hj
   have:¬ (1<=j-j/\j % j=0):=by omega
   rw[if_neg this,if_pos ⟨hk,Nat.mod_self j⟩];simp
  rw[if_neg hj];by_cases h0:j % k=0
  ·rw[if_pos ⟨by omega,h0⟩,if_pos ⟨by omega,h0⟩];simp
  rw[if_neg (fun h=>h0 h.2),if_neg (fun h=>h0 h.2)];simp
 rw[if_neg h]
 have:¬ (1<=j/\j % k=0):=fun ⟨h1,h2⟩=>by rw[Nat.mod_eq_of_lt (by omega)] at h2;omega
 rw[if_neg this,if_neg (by omega)]
 simp
def fac (k:Nat) (X:Ser):Ser:=X+C (-1)*(X*T k)
theorem ysz1 (k:Nat) (X:Ser):fac k X+X*T k=X:=ext fun j=>by
 unfold fac
 rw[ywm,ywm,yio];omega
theorem ytz1 (k:Nat) (X:Ser) (j:Nat):(fac k X).at' j=X.at' j-if k<=j then X.at' (j-k) else 0:=by
 unfold fac
 rw[ywm,yio,yrz1];omega
theorem ydn1 {k:Nat} (hk:1<=k) {X Q:Ser} (h:D X+X*Q=C 0):D (fac k X)+fac k X*(Q+Lk k)=C 0:=by
 have e1:=ysz1 k X
 have d1:=congrArg D e1
 rw[yex1,yfx1,D_T] at d1
 have p1:=congrArg (fun s=>s*Q) e1
 have l1:=congrArg (fun s=>s*Lk k) e1
 have f1:=congrArg (fun s=>s*T k) h
 have q1:=congrArg (fun s=>X*s) (yxa2 hk)
 simp only[add_mul',zero_mul',mul_add'] at p1 l1 f1 q1
 rw[mul_add']
 refine ext fun j=>?_
 have a:=congrArg (fun s=>at' s j) d1
 have b:=congrArg (fun s=>at' s j) p1
 have c:=congrArg (fun s=>at' s j) l1
 have d:=congrArg (fun s=>at' s j) f1
 have e:=congrArg (fun s=>at' s j) q1
 have g:=congrArg (fun s=>at' s j) h
 have r1:X*Q*T k=X*T k*Q:=by ac_rfl
 have r2:X*(Lk k*T k)=X*T k*Lk k:=by ac_rfl
 rw[r1] at d
 rw[r2] at e
 have z:(C 0).at' j=0:=by cases j <;> rfl
 simp only[ywm] at a b c d e g ⊢
 omega
def facs (k:Nat):Nat->Ser->Ser
 | 0,X=>X
 | c+1,X=>facs k c (fac k X)
theorem ywb1 {k:Nat} (hk:1<=k):∀ (c:Nat) {X Q:Ser},D X+X*Q=C 0->D (facs k c X)+facs k c X*(Q+C (c:Int)*Lk k)=C 0
 | 0,X,Q,h=>by
  show D X+X*(Q+C 0*Lk k)=C 0
  rw[zero_mul',add_zero'];exact h
 | c+1,X,Q,h=>by
  have:=ywb1 hk c (ydn1 hk h)
  rw[add_assoc'] at this;have e:C ((c+1:Nat):Int)*Lk k=Lk k+C (c:Int)*Lk k:=ext fun j=>by
   rw[ywm,yio,yio,show((c+1:Nat):Int)=(c:Int)+1 by omega,Int.add_mul];omega
  rw[e];exact this
def eu (c:Nat->Nat):Nat->Ser
 | 0=>C 1
 | m+1=>facs (m+1) (c (m+1)) (eu c m)
def euP (c:Nat->Nat):Nat->Ser
 | 0=>C 0
 | m+1=>euP c m+C (c (m+1):Int)*Lk (m+1)
theorem yqi1 (c:Nat->Nat):∀ m,D (eu c m)+eu c m*euP c m=C 0
 | 0=>by
  show D (C 1)+C 1*C 0=C 0
  rw[D_C,one_mul',add_zero']
 | m+1=>ywb1 (by omega) _ (yqi1 c m)
theorem yri1 {k:Nat} (hk:1<=k):∀ c X,(facs k c X).at' 0=X.at' 0
 | 0,X=>rfl
 | c+1,X=>by
  show(facs k c (fac k X)).at' 0=_
  rw[yri1 hk c,ytz1,if_neg (by omega)];omega
theorem yen1 (c:Nat->Nat):∀ m,(eu c m).at' 0=1
 | 0=>rfl
 | m+1=>by
  show(facs (m+1) (c (m+1)) (eu c m)).at' 0=1
  rw[yri1 (by omega),yen1 c m]
theorem yjt1 (c:Nat->Nat) {j:Nat} (hj:1<=j):∀ m,(euP c m).at' j=sm (m+1) fun d=>if j % d=0 then(d:Int)*(c d:Int) else 0
 | 0=>by
  rw[yyc,yiq,Nat.mod_zero,if_neg (by omega)];show(C 0).at' j=0+0
  cases j <;> rfl
 | m+1=>by
  rw[yyc,← yjt1 c hj m];show(euP c m+C (c (m+1):Int)*Lk (m+1)).at' j=_
  rw[ywm,yio];congr 1
  show(c (m+1):Int)*(if 1<=j/\j % (m+1)=0 then((m+1:Nat):Int) else 0)=_
  by_cases h:j % (m+1)=0
  ·rw[if_pos ⟨hj,h⟩,if_pos h,Int.mul_comm]
  rw[if_neg (fun hh=>h hh.2),if_neg h,Int.mul_zero]
theorem yfn1 (c:Nat->Nat):∀ m,(euP c m).at' 0=0
 | 0=>rfl
 | m+1=>by
  show(euP c m+C (c (m+1):Int)*Lk (m+1)).at' 0=0
  rw[ywm,yfn1 c m,yio];show 0+(c (m+1):Int)*0=0
  simp
theorem ymx1 (c:Nat->Nat) (m k:Nat):(k:Int)*(eu c m).at' k+sm k (fun j=>(eu c m).at' j*(euP c m).at' (k-j))=0:=by
 have h:=congrArg (fun s=>at' s k) (yqi1 c m)
 have z:(C 0).at' k=0:=by cases k <;> rfl
 simp only[ywm,D_at] at h
 rw[z,ykx1,yyc,Nat.sub_self,yfn1,Int.mul_zero,Int.add_zero] at h
 exact h
theorem yya2 {c:Nat->Nat} {m:Nat} (h:∀ j,1<=j->j<=m->(euP c m).at' j=cw n A j):∀ k,k<=m->(eu c m).at' k=ec n A k:=by
 intro k
 induction k using Nat.strongRecOn with
 | _ k ih =>
  intro hk;by_cases h0:k=0
  ·subst h0;rw[yen1,ywq1]
  have a:=ymx1 c m k;have b:=ypi1 (n:=n) (A:=A) k
  rw[ybq (g:=fun j=>ec n A j*cw n A (k-j)) fun j hj=>by rw[ih j hj (by omega),h (k-j) (by omega) (by omega)]] at a
  have:(k:Int)*(eu c m).at' k=(k:Int)*ec n A k:=by omega
  exact Int.eq_of_mul_eq_mul_left (by omega) this
end
end Ser
end Go.PV

/-
 Plain laws: numbers of cycles on the reference's side;the laws.
 Conditions: none.
-/
set_option linter.all false
namespace Go.PV
def zc (n:Nat) (G:Nat->Nat->Int) (m:Nat):Int:=if 1000000000<cw n G m then -1 else Int.tdiv (cyN (cw n G) m) (m:Int)
def zS (n:Nat) (G:Nat->Nat->Int) (m i:Nat):Int×Int:=(cw n G m-sm (i+1) (fun e=>if m % e=0 then cyN (cw n G) e else 0),((i+1:Nat):Int))
section
variable {n:Nat} {G:Nat->Nat->Int} (hn:n<=8) (hG:∀ i j,i<n->j<n->0<=G i j/\G i j<=9)
include hn hG
theorem z_0 {m:Nat} (h1:1<=m):zS n G m 0=(cw n G m,1):=by
 have:¬ (m % 0=0):=by rw[Nat.mod_zero];omega
 unfold zS
 rw[yyc,if_neg this,yiq]
 simp
end
end Go.PV

/-
 Plain laws: numbers of cycles are not negative.
 Conditions: none.
-/
set_option linter.all false
namespace Go.PV
section
variable {n:Nat} {A:Nat->Nat->Int} (hA:∀ i j,i<n->j<n->0<=A i j)
include hA
theorem ygn1 (d:Nat) {i j l:Nat} (hi:i<n) (hj:j<n) (hl:l<n):pw n A d i l*A l j<=pw n A (d+1) i j :=
 ypw1 hl (f:=fun l=>pw n A d i l*A l j) fun k hk=>Int.mul_nonneg (yjj hA d hi hk) (hA k j hk hj)
theorem ykt1 {i j:Nat} (hi:i<n) (hj:j<n) (h:1<=A i j) (h':1<=A j i):∀ k,A i j<=pw n A (2*k+1) i j
 | 0=>by rw[show 2*0+1=1 from rfl,yrm1 hi];exact Int.le_refl _
 | k+1=>by
  have ih:=ykt1 hi hj h h' k
  have s1:=ygn1 hA (2*k+1) hi hi hj
  have s2:=ygn1 hA (2*k+1+1) hi hj hi
  have m1:=Int.mul_le_mul (show(1:Int)<=pw n A (2*k+1) i j by omega) h' (by omega) (by omega)
  have m2:=Int.mul_le_mul_of_nonneg_right (show(1:Int)<=pw n A (2*k+1+1) i i by omega) (show 0<=A i j by omega)
  have e:2*(k+1)+1=2*k+1+1+1:=by omega
  rw[e];omega
theorem ynx1 {i:Nat} (hi:i<n):∀ k,1<=k->A i i<=pw n A k i i:=by
 intro k
 induction k with
 | zero=>intro h;omega
 | succ k ih =>
  intro _;by_cases h0:k=0
  ·subst h0;rw[Nat.zero_add,yrm1 hi];exact Int.le_refl _
  have h1:=ih (by omega)
  have h2:=ygn1 hA k hi hi hi;have h3:=hA i i hi hi;by_cases h4:A i i=0
  ·rw[h4];exact yjj hA _ hi hi
  have h5:=Int.mul_le_mul h1 (show(1:Int)<=A i i by omega) (by omega) (by omega)
  omega
theorem ylt1 (k:Nat):cw n A 2-tr n A<=cw n A ((2*k+1)*2)-cw n A (2*k+1):=by
 rw[ysm1,cw2,cw2,show cw n A (2*k+1)=tr n (pw n A (2*k+1)) from rfl]
 have d:∀ B:Nat->Nat->Int,S2 n (fun i j=>B i j*B j i)-tr n B=S2 n fun i j=>B i j*B j i-if j=i then B i i else 0:=fun B=>by
  unfold S2 tr
  rw[← yqw1];refine ybq fun i hi=>?_
  rw[yqw1,ygd1 hi fun _=>B i i]
 rw[d,d]
 refine yow1 fun i hi=>yow1 fun j hj=>?_
 have p1:=yjj hA (2*k+1) hi hj
 have p2:=yjj hA (2*k+1) hj hi
 have a1:=hA i j hi hj
 have a2:=hA j i hj hi
 by_cases h:j=i
 ·subst h
  simp only[if_true];have h1:=ynx1 hA hj (2*k+1) (by omega)
  by_cases h0:A j j=0
  ·rw[h0]
   by_cases h3:pw n A (2*k+1) j j=0
   ·rw[h3];decide
   have:=Int.mul_le_mul_of_nonneg_left (show(1:Int)<=pw n A (2*k+1) j j by omega) p1
   omega
  have m1:=Int.mul_le_mul_of_nonneg_left h1 (show 0<=A j j-1 by omega)
  have m2:=Int.mul_le_mul_of_nonneg_right (show A j j-1<=pw n A (2*k+1) j j-1 by omega) p1
  grind
 simp only[if_neg h]
 by_cases h0:A i j=0\/A j i=0
 ·have:A i j*A j i=0:=by rcases h0 with h0 | h0 <;> rw[h0] <;> simp
  rw[this];have:=Int.mul_nonneg p1 p2
  omega
 have b1:=ykt1 hA hi hj (by omega) (by omega) k
 have b2:=ykt1 hA hj hi (by omega) (by omega) k
 have:=Int.mul_le_mul b1 b2 a2 p1
 omega
theorem ylw {m:Nat} (h1:1<=m) (h2:m<=12):0<=cyN (cw n A) m:=by
 have hB:∀ i j,i<n->j<n->0<=pw n A 2 i j:=fun i j hi hj=>yjj hA 2 hi hj
 have o3:=ylt1 hA 1
 have o5:=ylt1 hA 2
 have o6:=ylt1 hB 1
 rw[← ysm1 2 2,← ysm1 2 ((2*1+1)*2),← ysm1 2 (2*1+1),show tr n (pw n A 2)=cw n A 2 from rfl] at o6
 rw[← yiz1] at o3 o5
 have dv:∀ d m:Nat,m % d=0->1<=m->cw n A d<=cw n A m:=fun d m h hm=>yjz1 hA (Nat.dvd_of_mod_eq_zero h) hm
 have n1:0<=cw n A 1:=yqy fun i hi=>yjj hA 1 hi hi
 have d2:=dv 1 2 rfl (by omega)
 have d3:=dv 1 3 rfl (by omega)
 have d4:=dv 2 4 rfl (by omega)
 have d5:=dv 1 5 rfl (by omega)
 have d7:=dv 1 7 rfl (by omega)
 have d8:=dv 4 8 rfl (by omega)
 have d9:=dv 3 9 rfl (by omega)
 have d11:=dv 1 11 rfl (by omega)
 have:m=1\/m=2\/m=3\/m=4\/m=5\/m=6\/m=7\/m=8\/m=9\/m=10\/m=11\/m=12:=by omega
 rcases this with rfl | rfl | rfl | rfl | rfl | rfl | rfl | rfl | rfl | rfl | rfl | rfl <;> (simp[cyN,yyc,yiq,mu] at*<;> omega)
end
end Go.PV

/-
 Plain laws: tables of numbers of cycles.
 Conditions: none.
-/
set_option linter.all false
namespace Go.PV
section
variable {n:Nat} {G:Nat->Nat->Int} (hn:n<=8) (hG:∀ i j,i<n->j<n->0<=G i j/\G i j<=9)
include hn hG
def zT (n:Nat) (G:Nat->Nat->Int) (i:Nat):Int:=Int.tdiv (cyN (cw n G) (i+1)) ((i+1:Nat):Int)
end
end Go.PV

/-
 Plain laws: the coefficients of a characteristic polynomial,without words.
 Conditions: none.
-/
set_option linter.all false
namespace Go.PV
def mmN (n:Nat) (A M:Nat->Nat->Int) (i j:Nat):Int:=sm n fun l=>A i l*M l j
def addI (M:Nat->Nat->Int) (c:Int) (i j:Nat):Int:=M i j+if i=j then c else 0
def faM (n:Nat) (A:Nat->Nat->Int):Nat->Int×(Nat->Nat->Int)
 | 0=>(1,fun _ _=>0)
 | k+1=>(Int.tdiv (0-tr n (mmN n A (addI (faM n A k).2 (faM n A k).1))) ((k+1:Nat):Int),mmN n A (addI (faM n A k).2 (faM n A k).1))
def btk:Nat->Nat
 | 0=>0
 | 1=>9
 | k+2=>72*(btk (k+1)+8*btk (k+1) / (k+1))
section
variable {n:Nat} {A:Nat->Nat->Int}
end
end Go.PV

/-
 Plain laws: the characteristic polynomial of a companion table,and of a table without closed walks.
 Conditions: none.
-/
set_option linter.all false
namespace Go.PV
def cmpM (n:Nat) (p:Nat->Int) (i j:Nat):Int:=if i+1<n then(if j=i+1 then 1 else 0) else -p j
def hcM (n:Nat) (p:Nat->Int) (k i j:Nat):Int :=
 if i+k<n then(if i<=j/\j<=i+k then p (n-k+(j-i)) else 0) else(if i+k-n<=j/\j<i then -p (n-k-(i-j)) else 0)
section
variable {n:Nat} {p:Nat->Int}
end
end Go.PV

/-
 Plain laws: which states are reached,and graphs without closed walks.
 Conditions: none.
-/
set_option linter.all false
namespace Go.PV
def wsh (R:Nat->Nat->Bool) (k i j:Nat):Bool:=R i j||(R i k&&R k j)
def rch (n:Nat) (G:Nat->Nat->Int):Nat->Nat->Nat->Bool
 | 0=>fun i j=>decide (G i j>0)
 | k+1=>wsh (rch n G k) k
section
variable {n:Nat} {G:Nat->Nat->Int}
variable (hG:∀ i j,i<n->j<n->0<=G i j)
include hG
def hgt (n:Nat) (R:Nat->Nat->Bool) (i:Nat):Int:=sm n fun m=>if R i m=true then 1 else 0
omit hG in
end
def noLoop (n:Nat) (G:Nat->Nat->Int):Bool:=(tab n fun i=>rch n G n i i).all (!·)
end Go.PV

/-
 Plain laws: power sums,Euler products,companion graphs.
 Conditions: none.
-/
set_option linter.all false
namespace Go.PV
theorem yxq1 (x k:Int):w64 (x+18446744073709551616*k)=w64 x:=by
 unfold w64 IntKind.wrap
 have e:(2 ^ IntKind.bits .i64:Int)=18446744073709551616:=by decide
 simp only[e,Int.add_mul_emod_self_left]
theorem yhn1 (x:Int):∃ k,w64 x=x+18446744073709551616*k:=by
 unfold w64 IntKind.wrap
 have e:(2 ^ IntKind.bits .i64:Int)=18446744073709551616:=by decide
 simp only[e]
 split
 ·exact⟨-(x / 18446744073709551616)-1,by have:=Int.mul_ediv_add_emod x 18446744073709551616;omega⟩
 exact⟨-(x / 18446744073709551616),by have:=Int.mul_ediv_add_emod x 18446744073709551616;omega⟩
theorem yxb1 (a b:Int):w64 (w64 a+b)=w64 (a+b):=by
 obtain⟨k,e⟩:=yhn1 a
 rw[e,show a+18446744073709551616*k+b=a+b+18446744073709551616*k by omega,yxq1]
def isPol (p:List Int):Bool:=isPoly p&&((p.length:Int)==0||p.getLastD 0 != 0)
def isMon (p:List Int):Bool:=decide ((p.length:Int)>0)&&p.getLastD 0==1
def psAsk (p:List Int) (k:Int):Bool:=isPol p&&(isMon p&&(decide (2<=(p.length:Int))&&inB 1 12 k))
def epAsk (a:List Int):Bool:=inB 1 8 a.length&&a.all (inB 0 100)
end Go.PV

/-
 Plain laws: numbers of cycles divide;Euler products and power sums,and what they are.
 Conditions: none.
-/
set_option linter.all false
namespace Go.PV
open Ser
section
variable {n:Nat} {A:Nat->Nat->Int}
def cN (n:Nat) (A:Nat->Nat->Int) (d:Nat):Nat:=(Int.tdiv (cyN (cw n A) d) (d:Int)).toNat
theorem ymt1 {m j:Nat} (hG:∀ d,1<=d->d<=m->(d:Int)*(cN n A d:Int)=cyN (cw n A) d) (h1:1<=j) (h2:j<=12):(j<=m->(euP (cN n A) m).at' j=cw n A j)/\(j=m+1->(euP (cN n A) m).at' j=cw n A j-cyN (cw n A) j):=by
 have hinv:=yws1 (cw n A) h1 h2
 have hsum:∀ q,q<=m+1->(sm q fun d=>if j % d=0 then(d:Int)*(cN n A d:Int) else 0)=sm q fun e=>if j % e=0 then cyN (cw n A) e else 0:=fun q hq=>ybq fun d hd=>by
  by_cases h0:d=0
  ·subst h0
   rw[Nat.mod_zero,if_neg (by omega),if_neg (by omega)]
  split
  ·exact hG d (by omega) (by omega)
  rfl
 refine⟨fun hjm=>?_,fun hjm=>?_⟩
 ·rw[yjt1 _ h1,hsum (m+1) (Nat.le_refl _)]
  have:∀ q,(sm (j+1+q) fun e=>if j % e=0 then cyN (cw n A) e else 0)=sm (j+1) fun e=>if j % e=0 then cyN (cw n A) e else 0:=by
   intro q;induction q with
   | zero=>rfl
   | succ q ih =>
    rw[← Nat.add_assoc,yyc,ih,Nat.mod_eq_of_lt (show j<j+1+q by omega),if_neg (by omega)];omega
  have e:m+1=j+1+(m-j):=by omega
  rw[e,this,yyc,Nat.mod_self,if_pos rfl];exact hinv
 rw[yjt1 _ h1,hsum (m+1) (Nat.le_refl _),← hjm]
 omega
theorem yyq1 (hA:∀ i j,i<n->j<n->0<=A i j):∀ m:Nat,m<=12->∀ d:Nat,1<=d->d<=m->(d:Int)*(cN n A d:Int)=cyN (cw n A) d
 | 0,_,d,h1,h2=>by omega
 | m+1,hm,d,h1,h2=>by
  have ih:=yyq1 hA m (by omega)
  by_cases hd:d<=m
  ·exact ih d h1 hd
  obtain rfl:d=m+1:=by omega
  have a:=ymx1 (cN n A) m (m+1)
  have b:=ypi1 (n:=n) (A:=A) (m+1)
  have hag:∀ k,k<=m->(eu (cN n A) m).at' k=ec n A k:=yya2 fun j j1 j2=>(ymt1 ih j1 (by omega)).1 j2
  rw[yah1] at a b
  rw[ybq (g:=fun j=>ec n A (j+1)*cw n A (m+1-(j+1))) fun j hj=>by rw[hag (j+1) (by omega),(ymt1 ih (show 1<=m+1-(j+1) by omega) (by omega)).1 (by omega)],yen1,Nat.sub_zero,(ymt1 ih (show 1<=m+1 by omega) hm).2 rfl] at a
  rw[ywq1,Nat.sub_zero] at b;have hdv:((m+1:Nat):Int)∣cyN (cw n A) (m+1):=⟨(eu (cN n A) m).at' (m+1)-ec n A (m+1),by rw[Int.mul_sub];omega⟩
  have h0:=ylw hA h1 hm;unfold cN;rw[Int.toNat_of_nonneg (Int.tdiv_nonneg h0 (by omega)),Int.mul_tdiv_cancel' hdv]
end
theorem yox1 (a b:Int):w64 (a*w64 b)=w64 (a*b):=by
 obtain⟨k,e⟩:=yhn1 b
 rw[e,Int.mul_add,show a*(18446744073709551616*k)=18446744073709551616*(a*k) by rw[Int.mul_left_comm],yxq1]
section
variable {m:Nat} (hm:m<=8)
include hm
end
end Go.PV

/-
 Plain laws: numbers of loops of a graph with at most one arrow from a state to another,on both sides.
 Conditions: none.
-/
set_option linter.all false
namespace Go.PV
section
variable {n:Nat} {G:Nat->Nat->Int} (hn:n<=8) (hG:∀ i j,i<n->j<n->0<=G i j/\G i j<=1)
include hn hG
theorem g9:∀ i j,i<n->j<n->0<=G i j/\G i j<=9:=fun i j hi hj=>by have:=hG i j hi hj;omega
theorem gp:∀ i j,i<n->j<n->0<=G i j:=fun i j hi hj=>(hG i j hi hj).1
theorem yka2 {f:Nat->Int} {B:Int} (m:Nat) (h:∀ i,i<m->f i<=B):sm m f<=B*m:=by
 induction m with
 | zero=>simp[yiq]
 | succ m ih =>
  rw[yyc];have h1:=ih fun i hi=>h i (by omega)
  have h2:=h m (by omega)
  have e:B*((m+1:Nat):Int)=B*(m:Int)+B:=by rw[show((m+1:Nat):Int)=(m:Int)+1 by omega,Int.mul_add,Int.mul_one]
  omega
theorem yuz1:∀ (d:Nat) {i j:Nat},i<n->j<n->pw n G d i j<=((8 ^ d:Nat):Int)
 | 0,i,j,_,_=>by
  simp only[pw];split <;> simp
 | d+1,i,j,hi,hj=>by
  show sm n (fun k=>pw n G d i k*G k j)<=_
  have h1:=yka2 hn hG (f:=fun k=>pw n G d i k*G k j) (B:=((8 ^ d:Nat):Int)) n fun k hk=>by
   have a:=yuz1 d hi hk;have b:=yjj (gp hn hG) d hi hk
   have c:=hG k j hk hj;have:=Int.mul_le_mul_of_nonneg_left c.2 b
   omega
  have h2:((8 ^ d:Nat):Int)*(n:Int)<=((8 ^ d:Nat):Int)*8:=Int.mul_le_mul_of_nonneg_left (by omega) (Int.natCast_nonneg _)
  have e:((8 ^ (d+1):Nat):Int)=((8 ^ d:Nat):Int)*8:=by rw[Nat.pow_succ];exact Int.natCast_mul ..
  omega
theorem yza2 (d:Nat):cw n G d<=((8 ^ d:Nat):Int)*8:=by
 have h1:=yka2 hn hG (f:=fun i=>pw n G d i i) n fun i hi=>yuz1 hn hG d hi hi
 have h2:((8 ^ d:Nat):Int)*(n:Int)<=((8 ^ d:Nat):Int)*8:=Int.mul_le_mul_of_nonneg_left (by omega) (Int.natCast_nonneg _)
 have:cw n G d=sm n fun i=>pw n G d i i:=rfl
 omega
theorem p8 {d:Nat} (hd:d<=12):(8 ^ d:Nat)<=68719476736:=Nat.le_trans (Nat.pow_le_pow_right (by omega) hd) (by decide)
theorem cwb {d:Nat} (hd:d<=12):0<=cw n G d/\cw n G d<=549755813888:=by
 have h1:=yza2 hn hG d
 have h2:=p8 hn hG hd
 have h3:=yua2 hn (g9 hn hG) d
 omega
theorem yin1:∀ (d:Nat),d<=12->∀ {i j:Nat},i<n->j<n->powN n G 1000000000000000000 d i j=pw n G d i j
 | 0,_,i,j,_,_=>rfl
 | d+1,hd,i,j,hi,hj=>by
  have hA:=gp hn hG;show foldN n (fun acc k=>capMul 1000000000000000000 acc (powN n G 1000000000000000000 d i k) (G k j)) 0=sm n fun k=>pw n G d i k*G k j
  have:∀ m,m<=n->foldN m (fun acc k=>capMul 1000000000000000000 acc (powN n G 1000000000000000000 d i k) (G k j)) 0=sm m (fun k=>pw n G d i k*G k j)/\0<=sm m (fun k=>pw n G d i k*G k j)/\sm m (fun k=>pw n G d i k*G k j)<=68719476736*m:=by
   intro m;induction m with
   | zero=>intro _;exact⟨rfl,by simp[yiq],by simp[yiq]⟩
   | succ m ih =>
    intro hm;obtain⟨e,b0,b1⟩:=ih (by omega)
    have a1:=yuz1 hn hG d hi (show m<n by omega)
    have a0:=yjj hA d hi (show m<n by omega)
    have c:=hG m j (by omega) hj
    have h8:=p8 hn hG (show d<=12 by omega)
    have m0:=Int.mul_nonneg a0 c.1;have m1:=Int.mul_le_mul_of_nonneg_left c.2 a0;rw[ynt,e,yyc,yin1 d (by omega) hi (show m<n by omega)];unfold capMul;rw[ytb (n:=pw n G d i m*G m j) (by omega) (by omega),ytb (by omega) (by omega),if_neg (by omega)]
    exact⟨rfl,by omega,by omega⟩
  exact(this n (Nat.le_refl n)).1
def lcN (n:Nat) (G:Nat->Nat->Int) (m:Nat):Int:=Int.tdiv (cyN (cw n G) m) (m:Int)
theorem cyb {m:Nat} (h1:1<=m) (hm:m<=12):0<=cyN (cw n G) m/\cyN (cw n G) m<=549755813888:=by
 have h0:=ylw (gp hn hG) h1 hm
 have h2:=yws1 (cw n G) h1 hm
 have h3:=(cwb hn hG hm).2
 have h4:0<=sm m (fun e=>if m % e=0 then cyN (cw n G) e else 0):=yqy fun e he=>by
  split
  ·rename_i hd
   by_cases h0:e=0
   ·subst h0;rw[Nat.mod_zero] at hd;omega
   exact ylw (gp hn hG) (by omega) (by omega)
  omega
 omega
theorem yvz1 {e:Nat} (h1:1<=e) (he:e<=12):(e:Int)*lcN n G e=cyN (cw n G) e:=by
 have:=yyq1 (gp hn hG) 12 (Nat.le_refl _) e h1 he
 unfold cN at this
 rw[Int.toNat_of_nonneg (Int.tdiv_nonneg (ylw (gp hn hG) h1 he) (by omega))] at this
 exact this
theorem ypj1 {m d:Nat} (h1:1<=d) (hm:m<=12) (hd:d<=m) (X:Int) (s:Int):loopO (ygf (m:Int) (X,(d:Int)) (mat n n (pw n G d))) (w64 s,0)=some (w64 (s+mu (m / d)*cw n G d)):=by
 have hdd:=Nat.div_pos (show d<=m by omega) (show 0<d by omega)
 have hdl:=Nat.div_le_self m d
 have hx:=yrc (body:=ygf (m:Int) (X,(d:Int)) (mat n n (pw n G d))) n (fun i=>(w64 (s+mu (m / d)*sm i fun i=>pw n G d i i),(i:Int))) (w64 (s+mu (m / d)*cw n G d)) (fun i hi=>by
  have hdv:Int.tdiv (m:Int) (d:Int)=((m / d:Nat):Int):=rfl
  simp only[ygf,ymt,show((i:Int)<(n:Int)) from by omega,decide_true,if_true,ysq hi,Option.bind_some,hdv,ytb (n:=((m / d:Nat):Int)) (by omega) (by omega),ywa1 hdd (show m / d<=12 by omega),yma hi,yya (show i<9223372036854775807 by omega),yyc]
  congr 3
  rw[yxb1,Int.add_comm,yxb1,Int.mul_add];congr 1
  omega) (by
  simp only[ygf,ymt,Int.lt_irrefl,decide_false,Bool.false_eq_true,if_false];rfl)
 rw[yiq,Int.mul_zero,Int.add_zero] at hx
 exact hx
theorem yhy {m:Nat} (h1:1<=m) (hm:m<=12):ylm (mat n n G) (m:Int)=some (lcN n G m):=by
 have hx:=yrc (body:=yhf (mat n n G) (m:Int)) m (fun i=>(w64 (sm (i+1) fun e=>if m % e=0 then mu (m / e)*cw n G e else 0),((i+1:Nat):Int))) (w64 (cyN (cw n G) m)) (fun i hi=>by
  have ht:Int.tmod (m:Int) ((i+1:Nat):Int)=((m % (i+1):Nat):Int):=rfl
  have hp:mat n n (powN n G 1000000000000000000 (i+1))=mat n n (pw n G (i+1)):=yqu fun a b ha hb=>yin1 hn hG (i+1) (by omega) ha hb
  simp only[yhf,show(((i+1:Nat):Int)<=(m:Int)) from by omega,decide_true,if_true];rw[yea (by omega),ht,yyc (i+1) (fun e=>if m % e=0 then mu (m / e)*cw n G e else 0)]
  by_cases hd:m % (i+1)=0
  ·have hb:(((m % (i+1):Nat):Int)==0)=true:=by rw[hd];rfl
   rw[if_pos hb,if_pos hd,yby hn (i+1) (by omega),hp,Option.bind_some,ypj1 hn hG (by omega) hm (by omega),Option.bind_some];simp only[yff,yya (show i+1<9223372036854775807 by omega)]
  ·have hb:(((m % (i+1):Nat):Int)==0)=false:=by rw[beq_eq_false_iff_ne];exact fun h=>hd (by exact_mod_cast h)
   rw[hb,if_neg hd,Int.add_zero];simp only[Bool.false_eq_true,if_false,yff,yya (show i+1<9223372036854775807 by omega)]) (by
  simp only[yhf,show ¬ (((m+1:Nat):Int)<=(m:Int)) from by omega,decide_false,Bool.false_eq_true,if_false];rfl)
 have e0:w64 (sm (0+1) fun e=>if m % e=0 then mu (m / e)*cw n G e else 0)=0:=by
  rw[yyc,yiq,Nat.mod_zero,if_neg (by omega)];rfl
 rw[e0] at hx
 have hx':loopO (yhf (mat n n G) (m:Int)) (0,1)=some (w64 (cyN (cw n G) m)):=hx
 have hb:=cyb hn hG h1 hm
 have hab:(Int.tdiv (cyN (cw n G) m) (m:Int)).natAbs<=(cyN (cw n G) m).natAbs:=by rw[Int.natAbs_tdiv];exact Nat.div_le_self _ _
 unfold ylm
 rw[hx',Option.bind_some,ytb (by omega) (by omega)]
 unfold ysk
 rw[yea (by omega),ytb (by omega) (by omega)]
 rfl
theorem ywz1 (d:Nat) {f:Nat} (hf:f<n) (X:List Int×Int):loopO (yrg (mat n n G) (tab n (fun k=>w64 (pw n G d f k)),X.2)) (tab n (fun _=>0),0)=some (tab n fun k=>w64 (pw n G (d+1) f k)):=by
 have inner:∀ i,i<n->loopO (yqg (w64 (pw n G d f i)) (tab n (G i))) (tab n (fun k=>w64 (sm i fun l=>pw n G d f l*G l k)),0)=some (tab n fun k=>w64 (sm (i+1) fun l=>pw n G d f l*G l k)):=fun i hi=>by
  have hx:=yrc (body:=yqg (w64 (pw n G d f i)) (tab n (G i))) n (fun j=>(tab n (fun k=>if k<j then w64 (sm (i+1) fun l=>pw n G d f l*G l k) else w64 (sm i fun l=>pw n G d f l*G l k)),(j:Int))) (tab n fun k=>w64 (sm (i+1) fun l=>pw n G d f l*G l k)) (fun j hj=>by
   simp only[yqg,yxa,show((j:Int)<(n:Int)) from by omega,decide_true,if_true,yma hj,Option.bind_some,Nat.lt_irrefl,if_false,Int.toNat_natCast,ybw hj,yya (show j<9223372036854775807 by omega)]
   congr 3
   refine yjr fun k hk=>?_
   by_cases h:k=j
   ·subst h
    rw[if_pos rfl,if_pos (by omega),yyc i (fun l=>pw n G d f l*G l k),yxb1,Int.mul_comm (w64 (pw n G d f i)),yox1,Int.add_comm,yxb1,Int.add_comm,Int.mul_comm (G i k)]
   ·rw[if_neg h]
    by_cases h2:k<j
    ·rw[if_pos h2,if_pos (by omega)]
    rw[if_neg h2,if_neg (by omega)]) (by
   simp only[yqg,yxa,Int.lt_irrefl,decide_false,Bool.false_eq_true,if_false];congr 2
   exact yjr fun k hk=>by rw[if_pos hk])
  simp only[Nat.not_lt_zero,if_false] at hx;exact hx
 have hx:=yrc (body:=yrg (mat n n G) (tab n (fun k=>w64 (pw n G d f k)),X.2)) n (fun i=>(tab n (fun k=>w64 (sm i fun l=>pw n G d f l*G l k)),(i:Int))) (tab n fun k=>w64 (pw n G (d+1) f k)) (fun i hi=>by
  simp only[yrg,yxa,show((i:Int)<(n:Int)) from by omega,decide_true,if_true,yma hi,ysq hi,Option.bind_some,inner i hi,yjm,yya (show i<9223372036854775807 by omega)]) (by
  simp only[yrg,yxa,Int.lt_irrefl,decide_false,Bool.false_eq_true,if_false];rfl)
 exact hx
theorem yxt {m:Nat} (hm:m<=12):ydo (mat n n G) (m:Int)=some (cw n G m):=by
 have hx:=yrc (body:=ytg (mat n n G) (m:Int)) n (fun i=>(w64 (sm i fun i=>pw n G m i i),(i:Int))) (w64 (cw n G m)) (fun f hf=>by
  have steps:=yrc (body:=ysg (mat n n G) (m:Int)) m (fun d=>(tab n (fun k=>w64 (pw n G d f k)),(d:Int))) (tab n fun k=>w64 (pw n G m f k)) (fun d hd=>by
   simp only[ysg,ymt,show((d:Int)<(m:Int)) from by omega,decide_true,if_true,Int.toNat_natCast,ybi1,ywz1 hn hG d hf (tab n (fun k=>w64 (pw n G d f k)),(d:Int)),Option.bind_some,yim,yhm,yya (show d<9223372036854775807 by omega)]) (by
   simp only[ysg,Int.lt_irrefl,decide_false,Bool.false_eq_true,if_false])
  have e0:(tab n (fun _=>(0:Int))).set f 1=tab n fun k=>w64 (pw n G 0 f k):=by
   rw[ybw hf];refine yjr fun k _=>?_
   simp only[pw];by_cases h:k=f
   ·subst h;simp;rfl
   rw[if_neg h,if_neg (Ne.symm h)];rfl
  have steps':loopO (ysg (mat n n G) (m:Int)) (tab n (fun k=>w64 (pw n G 0 f k)),0)=some (tab n fun k=>w64 (pw n G m f k)):=steps
  simp only[ytg,ymt,show((f:Int)<(n:Int)) from by omega,decide_true,if_true];rw[yea (by omega),Int.toNat_natCast,ybi1,yma hf,Option.bind_some,Int.toNat_natCast,e0,steps',Option.bind_some]
  simp only[ygm,yma hf,Option.bind_some,yfm,yya (show f<9223372036854775807 by omega),yyc];congr 3
  rw[yxb1,Int.add_comm,yxb1,Int.add_comm]) (by
  simp only[ytg,ymt,Int.lt_irrefl,decide_false,Bool.false_eq_true,if_false];rfl)
 have hx':loopO (ytg (mat n n G) (m:Int)) (0,0)=some (w64 (cw n G m)):=hx
 have hb:=cwb hn hG hm
 unfold ydo
 rw[hx',Option.bind_some,ytb (by omega) (by omega)]
 rfl
theorem yxz1 {m:Nat} (h1:1<=m) (hm:m<=12):∀ k,k<=m->0<=(sm k fun e=>if m % e=0 then cyN (cw n G) e else 0)/\(sm k fun e=>if m % e=0 then cyN (cw n G) e else 0)<=549755813888*(k:Int)
 | 0,_=>by simp[yiq]
 | k+1,h=>by
  have ih:=yxz1 h1 hm k (by omega)
  rw[yyc];have:0<=(if m % k=0 then cyN (cw n G) k else 0)/\(if m % k=0 then cyN (cw n G) k else 0)<=549755813888:=by
   split
   ·rename_i hd
    by_cases hk:k=0
    ·subst hk;rw[Nat.mod_zero] at hd;omega
    exact cyb hn hG (by omega) (by omega)
   omega
  omega
theorem yzq1 {rc:List (List Int)->Int->Option Int} {m i:Nat} (h1:1<=m) (h2:m<=12) (hi:i+1<m) (hr:m % (i+1)=0->rc (mat n n G) ((i+1:Nat):Int)=some (lcN n G (i+1))) :
  yzc rc (mat n n G) (m:Int) (zS n G m i)=some (.inl (zS n G m (i+1))):=by
 have ht:Int.tmod (m:Int) ((i+1:Nat):Int)=((m % (i+1):Nat):Int):=rfl
 have b1:=yxz1 hn hG h1 h2 (i+1) (by omega)
 have b2:=yxz1 hn hG h1 h2 (i+1+1) (by omega)
 have g0:=cwb hn hG h2
 unfold zS
 simp only[yzc,show(((i+1:Nat):Int)<(m:Int)) from by omega,decide_true,if_true]
 rw[yea (by omega),ht]
 by_cases hd:m % (i+1)=0
 ·have hb:(((m % (i+1):Nat):Int)==0)=true:=by rw[hd];rfl
  have hz:=yvz1 hn hG (show 1<=i+1 by omega) (show i+1<=12 by omega)
  have hc:=cyb hn hG (show 1<=i+1 by omega) (show i+1<=12 by omega)
  rw[if_pos hb,hr hd,Option.bind_some,hz];rw[yyc (i+1) (fun e=>if m % e=0 then cyN (cw n G) e else 0),if_pos hd] at b2 ⊢
  rw[ytb (n:=cyN (cw n G) (i+1)) (by omega) (by omega),ytb (by omega) (by omega),yya (show i+1<9223372036854775807 by omega)];congr 3
  omega
 have hb:(((m % (i+1):Nat):Int)==0)=false:=by rw[beq_eq_false_iff_ne];exact fun h=>hd (by exact_mod_cast h)
 rw[hb]
 simp only[Bool.false_eq_true,if_false]
 rw[yyc (i+1) (fun e=>if m % e=0 then cyN (cw n G) e else 0),if_neg hd,yya (show i+1<9223372036854775807 by omega),Int.add_zero]
theorem ypx1 {rc:List (List Int)->Int->Option Int} {m i:Nat} (h1:1<=m) (h2:m<=12) (hi:i+1=m):yzc rc (mat n n G) (m:Int) (zS n G m i)=some (.inr (cyN (cw n G) m)):=by
 have:=yws1 (cw n G) h1 h2
 unfold zS
 rw[hi]
 simp only[yzc,Int.lt_irrefl,decide_false,Bool.false_eq_true,if_false]
 congr 2
 omega
theorem yqx1 {m:Nat} (h1:1<=m) (h2:m<=12):yyh (m:Int) (cyN (cw n G) m)=some (lcN n G m):=by
 have b:=cyb hn hG h1 h2
 have hab:(Int.tdiv (cyN (cw n G) m) (m:Int)).natAbs<=(cyN (cw n G) m).natAbs:=by rw[Int.natAbs_tdiv];exact Nat.div_le_self _ _
 unfold yyh lcN
 rw[yea (by omega),ytb (by omega) (by omega)]
theorem yyz1 {rc:List (List Int)->Int->Option Int} {m:Nat} (h1:1<=m) (h2:m<=12) (hr:∀ e,1<=e->e<m->rc (mat n n G) (e:Int)=some (lcN n G e)):yph rc (mat n n G) (m:Int)=some (lcN n G m):=by
 unfold yph
 rw[yxt hn hG h2,Option.bind_some]
 have hx:=yrc (body:=yzc rc (mat n n G) (m:Int)) (m-1) (zS n G m) (cyN (cw n G) m) (fun i hi=>yzq1 hn hG h1 h2 (by omega) fun _=>hr (i+1) (by omega) (by omega)) (ypx1 hn hG h1 h2 (by omega))
 rw[z_0 hn (g9 hn hG) h1] at hx
 rw[hx,Option.bind_some,yqx1 hn hG h1 h2]
theorem yrx1 {rc:List (List Int)->Int->Option Int} {m:Nat} (h1:1<=m) (h2:m<=12) (hr:∀ e r,1<=e->e<m->rc (mat n n G) (e:Int)=some r->r=lcN n G e) {r:Int} (h:yph rc (mat n n G) (m:Int)=some r):r=lcN n G m:=by
 unfold yph at h
 rw[yxt hn hG h2,Option.bind_some,← z_0 hn (g9 hn hG) h1] at h
 obtain⟨y,e1,h⟩:=Option.bind_eq_some_iff.1 h
 have:=yvs1 (fun s=>∃ i,i+1<=m/\s=zS n G m i) (fun y=>y=cyN (cw n G) m) (fun s o ⟨i,hi,e2⟩ hb=>by
  subst e2;by_cases hlt:i+1<m
  ·have key:(m % (i+1)=0->rc (mat n n G) ((i+1:Nat):Int)=some (lcN n G (i+1)))->o=.inl (zS n G m (i+1)):=fun h3=>by
    rw[yzq1 hn hG h1 h2 hlt h3] at hb;exact(Option.some.inj hb).symm
   have:o=.inl (zS n G m (i+1)):=by
    cases hv:rc (mat n n G) ((i+1:Nat):Int) with
    | some v =>
     have:=hr (i+1) v (by omega) hlt hv
     exact key fun _=>by rw[hv,this]
    | none =>
     by_cases hd:m % (i+1)=0
     ·exfalso
      have ht:Int.tmod (m:Int) ((i+1:Nat):Int)=((m % (i+1):Nat):Int):=rfl
      have hbb:(((m % (i+1):Nat):Int)==0)=true:=by rw[hd];rfl
      unfold zS at hb;simp only[yzc,show(((i+1:Nat):Int)<(m:Int)) from by omega,decide_true,if_true] at hb;rw[yea (by omega),ht,if_pos hbb,hv] at hb;cases hb
     exact key fun h=>absurd h hd
   subst this;exact⟨i+1,by omega,rfl⟩
  rw[ypx1 hn hG h1 h2 (by omega)] at hb;obtain rfl:=Option.some.inj hb
  rfl) ⟨0,by omega,rfl⟩ e1
 rw[this,yqx1 hn hG h1 h2] at h
 exact(Option.some.inj h).symm
theorem yza1 {m:Nat} (h1:1<=m) (h2:m<=12):ybv (mat n n G) (m:Int)=some (lcN n G m):=by
 have tot:∀ (k m:Nat),1<=m->m<=12->m<=k->ykm k (mat n n G) (m:Int)=some (lcN n G m):=by
  intro k;induction k with
  | zero=>intro m a b c;omega
  | succ k ih=>intro m a b c;exact yyz1 hn hG a b fun e e1 e2=>ih e e1 (by omega) (by omega)
 have par:∀ (k m:Nat) (r:Int),1<=m->m<=12->ykm k (mat n n G) (m:Int)=some r->r=lcN n G m:=by
  intro k;induction k with
  | zero=>intro m r _ _ h;cases h
  | succ k ih=>intro m r a b h;exact yrx1 hn hG a b (fun e r e1 e2 h=>ih e r e1 (by omega) h) h
 exact yzr1 m (tot m m h1 h2 (Nat.le_refl m)) fun k r h=>par k m r h1 h2 h
end
end Go.PV

/-
 Plain law: FnExactCountLoops.
 Conditions: none.
-/
set_option linter.all false
namespace Go.PV
theorem yab1 (f:List Pt) (l:List Iv) (k:Int) (hf:f.length<=4611686018427387904) (hl:l.length<=4611686018427387904):∃ r,yhk f l k=some r/\ykk f l k=some r:=by
 unfold yhk ykk yhd ylq
 rw[ypl,yvk]
 obtain⟨c,s1,_,_⟩:=ykr f hf
 rcases yxa1 f l hf hl with⟨g1,g2⟩ | ⟨m,G,m1,m8,hG,a1,a2,g1,g2⟩
 ·rw[g1,g2,s1]
  simp only[Option.bind_some,Bool.not_false,if_true];cases c
  ·exact⟨_,rfl,rfl⟩
  simp only[if_true,ysl l hl,Option.bind_some];cases areIv l
  ·exact⟨_,rfl,rfl⟩
  cases inB 1 12 k <;> exact⟨_,rfl,rfl⟩
 rw[g1,g2,a1]
 simp only[Option.bind_some,if_true,ysl l hl,a2,Bool.not_true,Bool.false_eq_true,if_false]
 cases hk:inB 1 12 k
 ·exact⟨_,rfl,rfl⟩
 obtain⟨k1,k2⟩:=inB_iff.1 hk
 obtain⟨q,rfl⟩:=Int.eq_ofNat_of_zero_le (show 0<=k by omega)
 simp only[Bool.not_true,Bool.false_eq_true,if_false,Option.bind_some,yza1 m8 hG (show 1<=q by omega) (show q<=12 by omega),yhy m8 hG (show 1<=q by omega) (show q<=12 by omega)]
 exact⟨_,rfl,rfl⟩
end Go.PV

/-
 Plain law: FnChains.
 Conditions: none.
-/
set_option linter.all false
namespace Go.PV
theorem yyb1 (xs:List Int) (hl:xs.length<=4611686018427387904):yco xs xs=some true:=by
 have hx:=yrc (body:=yng xs xs) xs.length (fun i=>(i:Int)) (.inr ()) (fun i hi=>by
  simp only[yng,show((i:Int)<(xs.length:Int)) from by omega,decide_true,if_true,ybk hi,Option.bind_some,bne_self_eq_false,Bool.false_eq_true,if_false,yya (show i<9223372036854775807 by omega)]) (by simp[yng])
 unfold yco
 have hx:loopO (yng xs xs) 0=_:=hx
 rw[hx]
 simp[ydm]
theorem yxz (xs:List Iv) (hl:xs.length<=4611686018427387904):ylk xs xs=some true:=by
 have hx:=yrc (body:=yfe xs xs) xs.length (fun i=>(i:Int)) (.inr ()) (fun i hi=>by
  simp only[yfe,show((i:Int)<(xs.length:Int)) from by omega,decide_true,if_true,ybk hi,Option.bind_some,beq_self_eq_true,Bool.and_self,Bool.not_true,Bool.false_eq_true,if_false,yya (show i<9223372036854775807 by omega)]) (by simp[yfe])
 unfold ylk
 have hx:loopO (yfe xs xs) 0=_:=hx
 rw[hx]
 simp[ysj]
theorem yjn1 {a b:Rt} (ha:isRat a=true) (hb:isRat b=true):yqr a b=some (less a b):=by
 obtain⟨a1,a2,a3,a4,_⟩:=isRat_iff.1 ha
 obtain⟨b1,b2,b3,b4,_⟩:=isRat_iff.1 hb
 have m1:=yql a3 a4 (show -1000000000<=b.2 by omega) b2
 have m2:=yql b3 b4 (show -1000000000<=a.2 by omega) a2
 unfold yqr less
 rw[ytb (by omega) (by omega),ytb (by omega) (by omega)]
theorem ypp1 (a1:List Int) (h:Bytes a1):laws_FnChains_k1 a1 ()=some true:=by
 unfold laws_FnChains_k1
 obtain⟨v,e,l1,l2⟩:=yfy h
 obtain⟨w,e',l3⟩:=ygx h
 obtain⟨r,c1,c2⟩:=yab1 v.1 v.2.1 v.2.2 (by omega) (by omega)
 obtain⟨s,h1,h2,h3⟩:=yid1 w.1 w.2.1 w.2.2 (by omega)
 rw[e,Option.bind_some,c1,c2,Option.bind_some,Option.bind_some,e',Option.bind_some,h1,h2,Option.bind_some,Option.bind_some]
 simp only[beq_self_eq_true,Bool.not_true,bne_self_eq_false,Bool.or_self,Bool.false_eq_true,if_false]
 cases hs:s.2 with
 | false=>rfl
 | true =>
  rw[h3 hs];simp[hs]
theorem yqj1 {n m:Nat} {p:Nat->Pt} {q Q:Nat->Iv} (hc:Curve n p) (hm:ymg (tab n p)=some true) (m1:1<=m) (m8:m<=8) (hq:∀ a,a<m->isIv (q a)=true) (hI:ShI n p m q Q 0) (ok:Bool) :
  loopO (laws_FnChains_b1 (tab n p,tab m q) (tab m Q,ok) (tab m Q,ok)) 0=some (.inr ()):=by
 refine yrc (body:=laws_FnChains_b1 (tab n p,tab m q) (tab m Q,ok) (tab m Q,ok)) (m-1) (fun i=>(i:Int)) (.inr ()) (fun i hi=>?_) ?_
 ·obtain⟨i1,i2,i3⟩:=hI.iv i (by omega) (by omega)
  obtain⟨j1,_,_⟩:=hI.iv (i+1) (by omega) (by omega)
  have hs:=hI.shr i (by omega) (by omega)
  obtain⟨_,_,r1,r2⟩:=ybd i1;obtain⟨_,_,k1,k2⟩:=ybd (hq i (by omega))
  simp only[laws_FnChains_b1,yxa,yya (show i<9223372036854775807 by omega),show(((i+1:Nat):Int)<(m:Int)) from by omega,decide_true,if_true,yma (show i<m by omega),yma (show i+1<m by omega),Option.bind_some,ykw hc hm i1 j1 hs.ok,hs.cov,Bool.not_true,Bool.false_eq_true,if_false,yjn1 r1 k1,yjn1 k2 r2,i2,i3]
 simp only[laws_FnChains_b1,yxa,yya (show m-1<9223372036854775807 by omega),show ¬ (((m-1+1:Nat):Int)<(m:Int)) from by omega,decide_false,Bool.false_eq_true,if_false]
theorem laws_FnChains_eq (a0 a1:List Int) (h0:Bytes a0) (h1:Bytes a1):laws_FnChains a0 a1=some true:=by
 unfold laws_FnChains yod1
 rw[Option.bind_some]
 by_cases hbig:(decide ((a0.length:Int)>1048576)||decide ((a1.length:Int)>w64 (1048576-(a0.length:Int))))=true
 ·rw[if_pos hbig]
 rw[if_neg hbig]
 obtain⟨v,e,l1,l2⟩:=yfx h0
 rw[e,Option.bind_some]
 have k1:=ypp1 a1 h1
 rcases yoj1 v.1 v.2 (by omega) (by omega) with h | ⟨F,h⟩
 ·rw[h.a1,h.a2,h.b1,h.b2,h.c1,h.c2,h.d1,h.d2]
  simp only[Option.bind_some,beq_self_eq_true,Bool.not_true,Bool.false_eq_true,if_false,yxz [] (by simp),yyb1 [] (by simp)]
  exact k1
 have hF:=h.fl
 have hlen:=h.len
 have hS:∃ S:List Iv×Bool,S.1.length<=8/\(S.2=true->chB v.2.length F=true)/\ypc v.1 v.2=some S/\yec v.1 v.2=some S /\
   (S.2=true->(if((S.1.length:Int) != (v.2.length:Int))=true then some true else(idxO S.1 (w64 ((v.2.length:Int)-1))).bind fun v31=>(idxO v.2 (w64 ((v.2.length:Int)-1))).bind fun v32=>some (!(((v31.1.1==v32.1.1)&&(v31.1.2==v32.1.2))&&((v31.2.1==v32.2.1)&&(v31.2.2==v32.2.2)))))=some false/\loopO (laws_FnChains_b1 v S S) 0=some (.inr ())):=by
  rcases h.d with⟨d1,d2⟩ | ⟨hch,n,m,p,q,Q,ef,el,hc,m1,m8,hq,hmap,hI,d1,d2⟩
  ·exact⟨([],false),by simp,(fun hh=>by cases hh),d1,d2,fun hh=>by cases hh⟩
  refine⟨(tab m Q,true),by rw[yxa];omega,fun _=>hch,d1,d2,fun _=>⟨?_,?_⟩⟩
  ·rw[el,yxa]
   have hw:w64 ((m:Int)-1)=((m-1:Nat):Int):=by rw[ytb (by omega) (by omega)];omega
   rw[yxa,hw,yma (show m-1<m by omega),yma (show m-1<m by omega),hI.lst];simp
  obtain⟨f,l⟩:=v;simp only at ef el hmap
  subst ef el
  exact yqj1 hc hmap m1 m8 hq hI true
 obtain⟨S,hS,hch,d1,d2,hl⟩:=hS
 rw[h.a1,h.a2,h.b1,h.b2,h.c1,h.c2,d1,d2]
 simp only[Option.bind_some,beq_self_eq_true,Bool.not_true,Bool.false_eq_true,if_false,yxz S.1 (by omega),yyb1 F (by omega),if_true]
 have w14:(if S.2=true then some (!chB v.2.length F) else some false)=some false:=by
  cases hs:S.2 with
  | false=>rfl
  | true=>rw[hch hs];rfl
 rw[w14,Option.bind_some]
 simp only[Bool.false_eq_true,if_false]
 have w17:(if((F.length:Int)==0)=true then(if(!(chB v.2.length F==true))=true then some true else if((F.length:Int)==0)=true then some (!chB v.2.length F) else some false) else(idxO F 0).bind fun v16=>if(!(chB v.2.length F==(v16==w64 ((v.2.length:Int)-1))))=true then some true else if((F.length:Int)==0)=true then some (!chB v.2.length F) else some false)=some false:=by
  cases F with
  | nil=>rfl
  | cons x F =>
   have hne:(((x::F).length:Int)==0)=false:=by simp;omega
   rw[hne,ytb (by omega) (by omega),if_neg (by simp)];rw[show idxO (x::F) 0=some x from rfl,Option.bind_some];have:chB v.2.length (x::F)=(x==(v.2.length:Int)-1):=rfl
   rw[this];simp
 rw[w17,Option.bind_some]
 simp only[Bool.false_eq_true,if_false]
 cases hs:S.2 with
 | false=>simp only[Bool.false_eq_true,if_false];exact k1
 | true =>
  obtain⟨g1,g2⟩:=hl hs;simp only[if_true];rw[g1,Option.bind_some];simp only[Bool.false_eq_true,if_false];rw[g2];exact k1
end Go.PV

/-
 What comes in as bytes is bytes.
 Conditions: none.
-/
set_option linter.all false
namespace Go.PV
theorem ykn1 {l:List Int} (h:(Ty.sl (.int .u8)).ok l):Bytes l:=by
 refine⟨Nat.le_trans h.1 (by decide),fun b hb=>?_⟩
 have h2:(Lit.int .u8 b).wf=true:=h.2 b hb
 simp only[Lit.wf,Bool.and_eq_true,decide_eq_true_eq] at h2
 have e1:IntKind.u8.min=0:=by decide
 have e2:IntKind.u8.max=255:=by decide
 omega
end Go.PV

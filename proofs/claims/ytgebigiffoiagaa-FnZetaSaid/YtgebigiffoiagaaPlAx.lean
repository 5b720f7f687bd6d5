/-
  Plain laws of what the functions answer.
  Conditions: none.
-/
import Derived.KernelRfl
import Derived.Test.YtgebigiffoiagaaPvCx
import Derived.Test.YtgebigiffoiagaaDf
set_option linter.all false
/-
 Plain laws: lists and tables by their places.
 Conditions: none.
-/
namespace Go.PV
section
variable {α β : Type}
def tab (n : Nat) (f : Nat → α) : List α := (List.range n).map f
theorem tab_len (n : Nat) (f : Nat → α) : (tab n f).length = n := by simp [tab]
theorem tab_get {n i : Nat} {f : Nat → α} (h : i < n) : (tab n f)[i]? = some (f i) := by simp [tab, h]
theorem ylc {n i : Nat} {f : Nat → α} (h : n ≤ i) : (tab n f)[i]? = none := by simp [tab, h]
theorem yga {n i : Nat} {f : Nat → α} (h : i < n) : idxO (tab n f) (i : Int) = some (f i) := by rw [yzb, tab_get h]
theorem tab_ext {n : Nat} {f g : Nat → α} (h : ∀ i, i < n → f i = g i) : tab n f = tab n g := List.map_congr_left fun i hi => h i (List.mem_range.1 hi)
theorem tab_set {n i : Nat} {f : Nat → α} {v : α} (h : i < n) : (tab n f).set i v = tab n (fun k => if k = i then v else f k) := by
 apply List.ext_getElem?
 intro j
 rw [List.getElem?_set]
 by_cases hij : i = j
 ·subst hij
  rw [if_pos rfl, if_pos (by rw [tab_len]; exact h), tab_get h, if_pos rfl]
 ·rw [if_neg hij]
  by_cases hj : j < n
  ·rw [tab_get hj, tab_get hj, if_neg (Ne.symm hij)]
  ·rw [ylc (by omega), ylc (by omega)]
theorem rep_tab (n : Nat) (v : α) : List.replicate n v = tab n (fun _ => v) := by
 apply List.ext_getElem?
 intro j
 by_cases hj : j < n
 ·rw [tab_get hj]; simp [hj]
 ·rw [ylc (by omega)]; simp [hj]
theorem yac (n : Nat) (f : Nat → α) : tab n f ++ [f n] = tab (n + 1) f := by simp [tab, List.range_succ]
theorem yok (f : Nat → α) : tab 0 f = [] := rfl
theorem tab_eta [Inhabited α] (xs : List α) : xs = tab xs.length (fun i => xs.getD i default) := by
 apply List.ext_getElem?
 intro j
 by_cases hj : j < xs.length
 ·rw [tab_get hj]; simp [hj]
 ·rw [ylc (by omega)]; simp; omega
def mat (n m : Nat) (f : Nat → Nat → α) : List (List α) := tab n fun i => tab m (f i)
theorem mat_ext {n m : Nat} {f g : Nat → Nat → α} (h : ∀ i j, i < n → j < m → f i j = g i j) : mat n m f = mat n m g := tab_ext fun i hi => tab_ext fun j hj => h i j hi hj
theorem yfg {n m i j : Nat} {f : Nat → Nat → α} {r : Nat → α} {v : α} (hi : i < n) (hj : j < m) : (mat n m f).set i ((tab m r).set j v) = mat n m (fun a b => if a = i then (if b = j then v else r b) else f a b) := by
 unfold mat
 rw [tab_set hi, tab_set hj]
 refine tab_ext fun a _ => ?_
 by_cases ha : a = i
 ·subst ha; simp
 ·rw [if_neg ha]; exact tab_ext fun b _ => by simp [ha]
theorem mat_len (n m : Nat) (f : Nat → Nat → α) : (mat n m f).length = n := tab_len _ _
theorem ywa {n m i : Nat} {f : Nat → Nat → α} (h : i < n) : idxO (mat n m f) (i : Int) = some (tab m (f i)) := yga h
def foldN (n : Nat) (g : β → Nat → β) (s : β) : β := (List.range n).foldl g s
theorem yra (n : Nat) (g : β → Nat → β) (s : β) : foldN (n + 1) g s = g (foldN n g s) n := by simp [foldN, List.range_succ]
theorem ytc (g : β → Nat → β) (s : β) : foldN 0 g s = s := rfl
theorem ygg {n : Nat} {g h : β → Nat → β} {s : β} (H : ∀ b i, i < n → g b i = h b i) : foldN n g s = foldN n h s := by
 induction n with
 | zero => rfl
 | succ n ih => rw [yra, yra, ih fun b i hi => H b i (by omega), H _ _ (by omega)]
end
end Go.PV

/-
 Plain laws: sums, powers of tables of numbers, traces.
 Conditions: none.
-/
set_option linter.all false
namespace Go.PV
def sm (n : Nat) (f : Nat → Int) : Int := foldN n (fun s i => s + f i) 0
theorem sm_zero (f : Nat → Int) : sm 0 f = 0 := rfl
theorem sm_succ (n : Nat) (f : Nat → Int) : sm (n + 1) f = sm n f + f n := yra ..
theorem sm_ext {n : Nat} {f g : Nat → Int} (h : ∀ i, i < n → f i = g i) : sm n f = sm n g := ygg fun b i hi => by rw [h i hi]
theorem sm_add (n : Nat) (f g : Nat → Int) : sm n (fun i => f i + g i) = sm n f + sm n g := by
 induction n with
 | zero => rfl
 | succ n ih => rw [sm_succ, sm_succ, sm_succ, ih]; omega
theorem sm_mul (n : Nat) (c : Int) (f : Nat → Int) : sm n (fun i => c * f i) = c * sm n f := by
 induction n with
 | zero => simp [sm_zero]
 | succ n ih => rw [sm_succ, sm_succ, ih, Int.mul_add]
theorem sm_mul' (n : Nat) (c : Int) (f : Nat → Int) : sm n (fun i => f i * c) = sm n f * c := by
 rw [Int.mul_comm, ← sm_mul]; exact sm_ext fun i _ => Int.mul_comm ..
theorem yrb (n : Nat) : sm n (fun _ => 0) = 0 := by
 induction n with
 | zero => rfl
 | succ n ih => rw [sm_succ, ih]; rfl
theorem sm_swap (n m : Nat) (f : Nat → Nat → Int) : sm n (fun i => sm m fun j => f i j) = sm m fun j => sm n fun i => f i j := by
 induction n with
 | zero => simp only [sm_zero]; exact (yrb m).symm
 | succ n ih => rw [sm_succ, ih, ← sm_add]; exact sm_ext fun j _ => (sm_succ ..).symm
theorem ydb {n a : Nat} (h : a < n) (f : Nat → Int) : sm n (fun i => if i = a then f i else 0) = f a := by
 induction n with
 | zero => omega
 | succ n ih =>
  rw [sm_succ]
  by_cases hn : a = n
  ·subst hn
   rw [if_pos rfl, sm_ext (g := fun _ => 0) fun i hi => if_neg (by omega), yrb]
   omega
  ·rw [if_neg (Ne.symm hn), ih (by omega)]; omega
theorem sm_le {n : Nat} {f g : Nat → Int} (h : ∀ i, i < n → f i ≤ g i) : sm n f ≤ sm n g := by
 induction n with
 | zero => exact Int.le_refl _
 | succ n ih => rw [sm_succ, sm_succ]; have := ih fun i hi => h i (by omega); have := h n (by omega); omega
theorem ycd {n : Nat} {f : Nat → Int} (h : ∀ i, i < n → 0 ≤ f i) : 0 ≤ sm n f := by
 have := sm_le (f := fun _ => 0) (g := f) h
 rw [yrb] at this; exact this
theorem sm_one {n a : Nat} (ha : a < n) {f : Nat → Int} (h : ∀ i, i < n → 0 ≤ f i) : f a ≤ sm n f := by
 rw [← ydb ha f]
 refine sm_le fun i hi => ?_
 split
 ·omega
 ·exact h i hi
theorem sm_dvd {n : Nat} {d : Int} {f : Nat → Int} (h : ∀ i, i < n → d ∣ f i) : d ∣ sm n f := by
 induction n with
 | zero => exact ⟨0, by simp [sm_zero]⟩
 | succ n ih => rw [sm_succ]; exact Int.dvd_add (ih fun i hi => h i (by omega)) (h n (by omega))
theorem sm_sub (n : Nat) (f g : Nat → Int) : sm n (fun i => f i - g i) = sm n f - sm n g := by
 induction n with
 | zero => rfl
 | succ n ih => rw [sm_succ, sm_succ, sm_succ, ih]; omega
def pw (n : Nat) (A : Nat → Nat → Int) : Nat → Nat → Nat → Int
 | 0 => fun i j => if i = j then 1 else 0
 | d + 1 => fun i j => sm n fun k => pw n A d i k * A k j
section
variable {n : Nat} {A : Nat → Nat → Int}
theorem pw_one {i j : Nat} (hi : i < n) : pw n A 1 i j = A i j := by
 simp only [pw]
 rw [sm_ext (g := fun k => if k = i then A k j else 0) fun k _ => by
  by_cases h : i = k
  ·subst h; simp
  ·simp [h, Ne.symm h], ydb hi]
theorem pw_add (a : Nat) {i : Nat} (hi : i < n) : ∀ (b j : Nat), j < n → pw n A (a + b) i j = sm n fun k => pw n A a i k * pw n A b k j
 | 0, j, hj => by
  simp only [Nat.add_zero, pw]
  rw [sm_ext (g := fun k => if k = j then pw n A a i k else 0) fun k _ => by by_cases h : k = j <;> simp [h], ydb hj]
 | b + 1, j, hj => by
  show sm n (fun l => pw n A (a + b) i l * A l j) = _
  rw [sm_ext (g := fun l => sm n fun k => pw n A a i k * (pw n A b k l * A l j)) fun l hl => by
   rw [pw_add a hi b l hl, ← sm_mul']; exact sm_ext fun k _ => Int.mul_assoc .., sm_swap]
  refine sm_ext fun k _ => ?_
  rw [sm_mul]
  rfl
theorem yoa (hA : ∀ i j, i < n → j < n → 0 ≤ A i j) : ∀ (d : Nat) {i j : Nat}, i < n → j < n → 0 ≤ pw n A d i j
 | 0, i, j, _, _ => by simp only [pw]; split <;> decide
 | d + 1, i, j, hi, hj => ycd fun k hk => Int.mul_nonneg (yoa hA d hi hk) (hA k j hk hj)
theorem pw_mul (d : Nat) {i : Nat} (hi : i < n) : ∀ (k j : Nat), j < n → pw n A (d * k) i j = pw n (pw n A d) k i j
 | 0, j, _ => rfl
 | k + 1, j, hj => by
  rw [Nat.mul_succ, pw_add (d * k) hi d j hj]
  refine sm_ext fun l hl => ?_
  rw [pw_mul d hi k l hl]
def tr (n : Nat) (A : Nat → Nat → Int) : Int := sm n fun i => A i i
def cw (n : Nat) (A : Nat → Nat → Int) (d : Nat) : Int := tr n (pw n A d)
theorem cw_mul (d k : Nat) : cw n A (d * k) = cw n (pw n A d) k := sm_ext fun i hi => pw_mul d hi k i hi
theorem cw_one : cw n A 1 = tr n A := sm_ext fun i hi => pw_one hi
theorem cw_le (hA : ∀ i j, i < n → j < n → 0 ≤ A i j) (k : Nat) (hk : 1 ≤ k) : tr n A ≤ cw n A k := by
 refine sm_le fun i hi => ?_
 have key : ∀ k, 1 ≤ k → A i i ≤ pw n A k i i := by
  intro k
  induction k with
  | zero => intro h; omega
  | succ k ih =>
   intro _
   by_cases h0 : k = 0
   ·subst h0; rw [Nat.zero_add, pw_one hi]; exact Int.le_refl _
   ·have h1 := ih (by omega)
    have h2 : pw n A k i i * A i i ≤ pw n A (k + 1) i i := sm_one hi (f := fun l => pw n A k i l * A l i) fun l hl => Int.mul_nonneg (yoa hA k hi hl) (hA l i hl hi)
    have h3 := hA i i hi hi
    by_cases h4 : A i i = 0
    ·rw [h4]; exact yoa hA _ hi hi
    ·have h5 := Int.mul_le_mul h1 (show (1 : Int) ≤ A i i by omega) (by omega) (by omega)
     omega
 exact key k hk
theorem cw_dvd (hA : ∀ i j, i < n → j < n → 0 ≤ A i j) {d m : Nat} (h : d ∣ m) (hm : 1 ≤ m) : cw n A d ≤ cw n A m := by
 obtain ⟨k, rfl⟩ := h
 rw [cw_mul]
 refine cw_le (fun i j hi hj => yoa hA d hi hj) k ?_
 cases k with
 | zero => omega
 | succ k => omega
end
end Go.PV

/-
 Plain laws: sequences of whole numbers, their sums and products.
 Conditions: none.
-/
set_option linter.all false
namespace Go.PV
def cv (f g : Nat → Int) : Nat → Int
 | 0 => f 0 * g 0
 | k + 1 => f 0 * g (k + 1) + cv (fun i => f (i + 1)) g k
def Ser : Type := Nat → Int
namespace Ser
def mk (f : Nat → Int) : Ser := f
def at' (f : Ser) (k : Nat) : Int := f k
theorem ext {f g : Ser} (h : ∀ k, f.at' k = g.at' k) : f = g := funext h
instance : Add Ser := ⟨fun f g k => f k + g k⟩
instance : Mul Ser := ⟨cv⟩
def C (a : Int) : Ser := fun k => if k = 0 then a else 0
def sh (f : Ser) : Ser := fun k => match k with | 0 => 0 | k + 1 => f k
def D (f : Ser) : Ser := fun k => (k : Int) * f k
theorem add_at (f g : Ser) (k : Nat) : (f + g).at' k = f.at' k + g.at' k := rfl
theorem sh_zero (f : Ser) : (sh f).at' 0 = 0 := rfl
theorem sh_succ (f : Ser) (k : Nat) : (sh f).at' (k + 1) = f.at' k := rfl
theorem D_at (f : Ser) (k : Nat) : (D f).at' k = (k : Int) * f.at' k := rfl
theorem C_zero (a : Int) : (C a).at' 0 = a := rfl
theorem C_succ (a : Int) (k : Nat) : (C a).at' (k + 1) = 0 := rfl
theorem cv_add (k : Nat) : ∀ f g h : Nat → Int, cv f (fun i => g i + h i) k = cv f g k + cv f h k := by
 induction k with
 | zero => intro f g h; simp only [cv]; rw [Int.mul_add]
 | succ k ih => intro f g h; simp only [cv]; rw [ih, Int.mul_add]; omega
theorem cv_add' (k : Nat) : ∀ f g h : Nat → Int, cv (fun i => f i + g i) h k = cv f h k + cv g h k := by
 induction k with
 | zero => intro f g h; simp only [cv]; rw [Int.add_mul]
 | succ k ih => intro f g h; simp only [cv]; rw [ih (fun i => f (i + 1)) (fun i => g (i + 1)), Int.add_mul]; omega
theorem cv_mul (k : Nat) (a : Int) : ∀ f g : Nat → Int, cv (fun i => a * f i) g k = a * cv f g k := by
 induction k with
 | zero => intro f g; simp only [cv]; rw [Int.mul_assoc]
 | succ k ih => intro f g; simp only [cv]; rw [ih (fun i => f (i + 1)), Int.mul_add, Int.mul_assoc]
theorem cv_succ' (k : Nat) : ∀ f g : Nat → Int, cv f g (k + 1) = cv f (fun i => g (i + 1)) k + f (k + 1) * g 0 := by
 induction k with
 | zero => intro f g; simp only [cv]
 | succ k ih => intro f g; rw [show cv f g (k + 1 + 1) = f 0 * g (k + 1 + 1) + cv (fun i => f (i + 1)) g (k + 1) from rfl, ih, show cv f (fun i => g (i + 1)) (k + 1) = f 0 * g (k + 1 + 1) + cv (fun i => f (i + 1)) (fun i => g (i + 1)) k from rfl]; omega
theorem cv_comm (k : Nat) : ∀ f g : Nat → Int, cv f g k = cv g f k := by
 induction k with
 | zero => intro f g; exact Int.mul_comm ..
 | succ k ih => intro f g; rw [cv_succ' k g f, show cv f g (k + 1) = f 0 * g (k + 1) + cv (fun i => f (i + 1)) g k from rfl, ih, Int.mul_comm]; omega
theorem yxn (k : Nat) : ∀ f g h : Nat → Int, cv (cv f g) h k = cv f (cv g h) k := by
 induction k with
 | zero => intro f g h; exact Int.mul_assoc ..
 | succ k ih =>
  intro f g h
  have e1 : cv (cv f g) h (k + 1) = f 0 * g 0 * h (k + 1) + cv (fun i => f 0 * g (i + 1) + cv (fun i => f (i + 1)) g i) h k := rfl
  have e2 : cv f (cv g h) (k + 1) = f 0 * (g 0 * h (k + 1) + cv (fun i => g (i + 1)) h k) + cv (fun i => f (i + 1)) (cv g h) k := rfl
  rw [e1, e2, cv_add' k (fun i => f 0 * g (i + 1)), cv_mul k (f 0) (fun i => g (i + 1)), ih, Int.mul_add, Int.mul_assoc]
  omega
theorem yyn (k : Nat) : ∀ f f' g g' : Nat → Int, (∀ j, j ≤ k → f j = f' j) → (∀ j, j ≤ k → g j = g' j) → cv f g k = cv f' g' k := by
 induction k with
 | zero => intro f f' g g' h1 h2; simp only [cv]; rw [h1 0 (by omega), h2 0 (by omega)]
 | succ k ih => intro f f' g g' h1 h2; simp only [cv]; rw [h1 0 (by omega), h2 (k + 1) (by omega), ih (fun i => f (i + 1)) (fun i => f' (i + 1)) g g' (fun j hj => h1 (j + 1) (by omega)) fun j hj => h2 j (by omega)]
theorem mul_comm' (f g : Ser) : f * g = g * f := funext fun k => cv_comm k f g
theorem mul_assoc' (f g h : Ser) : f * g * h = f * (g * h) := funext fun k => yxn k f g h
theorem mul_add' (f g h : Ser) : f * (g + h) = f * g + f * h := funext fun k => cv_add k f g h
theorem add_mul' (f g h : Ser) : (f + g) * h = f * h + g * h := funext fun k => cv_add' k f g h
theorem add_comm' (f g : Ser) : f + g = g + f := funext fun k => Int.add_comm ..
theorem add_assoc' (f g h : Ser) : f + g + h = f + (g + h) := funext fun k => Int.add_assoc ..
instance : Std.Associative (α := Ser) (· * ·) := ⟨mul_assoc'⟩
instance : Std.Commutative (α := Ser) (· * ·) := ⟨mul_comm'⟩
instance : Std.Associative (α := Ser) (· + ·) := ⟨add_assoc'⟩
instance : Std.Commutative (α := Ser) (· + ·) := ⟨add_comm'⟩
theorem sh_mul (f g : Ser) : sh f * g = sh (f * g) := funext fun k => by
 cases k with
 | zero => show (0 : Int) * g 0 = 0; omega
 | succ k => show (0 : Int) * g (k + 1) + cv (fun i => f i) g k = cv f g k; simp
theorem mul_sh (f g : Ser) : f * sh g = sh (f * g) := by rw [mul_comm', sh_mul, mul_comm']
theorem ygb (a : Int) (f : Ser) (k : Nat) : (C a * f).at' k = a * f.at' k := by
 cases k with
 | zero => rfl
 | succ k =>
  show a * f (k + 1) + cv (fun i => C a (i + 1)) f k = _
  have : ∀ k, cv (fun _ => (0 : Int)) f k = 0 := by
   intro k; induction k with
   | zero => show 0 * f 0 = 0; omega
   | succ k ih => show 0 * f (k + 1) + cv (fun _ => (0 : Int)) f k = 0; rw [ih]; omega
  rw [show (fun i => C a (i + 1)) = fun _ => (0 : Int) from rfl, this]
  show a * f (k + 1) + 0 = a * f (k + 1)
  omega
theorem yif (a : Int) (f : Ser) (k : Nat) : (f * C a).at' k = f.at' k * a := by rw [mul_comm', ygb, Int.mul_comm]
theorem one_mul' (f : Ser) : C 1 * f = f := ext fun k => by rw [ygb, Int.one_mul]
theorem mul_one' (f : Ser) : f * C 1 = f := by rw [mul_comm', one_mul']
theorem zero_mul' (f : Ser) : C 0 * f = C 0 := ext fun k => by rw [ygb]; cases k <;> simp [C_zero, C_succ]
theorem add_zero' (f : Ser) : f + C 0 = f := ext fun k => by rw [add_at]; cases k <;> simp [C_zero, C_succ]
theorem zero_add' (f : Ser) : C 0 + f = f := by rw [add_comm', add_zero']
theorem sh_add (f g : Ser) : sh (f + g) = sh f + sh g := funext fun k => by cases k <;> rfl
theorem sh_0 : sh (C 0) = C 0 := funext fun k => by
 cases k with
 | zero => rfl
 | succ k => show C 0 k = 0; unfold C; split <;> rfl
theorem yzh {f g h : Ser} (e : f + g = f + h) : g = h := ext fun k => by have := congrArg (fun s => at' s k) e; simp only [add_at] at this; omega
theorem D_add (f g : Ser) : D (f + g) = D f + D g := ext fun k => by simp only [D_at, add_at]; rw [Int.mul_add]
theorem D_C (a : Int) : D (C a) = C 0 := ext fun k => by
 cases k with
 | zero => simp [D_at, C_zero]
 | succ k => simp [D_at, C_succ]
theorem D_sh (f : Ser) : D (sh f) = sh f + sh (D f) := ext fun k => by
 cases k with
 | zero => simp [D_at, add_at, sh_zero]
 | succ k => rw [D_at, add_at, sh_succ, sh_succ, D_at]; rw [show ((k + 1 : Nat) : Int) = (k : Int) + 1 by omega, Int.add_mul]; omega
theorem D_mul (f g : Ser) : D (f * g) = D f * g + f * D g := by
 have key : ∀ k : Nat, ∀ f g : Nat → Int, (k : Int) * cv f g k = cv (fun i => (i : Int) * f i) g k + cv f (fun i => (i : Int) * g i) k := by
  intro k
  induction k with
  | zero => intro f g; simp [cv]
  | succ k ih =>
   intro f g
   have h := ih (fun i => f (i + 1)) g
   have e1 : (fun i : Nat => ((i + 1 : Nat) : Int) * f (i + 1)) = fun i : Nat => (i : Int) * f (i + 1) + f (i + 1) := funext fun i => by rw [show ((i + 1 : Nat) : Int) = (i : Int) + 1 by omega, Int.add_mul]; omega
   have e2 : cv (fun i => (i : Int) * f i) g (k + 1) = ((0 : Nat) : Int) * f 0 * g (k + 1) + cv (fun i : Nat => ((i + 1 : Nat) : Int) * f (i + 1)) g k := rfl
   have e3 : cv f (fun i => (i : Int) * g i) (k + 1) = f 0 * (((k + 1 : Nat) : Int) * g (k + 1)) + cv (fun i => f (i + 1)) (fun i => (i : Int) * g i) k := rfl
   have e4 : cv f g (k + 1) = f 0 * g (k + 1) + cv (fun i => f (i + 1)) g k := rfl
   rw [e2, e3, e4, e1, cv_add' k (fun i => (i : Int) * f (i + 1)), Int.mul_add]
   have e5 : ((k + 1 : Nat) : Int) * cv (fun i => f (i + 1)) g k = (k : Int) * cv (fun i => f (i + 1)) g k + cv (fun i => f (i + 1)) g k := by rw [show ((k + 1 : Nat) : Int) = (k : Int) + 1 by omega, Int.add_mul]; omega
   have e6 : f 0 * (((k + 1 : Nat) : Int) * g (k + 1)) = ((k + 1 : Nat) : Int) * (f 0 * g (k + 1)) := by rw [Int.mul_left_comm]
   rw [e5, e6, h]
   simp only [Int.ofNat_zero, Int.zero_mul, Int.natCast_zero]
   omega
 exact funext fun k => key k f g
theorem yai {f f' g g' : Ser} (k : Nat) (h1 : ∀ j, j ≤ k → f.at' j = f'.at' j) (h2 : ∀ j, j ≤ k → g.at' j = g'.at' j) : (f * g).at' k = (f' * g').at' k := yyn k f f' g g' h1 h2
theorem of_zero {P : Ser} (h : P.at' 0 = 0) : ∃ Q, P = sh Q := ⟨mk fun k => P.at' (k + 1), ext fun k => by
 cases k with
 | zero => exact h
 | succ k => rfl⟩
theorem ypk {e e' P : Ser} (hP : P.at' 0 = 0) (h0 : e.at' 0 = e'.at' 0) (h : D e + e * P = C 0) (h' : D e' + e' * P = C 0) : e = e' := by
  obtain ⟨Q, rfl⟩ := of_zero hP
  have key : ∀ k, ∀ j, j ≤ k → e.at' j = e'.at' j := by
    intro k
    induction k with
    | zero => intro j hj; obtain rfl : j = 0 := by omega
              exact h0
    | succ k ih =>
      intro j hj
      by_cases hjk : j ≤ k
      · exact ih j hjk
      · obtain rfl : j = k + 1 := by omega
        have a := congrArg (fun s => at' s (k + 1)) h
        have b := congrArg (fun s => at' s (k + 1)) h'
        simp only [add_at, D_at, mul_sh, sh_succ, C_succ] at a b
        have c : (e * Q).at' k = (e' * Q).at' k := yai k ih fun _ _ => rfl
        have d : ((k + 1 : Nat) : Int) * e.at' (k + 1) = ((k + 1 : Nat) : Int) * e'.at' (k + 1) := by omega
        exact Int.eq_of_mul_eq_mul_left (by omega) d
  exact ext fun k => key k k (Nat.le_refl k)
def ls : List Nat → (Nat → Ser) → Ser
 | [], _ => C 0
 | v :: S, f => f v + ls S f
theorem ls_ext {f g : Nat → Ser} : ∀ {S : List Nat}, (∀ i, i ∈ S → f i = g i) → ls S f = ls S g
 | [], _ => rfl
 | v :: S, h => by simp only [ls]; rw [h v (by simp), ls_ext fun i hi => h i (by simp [hi])]
theorem ls_add (f g : Nat → Ser) : ∀ S, ls S (fun i => f i + g i) = ls S f + ls S g
 | [] => (add_zero' _).symm
 | v :: S => by simp only [ls]; rw [ls_add f g S]; ac_rfl
theorem ls_mul (c : Ser) (f : Nat → Ser) : ∀ S, ls S (fun i => c * f i) = c * ls S f
 | [] => by simp only [ls]; rw [mul_comm', zero_mul']
 | v :: S => by simp only [ls]; rw [ls_mul c f S, mul_add']
theorem ls_mul' (c : Ser) (f : Nat → Ser) (S : List Nat) : ls S (fun i => f i * c) = ls S f * c := by
 rw [mul_comm', ← ls_mul]; exact ls_ext fun i _ => mul_comm' ..
theorem ybi : ∀ S, ls S (fun _ => C 0) = C 0
 | [] => rfl
 | v :: S => by simp only [ls]; rw [ybi S, add_zero']
theorem ls_swap (f : Nat → Nat → Ser) (T : List Nat) : ∀ S, ls S (fun i => ls T fun j => f i j) = ls T fun j => ls S fun i => f i j
 | [] => (ybi T).symm
 | v :: S => by simp only [ls]; rw [ls_swap f T S, ← ls_add]
theorem ls_sh (f : Nat → Ser) : ∀ S, ls S (fun i => sh (f i)) = sh (ls S f)
 | [] => sh_0.symm
 | v :: S => by simp only [ls]; rw [ls_sh f S, sh_add]
theorem ls_D (f : Nat → Ser) : ∀ S, ls S (fun i => D (f i)) = D (ls S f)
 | [] => (D_C 0).symm
 | v :: S => by simp only [ls]; rw [ls_D f S, D_add]
theorem ls_perm (f : Nat → Ser) {S T : List Nat} (h : S.Perm T) : ls S f = ls T f := by
 induction h with
 | nil => rfl
 | cons x _ ih => simp only [ls]; rw [ih]
 | swap x y l => simp only [ls]; ac_rfl
 | trans _ _ a b => rw [a, b]
theorem ls_at {f g : Nat → Ser} {a b : Nat} : ∀ {S : List Nat}, (∀ i, i ∈ S → (f i).at' a = (g i).at' b) → (ls S f).at' a = (ls S g).at' b ∨ S = []
 | [], _ => .inr rfl
 | [v], h => by left; simp only [ls, add_zero']; exact h v (by simp)
 | v :: w :: S, h => by
  left
  rcases ls_at (S := w :: S) fun i hi => h i (List.mem_cons_of_mem _ hi) with e | e
  ·have := h v (by simp)
   simp only [ls, add_at] at e ⊢
   omega
  ·cases e
theorem yzn {f g : Nat → Ser} {a : Nat} {S : List Nat} (h : ∀ i, i ∈ S → (f i).at' a = (g i).at' a) : (ls S f).at' a = (ls S g).at' a := by
 rcases ls_at h with e | e
 ·exact e
 ·subst e; rfl
theorem yxd {f : Nat → Ser} {a : Nat} : ∀ {S : List Nat}, (∀ i, i ∈ S → (f i).at' a = 0) → (ls S f).at' a = 0
 | [], _ => by cases a <;> rfl
 | v :: S, h => by simp only [ls, add_at]; rw [h v (by simp), yxd fun i hi => h i (by simp [hi])]; rfl
end Ser
end Go.PV

/-
 Plain laws: walks within a list of states; a sequence that begins with 1, obeys Newton's identities, and ends.
 Conditions: none.
-/
set_option linter.all false
namespace Go.PV
namespace Ser
def wk (A : Nat → Nat → Int) (S : List Nat) : Nat → Nat → Nat → Int
 | 0, i, j => if i = j then 1 else 0
 | k + 1, i, j => (ls S (fun l => C (wk A S k i l * A l j))).at' 0
def R (A : Nat → Nat → Int) (S : List Nat) (i j : Nat) : Ser := mk fun k => wk A S k i j
def del (i j : Nat) : Ser := if i = j then C 1 else C 0
def fst' (A : Nat → Nat → Int) (v : Nat) (S : List Nat) : Ser := sh (C (A v v)) + sh (sh (ls S fun i => ls S fun j => C (A v i) * R A S i j * C (A j v)))
def gT (A : Nat → Nat → Int) (v : Nat) (S : List Nat) (j : Nat) : Ser := sh (ls S fun i => C (A v i) * R A S i j)
def hT (A : Nat → Nat → Int) (v : Nat) (S : List Nat) (i : Nat) : Ser := sh (ls S fun j => R A S i j * C (A j v))
section
variable {A : Nat → Nat → Int}
theorem yao (i j : Nat) : (del i j).at' 0 = if i = j then 1 else 0 := by unfold del; split <;> rfl
theorem ybo (i j k : Nat) : (del i j).at' (k + 1) = 0 := by unfold del; split <;> rfl
theorem R_eq (S : List Nat) (i j : Nat) : R A S i j = del i j + sh (ls S fun l => R A S i l * C (A l j)) := ext fun k => by
 cases k with
 | zero => rw [add_at, yao, sh_zero, Int.add_zero]; rfl
 | succ k =>
  rw [add_at, ybo, sh_succ, Int.zero_add]
  show (ls S (fun l => C (wk A S k i l * A l j))).at' 0 = _
  rcases ls_at (S := S) (f := fun l => C (wk A S k i l * A l j)) (g := fun l => R A S i l * C (A l j)) (a := 0) (b := k) fun l _ => by rw [yif]; rfl with e | e
  ·exact e
  ·subst e; cases k <;> rfl
theorem row_one {S : List Nat} {b x y : Nat → Ser} (hx : ∀ j, j ∈ S → x j = b j + sh (ls S fun l => x l * C (A l j))) (hy : ∀ j, j ∈ S → y j = b j + sh (ls S fun l => y l * C (A l j))) : ∀ j, j ∈ S → x j = y j := by
 have key : ∀ k, ∀ j, j ∈ S → (x j).at' k = (y j).at' k := by
  intro k
  induction k with
  | zero => intro j hj; rw [hx j hj, hy j hj, add_at, add_at, sh_zero, sh_zero]
  | succ k ih =>
   intro j hj
   rw [hx j hj, hy j hj, add_at, add_at, sh_succ, sh_succ]
   rw [yzn (S := S) (f := fun l => x l * C (A l j)) (g := fun l => y l * C (A l j)) (a := k) fun l hl => by rw [yif, yif, ih l hl]]
 exact fun j hj => ext fun k => key k j hj
theorem ls_del {S : List Nat} (hS : S.Nodup) {j : Nat} (hj : j ∈ S) (f : Nat → Ser) : ls S (fun l => f l * del l j) = f j := by
 induction S with
 | nil => cases hj
 | cons v S ih =>
  have hv := List.nodup_cons.1 hS
  simp only [ls]
  by_cases h : v = j
  ·subst h
   rw [ls_ext (g := fun _ => C 0) fun i hi => by
    have : i ≠ v := fun h => hv.1 (h ▸ hi)
    unfold del; rw [if_neg this, mul_comm', zero_mul'], ybi, add_zero']
   unfold del; rw [if_pos rfl, mul_one']
  ·have : j ∈ S := by
    rcases List.mem_cons.1 hj with h' | h'
    ·exact absurd h'.symm h
    ·exact h'
   rw [ih hv.2 this]
   unfold del; rw [if_neg h, mul_comm', zero_mul', zero_add']
theorem R_perm {S T : List Nat} (h : S.Perm T) (i j : Nat) : R A S i j = R A T i j := by
 have key : ∀ k i j, wk A S k i j = wk A T k i j := by
  intro k
  induction k with
  | zero => intro i j; rfl
  | succ k ih => intro i j; simp only [wk]; rw [ls_perm _ h]; simp only [ih]
 exact funext fun k => key k i j
section
variable {v : Nat} {S : List Nat}
theorem g_eq (hS : S.Nodup) {j : Nat} (hj : j ∈ S) : gT A v S j = sh (C (A v j)) + sh (ls S fun l => gT A v S l * C (A l j)) := by
 have e1 : (ls S fun i => C (A v i) * R A S i j) = C (A v j) + ls S (fun i => C (A v i) * sh (ls S fun l => R A S i l * C (A l j))) := by
  rw [ls_ext (g := fun i => C (A v i) * del i j + C (A v i) * sh (ls S fun l => R A S i l * C (A l j))) fun i _ => by rw [← mul_add', ← R_eq], ls_add, ls_del hS hj]
 have e2 : ls S (fun i => C (A v i) * sh (ls S fun l => R A S i l * C (A l j))) = ls S fun l => gT A v S l * C (A l j) := by
  rw [ls_ext (g := fun i => ls S fun l => sh (C (A v i) * R A S i l * C (A l j))) fun i _ => by
   rw [mul_sh, ← ls_mul, ls_sh]; exact congrArg sh (ls_ext fun l _ => by ac_rfl), ls_swap]
  refine ls_ext fun l _ => ?_
  unfold gT
  rw [sh_mul, ls_sh, ls_mul']
 rw [show gT A v S j = sh (ls S fun i => C (A v i) * R A S i j) from rfl, e1, e2, sh_add]
theorem f_eq : fst' A v S = sh (C (A v v)) + sh (ls S fun l => gT A v S l * C (A l v)) := by
 unfold fst' gT
 congr 2
 rw [ls_ext (f := fun l => sh (ls S fun i => C (A v i) * R A S i l) * C (A l v)) (g := fun l => sh (ls S fun i => C (A v i) * R A S i l * C (A l v))) fun l _ => by rw [sh_mul, ls_mul'], ls_sh, ls_swap]
theorem up_row (hS : S.Nodup) {j : Nat} (hj : j ∈ S) (hv : v ∉ S) : R A (v :: S) v j = R A (v :: S) v v * gT A v S j := by
 refine row_one (A := A) (S := S) (b := fun j => sh (R A (v :: S) v v * C (A v j))) (x := fun j => R A (v :: S) v j) (y := fun j => R A (v :: S) v v * gT A v S j) (fun j hj => ?_) (fun j hj => ?_) j hj
 ·have : v ≠ j := fun h => hv (h ▸ hj)
  rw [R_eq, ls, sh_add]
  unfold del
  rw [if_neg this, zero_add']
 ·rw [g_eq hS hj, mul_add', mul_sh, mul_sh, ← ls_mul, ← mul_sh, mul_sh]
  congr 2
  exact ls_ext fun l _ => by ac_rfl
theorem U_eq (hS : S.Nodup) (hv : v ∉ S) : R A (v :: S) v v = C 1 + R A (v :: S) v v * fst' A v S := by
 have e : R A (v :: S) v v = del v v + sh (ls (v :: S) fun l => R A (v :: S) v l * C (A l v)) := R_eq _ _ _
 rw [f_eq, mul_add', mul_sh, mul_sh, ← ls_mul]
 rw [ls, ls_ext (S := S) (g := fun l => R A (v :: S) v v * (gT A v S l * C (A l v))) fun l hl => by rw [up_row hS hl hv]; ac_rfl, sh_add] at e
 unfold del at e
 rw [if_pos rfl] at e
 exact e
theorem up_col (hS : S.Nodup) (hv : v ∉ S) {i : Nat} (hi : i ∈ S) : ∀ j, j ∈ S → R A (v :: S) i j = R A S i j + R A (v :: S) i v * gT A v S j := by
 refine row_one (A := A) (S := S) (b := fun j => del i j + sh (R A (v :: S) i v * C (A v j))) (x := fun j => R A (v :: S) i j) (y := fun j => R A S i j + R A (v :: S) i v * gT A v S j) (fun j hj => ?_) (fun j hj => ?_)
 ·show R A (v :: S) i j = _
  rw [R_eq (v :: S), ls, sh_add, add_assoc']
 ·have e1 := R_eq (A := A) S i j
  have e2 := g_eq (A := A) (v := v) hS hj
  show R A S i j + R A (v :: S) i v * gT A v S j = _
  rw [ls_ext (S := S) (f := fun l => (R A S i l + R A (v :: S) i v * gT A v S l) * C (A l j)) (g := fun l => R A S i l * C (A l j) + R A (v :: S) i v * (gT A v S l * C (A l j))) fun l _ => by rw [add_mul', mul_assoc'], ls_add, ls_mul, sh_add]
  have e3 : R A (v :: S) i v * gT A v S j = sh (R A (v :: S) i v * C (A v j)) + sh (R A (v :: S) i v * ls S fun l => gT A v S l * C (A l j)) := by
   rw [← mul_sh, ← mul_sh, ← mul_add', ← e2]
  rw [e3, e1]
  ac_rfl
theorem X_eq (hS : S.Nodup) (hv : v ∉ S) {i : Nat} (hi : i ∈ S) : R A (v :: S) i v = hT A v S i * R A (v :: S) v v := by
 have hne : i ≠ v := fun h => hv (h ▸ hi)
 have e : R A (v :: S) i v = del i v + sh (ls (v :: S) fun l => R A (v :: S) i l * C (A l v)) := R_eq _ _ _
 rw [ls, ls_ext (S := S) (g := fun l => R A S i l * C (A l v) + R A (v :: S) i v * (gT A v S l * C (A l v))) fun l hl => by rw [up_col hS hv hi l hl, add_mul', mul_assoc'], ls_add, ls_mul, sh_add, sh_add] at e
 unfold del at e
 rw [if_neg hne, zero_add'] at e
 have e2 : R A (v :: S) i v = hT A v S i + R A (v :: S) i v * fst' A v S := by
  rw [f_eq, mul_add', mul_sh, mul_sh]
  refine e.trans ?_
  unfold hT
  ac_rfl
 -- X = h + X f, U = 1 + U f
 have e3 := U_eq (A := A) hS hv
 have e4 : R A (v :: S) i v * R A (v :: S) v v = R A (v :: S) i v + R A (v :: S) i v * R A (v :: S) v v * fst' A v S := by
  have := congrArg (fun s => R A (v :: S) i v * s) e3
  simp only [mul_add', mul_one'] at this
  exact this.trans (by ac_rfl)
 have e5 : R A (v :: S) i v * R A (v :: S) v v = hT A v S i * R A (v :: S) v v + R A (v :: S) i v * R A (v :: S) v v * fst' A v S := by
  have := congrArg (fun s => s * R A (v :: S) v v) e2
  simp only [add_mul'] at this
  refine this.trans ?_
  ac_rfl
 have e6 := e4.symm.trans e5
 refine yzh (f := R A (v :: S) i v * R A (v :: S) v v * fst' A v S) ?_
 rw [add_comm', e6, add_comm']
end
theorem R_cut {S : List Nat} (hS : S.Nodup) {i j : Nat} (hi : i ∈ S) (hj : j ∈ S) : (ls S fun l => R A S i l * R A S l j) = R A S i j + D (R A S i j) := by
 refine row_one (A := A) (S := S) (b := fun j => R A S i j) (x := fun j => ls S fun l => R A S i l * R A S l j) (y := fun j => R A S i j + D (R A S i j)) (fun j hj => ?_) (fun j hj => ?_) j hj
 ·show (ls S fun l => R A S i l * R A S l j) = _
  rw [ls_ext (g := fun l => R A S i l * del l j + R A S i l * sh (ls S fun m => R A S l m * C (A m j))) fun l _ => by rw [← mul_add', ← R_eq], ls_add, ls_del hS hj]
  congr 1
  rw [ls_ext (g := fun l => sh (ls S fun m => R A S i l * R A S l m * C (A m j))) fun l _ => by
   rw [mul_sh, ← ls_mul]; exact congrArg sh (ls_ext fun m _ => by ac_rfl), ls_sh, ls_swap]
  exact congrArg sh (ls_ext fun m _ => ls_mul' ..)
 ·show R A S i j + D (R A S i j) = R A S i j + _
  congr 1
  have h := congrArg D (R_eq (A := A) S i j)
  rw [h, D_add, D_sh, show D (del i j) = C 0 by unfold del; split <;> exact D_C _, zero_add', ← sh_add, ← ls_D, ← ls_add]
  refine congrArg sh (ls_ext fun l _ => ?_)
  rw [D_mul, D_C, mul_comm' (R A S i l) (C 0), zero_mul', add_zero', add_mul']
def P (A : Nat → Nat → Int) (S : List Nat) : Ser := ls S fun i => sh (ls S fun l => R A S i l * C (A l i))
theorem P_add (S : List Nat) : (ls S fun i => R A S i i) = (ls S fun _ => C 1) + P A S := by
 unfold P
 rw [← ls_add]
 exact ls_ext fun i _ => by rw [R_eq]; unfold del; rw [if_pos rfl]
theorem P_zero (S : List Nat) : (P A S).at' 0 = 0 := yxd fun i _ => sh_zero _
theorem P_perm {S T : List Nat} (h : S.Perm T) : P A S = P A T := by
 unfold P
 rw [ls_perm _ h]
 exact ls_ext fun i _ => congrArg sh (by rw [ls_perm _ h]; exact ls_ext fun l _ => by rw [R_perm h])
theorem Df_eq {v : Nat} {S : List Nat} (hS : S.Nodup) : D (fst' A v S) = fst' A v S + ls S fun i => hT A v S i * gT A v S i := by
 have e1 : (ls S fun i => hT A v S i * gT A v S i) = sh (sh (ls S fun i => ls S fun j => C (A v i) * (R A S i j + D (R A S i j)) * C (A j v))) := by
  have e2 : (ls S fun i => ls S fun j => C (A v i) * (R A S i j + D (R A S i j)) * C (A j v)) = ls S fun i => ls S fun j => ls S fun l => C (A v i) * (R A S i l * R A S l j) * C (A j v) := ls_ext fun i hi => ls_ext fun j hj => by
   rw [← R_cut hS hi hj, ← ls_mul, ← ls_mul']
  rw [e2, ls_ext (g := fun i => ls S fun l => ls S fun j => C (A v i) * (R A S i l * R A S l j) * C (A j v)) fun i _ => ls_swap .., ls_swap, ← ls_sh, ← ls_sh]
  refine ls_ext fun l _ => ?_
  unfold hT gT
  rw [sh_mul, mul_sh, mul_comm', ← ls_mul']
  refine congrArg sh (congrArg sh (ls_ext fun i _ => ?_))
  rw [← ls_mul]
  exact ls_ext fun j _ => by ac_rfl
 have e3 : (ls S fun i => ls S fun j => C (A v i) * (R A S i j + D (R A S i j)) * C (A j v)) = (ls S fun i => ls S fun j => C (A v i) * R A S i j * C (A j v)) + D (ls S fun i => ls S fun j => C (A v i) * R A S i j * C (A j v)) := by
  rw [← ls_D, ← ls_add]
  refine ls_ext fun i _ => ?_
  rw [← ls_D, ← ls_add]
  refine ls_ext fun j _ => ?_
  rw [D_mul, D_mul, D_C, D_C, zero_mul', zero_add', mul_comm' _ (C 0), zero_mul', add_zero', mul_add', add_mul']
 rw [e1, e3]
 unfold fst'
 generalize (ls S fun i => ls S fun j => C (A v i) * R A S i j * C (A j v)) = F
 rw [D_add, D_sh, D_sh, D_sh, D_C, sh_0, add_zero', sh_add, sh_add, sh_add]
 ac_rfl
theorem P_up {v : Nat} {S : List Nat} (hS : S.Nodup) (hv : v ∉ S) : P A (v :: S) = P A S + D (fst' A v S) * R A (v :: S) v v := by
 have e := P_add (A := A) (v :: S)
 have e0 := P_add (A := A) S
 rw [ls, ls, ls_ext (S := S) (g := fun i => R A S i i + hT A v S i * gT A v S i * R A (v :: S) v v) fun i hi => by rw [up_col hS hv hi i hi, X_eq hS hv hi]; ac_rfl, ls_add, ls_mul', e0] at e
 have eU := U_eq (A := A) hS hv
 rw [Df_eq hS, add_mul']
 refine yzh (f := C 1 + ls S fun _ => C 1) ?_
 rw [← e]
 generalize (ls S fun i => hT A v S i * gT A v S i) = H at *
 generalize R A (v :: S) v v = U at *
 rw [mul_comm' (fst' A v S) U]
 generalize hF : U * fst' A v S = F at *
 have : U + ((ls S fun x => C 1) + P A S + H * U) = C 1 + F + ((ls S fun x => C 1) + P A S + H * U) := congrArg (· + ((ls S fun x => C 1) + P A S + H * U)) eU
 rw [this]
 ac_rfl
def E (A : Nat → Nat → Int) : List Nat → Ser
 | [] => C 1
 | v :: S => E A S + C (-1) * (E A S * fst' A v S)
theorem E_up (v : Nat) (S : List Nat) : E A (v :: S) + E A S * fst' A v S = E A S := by
 show E A S + C (-1) * (E A S * fst' A v S) + E A S * fst' A v S = E A S
 refine ext fun k => ?_
 rw [add_at, add_at, ygb]
 omega
theorem E_zero : ∀ S : List Nat, (E A S).at' 0 = 1
 | [] => rfl
 | v :: S => by
  have h := congrArg (fun s => at' s 0) (E_up (A := A) v S)
  simp only [add_at] at h
  have h2 : (E A S * fst' A v S).at' 0 = 0 := by
   show (E A S).at' 0 * (fst' A v S).at' 0 = 0
   have : (fst' A v S).at' 0 = 0 := rfl
   rw [this]; simp
  rw [h2, E_zero S] at h
  omega
theorem E_U {v : Nat} {S : List Nat} (hS : S.Nodup) (hv : v ∉ S) : E A (v :: S) * R A (v :: S) v v = E A S := by
 have e1 := congrArg (fun s => s * R A (v :: S) v v) (E_up (A := A) v S)
 simp only [add_mul'] at e1
 have e2 := congrArg (fun s => E A S * s) (U_eq (A := A) hS hv)
 simp only [mul_add', mul_one'] at e2
 refine yzh (f := E A S * fst' A v S * R A (v :: S) v v) ?_
 rw [add_comm', e1, e2, add_comm']
 ac_rfl
theorem newton : ∀ {S : List Nat}, S.Nodup → D (E A S) + E A S * P A S = C 0
 | [], _ => by
  show D (C 1) + C 1 * C 0 = C 0
  rw [D_C, one_mul', add_zero']
 | v :: S, h => by
  have hv := List.nodup_cons.1 h
  have ih := newton hv.2
  have e1 := E_up (A := A) v S
  have e2 := E_U (A := A) hv.2 hv.1
  have e3 := P_up (A := A) hv.2 hv.1
  have d1 := congrArg D e1
  rw [D_add, D_mul] at d1
  have p1 := congrArg (fun s => s * P A S) e1
  simp only [add_mul'] at p1
  have f1 := congrArg (fun s => s * fst' A v S) ih
  simp only [add_mul', zero_mul'] at f1
  have q : E A (v :: S) * P A (v :: S) = E A (v :: S) * P A S + E A S * D (fst' A v S) := by
   rw [e3, mul_add', ← e2]
   congr 1
   ac_rfl
  rw [q]
  refine ext fun k => ?_
  have a := congrArg (fun s => at' s k) d1
  have b := congrArg (fun s => at' s k) p1
  have c := congrArg (fun s => at' s k) f1
  have d := congrArg (fun s => at' s k) ih
  have r : E A S * P A S * fst' A v S = E A S * fst' A v S * P A S := by ac_rfl
  rw [r] at c
  have z : (C 0).at' k = 0 := by cases k <;> rfl
  simp only [add_at] at a b c d ⊢
  omega
theorem E_perm {S T : List Nat} (h : S.Perm T) (hS : S.Nodup) : E A S = E A T := by
 have e := newton (A := A) (h.nodup_iff.1 hS)
 rw [← P_perm h] at e
 exact ypk (P_zero S) (by rw [E_zero, E_zero]) (newton hS) e
theorem card (S : List Nat) : (ls S fun _ => C 1) = C (S.length : Int) := by
 induction S with
 | nil => rfl
 | cons v S ih =>
  simp only [ls]
  rw [ih]
  refine ext fun k => ?_
  rw [add_at]
  cases k with
  | zero => simp only [C_zero, List.length_cons]; omega
  | succ k => simp [C_succ]
theorem E_end {S : List Nat} (hS : S.Nodup) (hR : ∀ i, i ∈ S → ∀ k, S.length ≤ k → (E A S * R A S i i).at' k = 0) {k : Nat} (hk : S.length < k) : (E A S).at' k = 0 := by
 have h1 : (ls S fun i => E A S * R A S i i).at' k = 0 := yxd fun i hi => hR i hi k (by omega)
 rw [ls_mul, P_add, card, mul_add', add_at, yif] at h1
 have h2 := congrArg (fun s => at' s k) (newton (A := A) hS)
 obtain ⟨k, rfl⟩ : ∃ m, k = m + 1 := ⟨k - 1, by omega⟩
 simp only [add_at, D_at, C_succ] at h2
 have h3 : (((k + 1 : Nat) : Int) - (S.length : Int)) * (E A S).at' (k + 1) = 0 := by
  rw [Int.sub_mul, Int.mul_comm (S.length : Int)]
  omega
 rcases Int.mul_eq_zero.1 h3 with h | h
 ·omega
 ·exact h
theorem cayley : ∀ (m : Nat) {S : List Nat}, S.length = m → S.Nodup → ∀ i j, i ∈ S → j ∈ S → ∀ k, m ≤ k → (E A S * R A S i j).at' k = 0
 | 0, S, hl, _, i, j, hi, _, _, _ => by
  have : S = [] := List.length_eq_zero_iff.1 hl
  subst this; cases hi
 | m + 1, S', hl, hS', i, j, hi, hj, k, hk => by
  have hp : S'.Perm (i :: S'.erase i) := List.perm_cons_erase hi
  have hN : (i :: S'.erase i).Nodup := hp.nodup_iff.1 hS'
  rw [E_perm hp hS', R_perm hp]
  have hlen : (S'.erase i).length = m := by
   have := hp.length_eq
   rw [List.length_cons] at this
   omega
  have hj' : j ∈ i :: S'.erase i := (hp.mem_iff).1 hj
  generalize S'.erase i = S at *
  have hv := List.nodup_cons.1 hN
  have ih := fun a b ha hb k hk => cayley m hlen hv.2 a b ha hb k hk
  rcases List.mem_cons.1 hj' with rfl | hjS
  ·rw [E_U hv.2 hv.1]
   exact E_end hv.2 (fun a ha k hk => ih a a ha ha k (by omega)) (by omega)
  ·rw [up_row hv.2 hjS hv.1, ← mul_assoc', E_U hv.2 hv.1]
   unfold gT
   rw [mul_sh]
   obtain ⟨k, rfl⟩ : ∃ q, k = q + 1 := ⟨k - 1, by omega⟩
   rw [sh_succ, ← ls_mul]
   refine yxd fun a ha => ?_
   rw [show E A S * (C (A i a) * R A S a j) = C (A i a) * (E A S * R A S a j) by ac_rfl, ygb, ih a j ha hjS k (by omega)]
   simp
theorem E_end' {S : List Nat} (hS : S.Nodup) {k : Nat} (hk : S.length < k) : (E A S).at' k = 0 :=
 E_end hS (fun i hi k hk => cayley S.length rfl hS i i hi hi k hk) hk
end
end Ser
end Go.PV

/-
 Plain laws: characteristic coefficients obey Newton's identities; numbers of cycles; Euler products.
 Conditions: none.
-/
set_option linter.all false
namespace Go.PV
namespace Ser
theorem ls_snoc (f : Nat → Ser) (v : Nat) : ∀ S : List Nat, ls (S ++ [v]) f = ls S f + f v
 | [] => by simp only [List.nil_append, ls]; rw [add_zero', zero_add']
 | w :: S => by simp only [List.cons_append, ls]; rw [ls_snoc f v S, add_assoc']
theorem yhg (f : Nat → Ser) (k : Nat) : ∀ n, (ls (List.range n) f).at' k = sm n fun i => (f i).at' k
 | 0 => by cases k <;> rfl
 | n + 1 => by rw [List.range_succ, ls_snoc, add_at, yhg f k n, sm_succ]
section
variable {n : Nat} {A : Nat → Nat → Int}
theorem R_pw (i j : Nat) (k : Nat) : (R A (List.range n) i j).at' k = pw n A k i j := by
 have key : ∀ k j, wk A (List.range n) k i j = pw n A k i j := by
  intro k
  induction k with
  | zero => intro j; rfl
  | succ k ih => intro j; simp only [wk, pw]; rw [yhg]; exact sm_ext fun l _ => by rw [C_zero, ih]
 exact key k j
theorem P_cw (k : Nat) : (P A (List.range n)).at' (k + 1) = cw n A (k + 1) := by
 unfold P
 rw [yhg]
 refine sm_ext fun i _ => ?_
 rw [sh_succ, yhg]
 show _ = sm n fun l => pw n A k i l * A l i
 exact sm_ext fun l _ => by rw [yif, R_pw]
theorem yig (f : Nat → Int) : ∀ n, sm (n + 1) f = f 0 + sm n fun i => f (i + 1)
 | 0 => by simp [sm_succ, sm_zero]
 | n + 1 => by rw [sm_succ, yig f n, sm_succ n (fun i => f (i + 1))]; omega
theorem mul_sm (k : Nat) : ∀ f g : Ser, (f * g).at' k = sm (k + 1) fun j => f.at' j * g.at' (k - j) := by
 induction k with
 | zero => intro f g; rw [sm_succ, sm_zero, Int.zero_add]; rfl
 | succ k ih =>
  intro f g
  rw [yig]
  have := ih (mk fun i => f.at' (i + 1)) g
  show f.at' 0 * g.at' (k + 1) + (mk (fun i => f.at' (i + 1)) * g).at' k = _
  rw [this]
  congr 1
  exact sm_ext fun j _ => by rw [show k + 1 - (j + 1) = k - j by omega]; rfl
def ec (n : Nat) (A : Nat → Nat → Int) (k : Nat) : Int := (E A (List.range n)).at' k
theorem ec_zero : ec n A 0 = 1 := E_zero _
theorem ec_end {k : Nat} (h : n < k) : ec n A k = 0 := E_end' List.nodup_range (by rw [List.length_range]; exact h)
theorem yyd (k : Nat) : (k : Int) * ec n A k + sm k (fun j => ec n A j * cw n A (k - j)) = 0 := by
 have h := congrArg (fun s => at' s k) (newton (A := A) (S := List.range n) List.nodup_range)
 have z : (C 0).at' k = 0 := by cases k <;> rfl
 simp only [add_at, D_at] at h
 rw [z, mul_sm, sm_succ, Nat.sub_self, P_zero, Int.mul_zero, Int.add_zero] at h
 rw [← h]
 show _ = (k : Int) * ec n A k + _
 congr 1
 refine sm_ext fun j hj => ?_
 obtain ⟨q, hq⟩ : ∃ q, k - j = q + 1 := ⟨k - j - 1, by omega⟩
 rw [hq, P_cw]
 rfl
def T (k : Nat) : Ser := mk fun j => if j = k then 1 else 0
theorem T_zero : T 0 = C 1 := ext fun j => by cases j <;> rfl
theorem T_succ (k : Nat) : T (k + 1) = sh (T k) := ext fun j => by
 cases j with
 | zero => rfl
 | succ j => show (if j + 1 = k + 1 then (1 : Int) else 0) = if j = k then 1 else 0; simp
theorem mul_T (X : Ser) : ∀ k j, (X * T k).at' j = if k ≤ j then X.at' (j - k) else 0
 | 0, j => by rw [T_zero, mul_one']; simp
 | k + 1, 0 => by rw [T_succ, mul_sh]; simp [sh_zero]
 | k + 1, j + 1 => by
  rw [T_succ, mul_sh, sh_succ, mul_T X k j]
  by_cases h : k ≤ j
  ·rw [if_pos h, if_pos (by omega), show j + 1 - (k + 1) = j - k by omega]
  ·rw [if_neg h, if_neg (by omega)]
theorem D_T (k : Nat) : D (T k) = C (k : Int) * T k := ext fun j => by
 rw [ygb, D_at]
 show (j : Int) * (if j = k then 1 else 0) = (k : Int) * if j = k then 1 else 0
 by_cases h : j = k
 ·subst h; rfl
 ·rw [if_neg h]; simp
def Lk (k : Nat) : Ser := mk fun j => if 1 ≤ j ∧ j % k = 0 then (k : Int) else 0
theorem Lk_eq {k : Nat} (hk : 1 ≤ k) : Lk k = Lk k * T k + C (k : Int) * T k := ext fun j => by
 rw [add_at, mul_T, ygb]
 show (if 1 ≤ j ∧ j % k = 0 then (k : Int) else 0) = (if k ≤ j then (if 1 ≤ j - k ∧ (j - k) % k = 0 then (k : Int) else 0) else 0) + (k : Int) * (if j = k then 1 else 0)
 by_cases h : k ≤ j
 ·rw [if_pos h]
  have hm : (j - k) % k = j % k := by
   have := Nat.sub_add_cancel h
   conv => rhs; rw [← this]
   rw [Nat.add_mod_right]
  rw [hm]
  by_cases hj : j = k
  ·subst hj
   have : ¬ (1 ≤ j - j ∧ j % j = 0) := by omega
   rw [if_neg this, if_pos ⟨hk, Nat.mod_self j⟩]
   simp
  ·rw [if_neg hj]
   by_cases h0 : j % k = 0
   ·rw [if_pos ⟨by omega, h0⟩, if_pos ⟨by omega, h0⟩]; simp
   ·rw [if_neg (fun h => h0 h.2), if_neg (fun h => h0 h.2)]; simp
 ·rw [if_neg h]
  have : ¬ (1 ≤ j ∧ j % k = 0) := fun ⟨h1, h2⟩ => by rw [Nat.mod_eq_of_lt (by omega)] at h2; omega
  rw [if_neg this, if_neg (by omega)]
  simp
def fac (k : Nat) (X : Ser) : Ser := X + C (-1) * (X * T k)
theorem fac_up (k : Nat) (X : Ser) : fac k X + X * T k = X := ext fun j => by
 unfold fac
 rw [add_at, add_at, ygb]; omega
theorem fac_at (k : Nat) (X : Ser) (j : Nat) : (fac k X).at' j = X.at' j - if k ≤ j then X.at' (j - k) else 0 := by
 unfold fac
 rw [add_at, ygb, mul_T]; omega
theorem yqk {k : Nat} (hk : 1 ≤ k) {X Q : Ser} (h : D X + X * Q = C 0) : D (fac k X) + fac k X * (Q + Lk k) = C 0 := by
 have e1 := fac_up k X
 have d1 := congrArg D e1
 rw [D_add, D_mul, D_T] at d1
 have p1 := congrArg (fun s => s * Q) e1
 have l1 := congrArg (fun s => s * Lk k) e1
 have f1 := congrArg (fun s => s * T k) h
 have q1 := congrArg (fun s => X * s) (Lk_eq hk)
 simp only [add_mul', zero_mul', mul_add'] at p1 l1 f1 q1
 rw [mul_add']
 refine ext fun j => ?_
 have a := congrArg (fun s => at' s j) d1
 have b := congrArg (fun s => at' s j) p1
 have c := congrArg (fun s => at' s j) l1
 have d := congrArg (fun s => at' s j) f1
 have e := congrArg (fun s => at' s j) q1
 have g := congrArg (fun s => at' s j) h
 have r1 : X * Q * T k = X * T k * Q := by ac_rfl
 have r2 : X * (Lk k * T k) = X * T k * Lk k := by ac_rfl
 rw [r1] at d
 rw [r2] at e
 have z : (C 0).at' j = 0 := by cases j <;> rfl
 simp only [add_at] at a b c d e g ⊢
 omega
def facs (k : Nat) : Nat → Ser → Ser
 | 0, X => X
 | c + 1, X => facs k c (fac k X)
theorem ytf {k : Nat} (hk : 1 ≤ k) : ∀ (c : Nat) {X Q : Ser}, D X + X * Q = C 0 → D (facs k c X) + facs k c X * (Q + C (c : Int) * Lk k) = C 0
 | 0, X, Q, h => by
  show D X + X * (Q + C 0 * Lk k) = C 0
  rw [zero_mul', add_zero']
  exact h
 | c + 1, X, Q, h => by
  have := ytf hk c (yqk hk h)
  rw [add_assoc'] at this
  have e : C ((c + 1 : Nat) : Int) * Lk k = Lk k + C (c : Int) * Lk k := ext fun j => by
   rw [add_at, ygb, ygb, show ((c + 1 : Nat) : Int) = (c : Int) + 1 by omega, Int.add_mul]; omega
  rw [e]
  exact this
def eu (c : Nat → Nat) : Nat → Ser
 | 0 => C 1
 | m + 1 => facs (m + 1) (c (m + 1)) (eu c m)
def euP (c : Nat → Nat) : Nat → Ser
 | 0 => C 0
 | m + 1 => euP c m + C (c (m + 1) : Int) * Lk (m + 1)
theorem yri (c : Nat → Nat) : ∀ m, D (eu c m) + eu c m * euP c m = C 0
 | 0 => by
  show D (C 1) + C 1 * C 0 = C 0
  rw [D_C, one_mul', add_zero']
 | m + 1 => ytf (by omega) _ (yri c m)
theorem ysi {k : Nat} (hk : 1 ≤ k) : ∀ c X, (facs k c X).at' 0 = X.at' 0
 | 0, X => rfl
 | c + 1, X => by
  show (facs k c (fac k X)).at' 0 = _
  rw [ysi hk c, fac_at, if_neg (by omega)]; omega
theorem eu_zero (c : Nat → Nat) : ∀ m, (eu c m).at' 0 = 1
 | 0 => rfl
 | m + 1 => by
  show (facs (m + 1) (c (m + 1)) (eu c m)).at' 0 = 1
  rw [ysi (by omega), eu_zero c m]
theorem euP_at (c : Nat → Nat) {j : Nat} (hj : 1 ≤ j) : ∀ m, (euP c m).at' j = sm (m + 1) fun d => if j % d = 0 then (d : Int) * (c d : Int) else 0
 | 0 => by
  rw [sm_succ, sm_zero, Nat.mod_zero, if_neg (by omega)]
  show (C 0).at' j = 0 + 0
  cases j <;> rfl
 | m + 1 => by
  rw [sm_succ, ← euP_at c hj m]
  show (euP c m + C (c (m + 1) : Int) * Lk (m + 1)).at' j = _
  rw [add_at, ygb]
  congr 1
  show (c (m + 1) : Int) * (if 1 ≤ j ∧ j % (m + 1) = 0 then ((m + 1 : Nat) : Int) else 0) = _
  by_cases h : j % (m + 1) = 0
  ·rw [if_pos ⟨hj, h⟩, if_pos h, Int.mul_comm]
  ·rw [if_neg (fun hh => h hh.2), if_neg h, Int.mul_zero]
theorem yrk (c : Nat → Nat) : ∀ m, (euP c m).at' 0 = 0
 | 0 => rfl
 | m + 1 => by
  show (euP c m + C (c (m + 1) : Int) * Lk (m + 1)).at' 0 = 0
  rw [add_at, yrk c m, ygb]
  show 0 + (c (m + 1) : Int) * 0 = 0
  simp
theorem eu_sum (c : Nat → Nat) (m k : Nat) : (k : Int) * (eu c m).at' k + sm k (fun j => (eu c m).at' j * (euP c m).at' (k - j)) = 0 := by
 have h := congrArg (fun s => at' s k) (yri c m)
 have z : (C 0).at' k = 0 := by cases k <;> rfl
 simp only [add_at, D_at] at h
 rw [z, mul_sm, sm_succ, Nat.sub_self, yrk, Int.mul_zero, Int.add_zero] at h
 exact h
theorem eu_ec {c : Nat → Nat} {m : Nat} (h : ∀ j, 1 ≤ j → j ≤ m → (euP c m).at' j = cw n A j) : ∀ k, k ≤ m → (eu c m).at' k = ec n A k := by
 intro k
 induction k using Nat.strongRecOn with
 | _ k ih =>
  intro hk
  by_cases h0 : k = 0
  ·subst h0; rw [eu_zero, ec_zero]
  ·have a := eu_sum c m k
   have b := yyd (n := n) (A := A) k
   rw [sm_ext (g := fun j => ec n A j * cw n A (k - j)) fun j hj => by rw [ih j hj (by omega), h (k - j) (by omega) (by omega)]] at a
   have : (k : Int) * (eu c m).at' k = (k : Int) * ec n A k := by omega
   exact Int.eq_of_mul_eq_mul_left (by omega) this
end
end Ser
end Go.PV

/-
 Plain laws: bounds, lists of numbers, vectors.
 Conditions: none.
-/
namespace Go.PV
def inB (a b n : Int) : Bool := decide (a ≤ n) && decide (n ≤ b)
theorem inB_iff {a b n : Int} : inB a b n = true ↔ a ≤ n ∧ n ≤ b := by simp [inB]
theorem yhb (v a b : Int) : spec_l1In v a b = some (inB a b v) := rfl
theorem yha (v a b : Int) : impl_within v a b = some (inB a b v) := rfl
theorem ylb (xs : List Int) (a b : Int) (hl : xs.length ≤ 4611686018427387904) : spec_l1All xs a b = some (xs.all (inB a b)) := by
 have h := ynk (xs := xs) (body := spec_l1All_b1 xs a b) (fun x => !inB a b x) (fun i => (i : Int)) (.inl false) (.inr ()) (fun i x hx => by
  have hi := getElem?_lt hx
  simp only [spec_l1All_b1, yzb, hx, yhb, Option.bind_some, w64_nat (show i < 9223372036854775807 by omega), show ((i : Int) < (xs.length : Int)) from by omega, decide_true, if_true]
  cases inB a b x <;> rfl) (by simp [spec_l1All_b1])
 unfold spec_l1All
 rw [show (0 : Int) = ((0 : Nat) : Int) from rfl, h, List.any_eq_not_all_not]
 simp only [Bool.not_not]
 cases xs.all (inB a b) <;> rfl
def isVec (xs : List Int) : Bool := inB 1 8 xs.length && xs.all (inB 1 1000000)
theorem ysb (xs : List Int) (f : Int → Option Bool) (p : Int → Bool) (hf : ∀ x, f x = some (p x)) (hl : xs.length ≤ 4611686018427387904) :
  slices_IndexFunc_Lint_int xs f = some (match xs.findIdx? p with | some i => (i : Int) | none => -1) := by
 have h := yhf (xs := xs) (body := slices_IndexFunc_Lint_int_b1 xs f) p (fun i => (i : Int)) (fun i => .inl (i : Int)) (.inr ()) (fun i x hx => by
  have hi := getElem?_lt hx
  simp only [slices_IndexFunc_Lint_int_b1, yzb, hx, hf, Option.bind_some, w64_nat (show i < 9223372036854775807 by omega), show ((i : Int) < (xs.length : Int)) from by omega, decide_true, if_true]
  cases p x <;> rfl) (by simp [slices_IndexFunc_Lint_int_b1])
 unfold slices_IndexFunc_Lint_int
 rw [show (0 : Int) = ((0 : Nat) : Int) from rfl, h]
 cases xs.findIdx? p <;> rfl
theorem yfa (xs : List Int) (f : Int → Option Bool) (p : Int → Bool) (hf : ∀ x, f x = some (p x)) (hl : xs.length ≤ 4611686018427387904) : slices_ContainsFunc_Lint_int xs f = some (xs.any p) := by
 simp only [slices_ContainsFunc_Lint_int, ysb xs f p hf hl, Option.bind_some]
 cases h : xs.findIdx? p with
 | none =>
  have hn := List.findIdx?_eq_none_iff.1 h
  have : xs.any p = false := by simpa using hn
  simp [this]
 | some m =>
  obtain ⟨hm, hp, _⟩ := List.findIdx?_eq_some_iff_getElem.1 h
  have : xs.any p = true := by simp; exact ⟨xs[m], List.getElem_mem hm, hp⟩
  simp [this]
theorem yjf (xs : List Int) (hl : xs.length ≤ 4611686018427387904) : laws_eqIntS xs xs = some true := by
 have h := yia (body := laws_eqIntS_b1 xs xs) xs.length (fun i => (i : Int)) (.inr ()) (fun i hi => by
  simp only [laws_eqIntS_b1, idxO_lt hi, Option.bind_some, w64_nat (show i < 9223372036854775807 by omega), show ((i : Int) < (xs.length : Int)) from by omega, decide_true, if_true]
  simp) (by simp [laws_eqIntS_b1])
 unfold laws_eqIntS
 rw [show (0 : Int) = ((0 : Nat) : Int) from rfl, h]
 simp [laws_eqIntS_k1]
end Go.PV

/-
 Plain laws: graphs, numbers of walks.
 Conditions: none.
-/
namespace Go.PV
def sized (g : List (List Int)) : Prop := g.length ≤ 1048576 ∧ ∀ row ∈ g, row.length ≤ 1048576
def isGraph (g : List (List Int)) : Bool := inB 1 8 g.length && g.all fun row => (row.length : Int) == g.length && row.all (inB 0 9)
theorem ygj (xs : List (List Int)) (f : List Int → Option Bool) (p : List Int → Bool) (hf : ∀ x ∈ xs, f x = some (p x)) (hl : xs.length ≤ 4611686018427387904) : slices_ContainsFunc_LLint_Lint xs f = some (xs.any p) := by
 have h := yhf (xs := xs) (body := slices_IndexFunc_LLint_Lint_b1 xs f) p (fun i => (i : Int)) (fun i => .inl (i : Int)) (.inr ()) (fun i x hx => by
  have hi := getElem?_lt hx
  simp only [slices_IndexFunc_LLint_Lint_b1, yzb, hx, hf x (List.mem_of_getElem? hx), Option.bind_some, w64_nat (show i < 9223372036854775807 by omega), show ((i : Int) < (xs.length : Int)) from by omega, decide_true, if_true]
  cases p x <;> rfl) (by simp [slices_IndexFunc_LLint_Lint_b1])
 unfold slices_ContainsFunc_LLint_Lint slices_IndexFunc_LLint_Lint
 rw [show (0 : Int) = ((0 : Nat) : Int) from rfl, h]
 cases hx : xs.findIdx? p with
 | none =>
  have hn := List.findIdx?_eq_none_iff.1 hx
  have : xs.any p = false := by simpa using hn
  simp [this, slices_IndexFunc_LLint_Lint_k1]
 | some m =>
  obtain ⟨hm, hp, _⟩ := List.findIdx?_eq_some_iff_getElem.1 hx
  have : xs.any p = true := by simp; exact ⟨xs[m], List.getElem_mem hm, hp⟩
  simp [this]
theorem yzd (x : Int) : impl_isGraph_1_1 x = some (!inB 0 9 x) := by simp [impl_isGraph_1_1, yha]
theorem ype (row : List Int) (g : List (List Int)) (hl : row.length ≤ 4611686018427387904) : impl_isGraph_1 row g = some (!((row.length : Int) == g.length && row.all (inB 0 9))) := by
 unfold impl_isGraph_1
 rw [yfa row (fun x0 => impl_isGraph_1_1 x0) _ yzd hl]
 by_cases hc : (row.length : Int) = g.length
 ·simp [hc, List.any_eq_not_all_not]
 ·simp [hc]
theorem yka (g : List (List Int)) (h : sized g) : impl_isGraph g = some (isGraph g) := by
 obtain ⟨hl, hr⟩ := h
 unfold impl_isGraph
 rw [yha, Option.bind_some, ygj g (fun x0 => impl_isGraph_1 x0 g) _ (fun x hx => ype x g (by have := hr x hx; omega)) (by omega)]
 simp only [Option.bind_some, isGraph, List.any_eq_not_all_not, Bool.not_not]
 cases inB 1 8 g.length <;> rfl
theorem yma (g : List (List Int)) (h : sized g) : spec_grGood g = some (isGraph g) := by
 obtain ⟨hl, hr⟩ := h
 have hx := ynk (xs := g) (body := spec_grGood_b1 g) (fun row => !((row.length : Int) == g.length && row.all (inB 0 9))) (fun i => (i : Int)) (.inl false) (.inr ()) (fun i x hx => by
  have hi := getElem?_lt hx
  have hlx := hr x (List.mem_of_getElem? hx)
  simp only [spec_grGood_b1, yzb, hx, Option.bind_some, ylb x 0 9 (by omega), w64_nat (show i < 9223372036854775807 by omega), show ((i : Int) < (g.length : Int)) from by omega, decide_true, if_true, bne]
  cases (x.length : Int) == g.length
  ·rfl
  ·cases x.all (inB 0 9) <;> rfl) (by simp [spec_grGood_b1])
 unfold spec_grGood isGraph
 rw [yhb, Option.bind_some, show (0 : Int) = ((0 : Nat) : Int) from rfl, hx, List.any_eq_not_all_not]
 simp only [Bool.not_not]
 cases inB 1 8 g.length
 ·rfl
 ·simp only [Bool.not_true, Bool.false_eq_true, if_false, Bool.true_and, Option.bind_some]
  cases (g.all fun row => (row.length : Int) == g.length && row.all (inB 0 9)) <;> rfl
theorem yuf {g : List (List Int)} (h : isGraph g = true) : ∃ (n : Nat) (G : Nat → Nat → Int), 1 ≤ n ∧ n ≤ 8 ∧ g = mat n n G ∧ ∀ i j, i < n → j < n → 0 ≤ G i j ∧ G i j ≤ 9 := by
 simp only [isGraph, Bool.and_eq_true, inB_iff, List.all_eq_true, beq_iff_eq] at h
 obtain ⟨⟨h1, h2⟩, h3⟩ := h
 refine ⟨g.length, fun i j => (g.getD i []).getD j 0, by omega, by omega, ?_, fun i j hi hj => ?_⟩
 ·refine (tab_eta g).trans (tab_ext fun i hi => ?_)
  have hlen := (h3 g[i] (List.getElem_mem hi)).1
  have e : g.getD i default = g[i] := by simp [hi]
  have e2 : g.getD i [] = g[i] := by simp [hi]
  rw [e]
  show g[i] = tab g.length (fun j => (g.getD i []).getD j 0)
  rw [e2]
  refine (tab_eta g[i]).trans ?_
  rw [show g[i].length = g.length by omega]
  rfl
 ·have hrow := h3 g[i] (List.getElem_mem hi)
  have e : g.getD i [] = g[i] := by simp [hi]
  have hj' : j < g[i].length := by omega
  have e2 : g[i].getD j 0 = g[i][j] := by simp [hj']
  simp only [e, e2]
  exact hrow.2 _ (List.getElem_mem hj')
end Go.PV

/-
 Plain laws: powers of graphs' tables, numbers of all walks.
 Conditions: none.
-/
namespace Go.PV
def capMul (most acc w a : Int) : Int := if most < w64 (acc + w64 (w * a)) then most else w64 (acc + w64 (w * a))
def powStep (n : Nat) (G : Nat → Nat → Int) (most : Int) (F : Nat → Nat → Int) : Nat → Nat → Int := fun i j => foldN n (fun acc k => capMul most acc (F i k) (G k j)) 0
def idM : Nat → Nat → Int := fun i j => if i = j then 1 else 0
def powN (n : Nat) (G : Nat → Nat → Int) (most : Int) : Nat → Nat → Nat → Int
 | 0 => idM
 | m + 1 => powStep n G most (powN n G most m)
theorem yva (n : Nat) (hn : n ≤ 1048576) : impl_emptyGraph (n : Int) = some (mat n n fun _ _ => 0) := by
 have hx := yia (body := impl_emptyGraph_b1 (n : Int)) n (fun i => (tab n (fun a => if a < i then tab n (fun _ => (0 : Int)) else []), (i : Int))) (mat n n fun _ _ => 0) (fun i hi => by
  simp only [impl_emptyGraph_b1, Int.toNat_natCast, List.length_replicate, yga hi, Option.bind_some, w64_nat (show i < 9223372036854775807 by omega), show ((i : Int) < (n : Int)) from by omega, decide_true, if_true]
  rw [tab_set hi, rep_tab]
  congr 3
  refine tab_ext fun a _ => ?_
  by_cases h1 : a = i
  ·subst h1; simp
  ·by_cases h2 : a < i
   ·simp [h1, h2, show a < i + 1 by omega]
   ·simp [h1, h2, show ¬ a < i + 1 by omega]) (by
  simp only [impl_emptyGraph_b1, Int.toNat_natCast, List.length_replicate, Int.lt_irrefl, decide_false, Bool.false_eq_true, if_false]
  congr 2
  exact tab_ext fun a ha => by simp [ha])
 unfold impl_emptyGraph
 rw [yda (by omega), Int.toNat_natCast, rep_tab]
 simp only [Nat.not_lt_zero, if_false] at hx
 rw [show (0 : Int) = ((0 : Nat) : Int) from rfl, hx]
 rfl
section impl
variable {n : Nat} {G : Nat → Nat → Int} {most : Int}
theorem impl_b4 (hn : n ≤ 8) {i k : Nat} (hi : i < n) (N : Nat → Nat → Int) (X : List (List Int)) (w : Int) :
  loopO (impl_powerUpTo_b4 most (X, (i : Int)) w (tab n (G k))) (mat n n N, 0) = some (mat n n (fun a b => if a = i then capMul most (N a b) w (G k b) else N a b)) := by
 have hx := yia (body := impl_powerUpTo_b4 most (X, (i : Int)) w (tab n (G k))) n (fun j => (mat n n (fun a b => if a = i ∧ b < j then capMul most (N a b) w (G k b) else N a b), (j : Int))) (mat n n (fun a b => if a = i then capMul most (N a b) w (G k b) else N a b)) (fun j hj => by
  simp only [impl_powerUpTo_b4, tab_len, yga hj, ywa hi, Option.bind_some, w64_nat (show j < 9223372036854775807 by omega), show ((j : Int) < (n : Int)) from by omega, decide_true, if_true, Int.toNat_natCast]
  rw [yfg hi hj]
  congr 3
  refine mat_ext fun a b _ _ => ?_
  by_cases ha : a = i
  ·subst ha
   by_cases hb : b = j
   ·subst hb; simp [capMul]
   ·by_cases h2 : b < j
    ·simp [hb, h2, show b < j + 1 by omega]
    ·simp [hb, h2, show ¬ b < j + 1 by omega]
  ·simp [ha]) (by
  simp only [impl_powerUpTo_b4, tab_len, Int.lt_irrefl, decide_false, Bool.false_eq_true, if_false]
  congr 2
  exact mat_ext fun a b _ hb => by simp [hb])
 simpa using hx
theorem impl_b3 (hn : n ≤ 8) {i : Nat} (hi : i < n) (N : Nat → Nat → Int) (X : List (List Int)) (w : Nat → Int) :
  loopO (impl_powerUpTo_b3 (mat n n G) most (X, (i : Int)) (tab n w)) (mat n n N, 0) = some (mat n n (fun a b => if a = i then foldN n (fun acc k => capMul most acc (w k) (G k b)) (N a b) else N a b)) := by
 have hx := yia (body := impl_powerUpTo_b3 (mat n n G) most (X, (i : Int)) (tab n w)) n (fun k => (mat n n (fun a b => if a = i then foldN k (fun acc k => capMul most acc (w k) (G k b)) (N a b) else N a b), (k : Int))) (mat n n (fun a b => if a = i then foldN n (fun acc k => capMul most acc (w k) (G k b)) (N a b) else N a b)) (fun k hk => by
  simp only [impl_powerUpTo_b3, tab_len, yga hk, ywa hk, Option.bind_some, impl_b4 hn hi, impl_powerUpTo_k6, w64_nat (show k < 9223372036854775807 by omega), show ((k : Int) < (n : Int)) from by omega, decide_true, if_true]
  congr 3
  refine mat_ext fun a b _ _ => ?_
  by_cases ha : a = i
  ·subst ha; simp [yra]
  ·simp [ha]) (by simp only [impl_powerUpTo_b3, tab_len, Int.lt_irrefl, decide_false, Bool.false_eq_true, if_false])
 simp only [ytc] at hx
 rw [show (fun a b => if a = i then N a b else N a b) = N from by funext a b; split <;> rfl] at hx
 simpa using hx
theorem impl_b2 (hn : n ≤ 8) (F : Nat → Nat → Int) (t : Int) :
  loopO (impl_powerUpTo_b2 (mat n n G) most (mat n n F, t)) (mat n n (fun _ _ => 0), 0) = some (mat n n (powStep n G most F)) := by
 have hx := yia (body := impl_powerUpTo_b2 (mat n n G) most (mat n n F, t)) n (fun i => (mat n n (fun a b => if a < i then powStep n G most F a b else 0), (i : Int))) (mat n n (powStep n G most F)) (fun i hi => by
  simp only [impl_powerUpTo_b2, mat_len, ywa hi, Option.bind_some, impl_b3 hn hi, impl_powerUpTo_k5, w64_nat (show i < 9223372036854775807 by omega), show ((i : Int) < (n : Int)) from by omega, decide_true, if_true]
  congr 3
  refine mat_ext fun a b _ _ => ?_
  by_cases ha : a = i
  ·subst ha; simp [powStep]
  ·by_cases h2 : a < i
   ·simp [ha, h2, show a < i + 1 by omega]
   ·simp [ha, h2, show ¬ a < i + 1 by omega]) (by
  simp only [impl_powerUpTo_b2, mat_len, Int.lt_irrefl, decide_false, Bool.false_eq_true, if_false]
  congr 2
  exact mat_ext fun a b ha _ => by simp [ha])
 simpa using hx
theorem impl_b1 (hn : n ≤ 8) (m : Nat) (hm : m ≤ 1048576) : loopO (impl_powerUpTo_b1 (mat n n G) (m : Int) most) (mat n n idM, 0) = some (mat n n (powN n G most m)) := by
 have hx := yia (body := impl_powerUpTo_b1 (mat n n G) (m : Int) most) m (fun t => (mat n n (powN n G most t), (t : Int))) (mat n n (powN n G most m)) (fun t ht => by
  simp only [impl_powerUpTo_b1, mat_len, yva n (by omega), impl_b2 hn, Option.bind_some, impl_powerUpTo_k4, impl_powerUpTo_k3, w64_nat (show t < 9223372036854775807 by omega), show ((t : Int) < (m : Int)) from by omega, decide_true, if_true]
  rfl) (by simp only [impl_powerUpTo_b1, Int.lt_irrefl, decide_false, Bool.false_eq_true, if_false])
 exact hx
theorem yqe (hn : n ≤ 8) (m : Nat) (hm : m ≤ 1048576) : impl_powerUpTo (mat n n G) (m : Int) most = some (mat n n (powN n G most m)) := by
 have hx := yia (body := impl_powerUpTo_b5 (mat n n fun _ _ => 0)) n (fun i => (mat n n (fun a b => if a < i then idM a b else 0), (i : Int))) (mat n n idM) (fun i hi => by
  simp only [impl_powerUpTo_b5, mat_len, ywa hi, yga hi, Option.bind_some, w64_nat (show i < 9223372036854775807 by omega), show ((i : Int) < (n : Int)) from by omega, decide_true, if_true, Int.toNat_natCast]
  rw [yfg hi hi]
  congr 3
  refine mat_ext fun a b _ _ => ?_
  by_cases ha : a = i
  ·subst ha
   by_cases hb : b = a
   ·subst hb; simp [idM]
   ·simp [hb, idM, Ne.symm hb]
  ·by_cases h2 : a < i
   ·simp [ha, h2, show a < i + 1 by omega]
   ·simp [ha, h2, show ¬ a < i + 1 by omega]) (by
  simp only [impl_powerUpTo_b5, mat_len, Int.lt_irrefl, decide_false, Bool.false_eq_true, if_false]
  congr 2
  exact mat_ext fun a b ha _ => by simp [ha])
 unfold impl_powerUpTo
 rw [mat_len, yva n (by omega), Option.bind_some]
 simp only [Nat.not_lt_zero, if_false] at hx
 rw [show (0 : Int) = ((0 : Nat) : Int) from rfl, show (fun (_ _ : Nat) => ((0 : Nat) : Int)) = fun _ _ => (0 : Int) from rfl, hx, Option.bind_some, impl_powerUpTo_k1, impl_b1 hn m hm]
 rfl
end impl
section spec
variable {n : Nat} {G : Nat → Nat → Int}
theorem yoe (v : Int) : spec_grCap v = some (if (1000000001 : Int) < v then 1000000001 else v) := by
 unfold spec_grCap spec_l1Least
 by_cases h : v < 1000000001
 ·simp [h, show ¬ (1000000001 : Int) < v by omega]
 ·by_cases h2 : (1000000001 : Int) < v
  ·simp [h, h2]
  ·have : v = 1000000001 := by omega
   subst this; simp
theorem spec_b4 (hn : n ≤ 8) {i j : Nat} (hi : i < n) (hj : j < n) (F : Nat → Nat → Int) (t : Int) (Y : List (List Int)) (Z : List Int) (R : Nat → Int) :
  loopO (spec_grPower_b4 (mat n n G) (t, mat n n F) (Y, (i : Int)) (Z, (j : Int))) (tab n R, 0) = some (tab n (fun b => if b = j then foldN n (fun acc k => capMul 1000000001 acc (F i k) (G k j)) (R b) else R b)) := by
 have hx := yia (body := spec_grPower_b4 (mat n n G) (t, mat n n F) (Y, (i : Int)) (Z, (j : Int))) n (fun l => (tab n (fun b => if b = j then foldN l (fun acc k => capMul 1000000001 acc (F i k) (G k j)) (R b) else R b), (l : Int))) (tab n (fun b => if b = j then foldN n (fun acc k => capMul 1000000001 acc (F i k) (G k j)) (R b) else R b)) (fun l hl => by
  simp only [spec_grPower_b4, mat_len, yga hj, ywa hi, ywa hl, yga hl, Option.bind_some, yoe, w64_nat (show l < 9223372036854775807 by omega), show ((l : Int) < (n : Int)) from by omega, decide_true, if_true, Int.toNat_natCast]
  rw [tab_set hj]
  congr 3
  refine tab_ext fun b _ => ?_
  by_cases hb : b = j
  ·subst hb; simp only [if_true, yra]; rfl
  ·simp [hb]) (by simp only [spec_grPower_b4, mat_len, Int.lt_irrefl, decide_false, Bool.false_eq_true, if_false])
 simp only [ytc] at hx
 rw [show (fun b => if b = j then R b else R b) = R from by funext b; split <;> rfl] at hx
 simpa using hx
theorem spec_b3 (hn : n ≤ 8) {i : Nat} (hi : i < n) (F : Nat → Nat → Int) (t : Int) (Y : List (List Int)) :
  loopO (spec_grPower_b3 (mat n n G) (t, mat n n F) (Y, (i : Int))) (tab n (fun _ => 0), 0) = some (tab n (powStep n G 1000000001 F i)) := by
 have hx := yia (body := spec_grPower_b3 (mat n n G) (t, mat n n F) (Y, (i : Int))) n (fun j => (tab n (fun b => if b < j then powStep n G 1000000001 F i b else 0), (j : Int))) (tab n (powStep n G 1000000001 F i)) (fun j hj => by
  simp only [spec_grPower_b3, mat_len, spec_b4 hn hi hj, Option.bind_some, spec_grPower_k7, w64_nat (show j < 9223372036854775807 by omega), show ((j : Int) < (n : Int)) from by omega, decide_true, if_true]
  congr 3
  refine tab_ext fun b _ => ?_
  by_cases hb : b = j
  ·subst hb; simp [powStep]
  ·by_cases h2 : b < j
   ·simp [hb, h2, show b < j + 1 by omega]
   ·simp [hb, h2, show ¬ b < j + 1 by omega]) (by
  simp only [spec_grPower_b3, mat_len, Int.lt_irrefl, decide_false, Bool.false_eq_true, if_false]
  congr 2
  exact tab_ext fun b hb => by simp [hb])
 simpa using hx
theorem spec_b2 (hn : n ≤ 8) (F : Nat → Nat → Int) (t : Int) : loopO (spec_grPower_b2 (mat n n G) (t, mat n n F)) ([], 0) = some (mat n n (powStep n G 1000000001 F)) := by
 have hx := yia (body := spec_grPower_b2 (mat n n G) (t, mat n n F)) n (fun i => (tab i (fun a => tab n (powStep n G 1000000001 F a)), (i : Int))) (mat n n (powStep n G 1000000001 F)) (fun i hi => by
  simp only [spec_grPower_b2, mat_len, show ((i : Int) < (n : Int)) from by omega, decide_true, if_true]
  rw [yda (by omega), Int.toNat_natCast, rep_tab, spec_b3 hn hi, Option.bind_some, spec_grPower_k6, yda (by simp [tab_len]; omega), spec_grPower_k5]
  simp only [w64_nat (show i < 9223372036854775807 by omega)]
  rw [yac i (fun a => tab n (powStep n G 1000000001 F a))]) (by simp only [spec_grPower_b2, mat_len, Int.lt_irrefl, decide_false, Bool.false_eq_true, if_false]; rfl)
 simpa [yok] using hx
theorem spec_b1 (hn : n ≤ 8) (m : Nat) (hm : m ≤ 1048576) : loopO (spec_grPower_b1 (mat n n G)) ((m : Int), mat n n idM) = some (mat n n (powN n G 1000000001 m)) := by
 have hx := yia (body := spec_grPower_b1 (mat n n G)) m (fun t => (((m - t : Nat) : Int), mat n n (powN n G 1000000001 t))) (mat n n (powN n G 1000000001 m)) (fun t ht => by
  simp only [spec_grPower_b1, show (((m - t : Nat) : Int) > 0) from by omega, decide_true, if_true, spec_b2 hn, Option.bind_some, spec_grPower_k4, spec_grPower_k3]
  rw [w64_id (by omega) (by omega), show ((m - t : Nat) : Int) - 1 = ((m - (t + 1) : Nat) : Int) by omega]
  rfl) (by simp [spec_grPower_b1])
 simpa [powN] using hx
theorem ymf (hn : n ≤ 8) (m : Nat) (hm : m ≤ 1048576) : spec_grPower (mat n n G) (m : Int) = some (mat n n (powN n G 1000000001 m)) := by
 have hx := yia (body := spec_grPower_b5 (mat n n G)) n (fun i => (tab i (fun a => tab n (idM a)), (i : Int))) (mat n n idM) (fun i hi => by
  simp only [spec_grPower_b5, mat_len, show ((i : Int) < (n : Int)) from by omega, decide_true, if_true]
  rw [yda (by omega), yda (by simp [tab_len]; omega), Int.toNat_natCast, Int.toNat_natCast, rep_tab]
  have e : tab i (fun a => tab n (idM a)) ++ [tab n fun _ => (0 : Int)] = tab (i + 1) (fun a => if a < i then tab n (idM a) else tab n fun _ => 0) := by
   rw [← yac]
   simp only [Nat.lt_irrefl, if_false]
   congr 1
   exact tab_ext fun a ha => by simp [ha]
  rw [e, yga (Nat.lt_succ_self i), Option.bind_some]
  simp only [Nat.lt_irrefl, if_false, yga hi, Option.bind_some, w64_nat (show i < 9223372036854775807 by omega)]
  rw [tab_set (Nat.lt_succ_self i), tab_set hi]
  congr 3
  refine tab_ext fun a ha => ?_
  by_cases h1 : a = i
  ·subst h1
   simp only [if_true]
   exact tab_ext fun b _ => by simp [idM, eq_comm]
  ·simp [h1, show a < i by omega]) (by simp only [spec_grPower_b5, mat_len, Int.lt_irrefl, decide_false, Bool.false_eq_true, if_false]; rfl)
 unfold spec_grPower
 simp only [yok] at hx
 rw [show (0 : Int) = ((0 : Nat) : Int) from rfl, hx, Option.bind_some, spec_grPower_k1, spec_b1 hn m hm]
 rfl
end spec
def capAt (x : Int) : Int := if 1000000001 < x then 1000000001 else x
def total (g : List (List Int)) : Int := (g.map List.sum).sum
def totalWalks (g : List (List Int)) (m : Int) : Int × Bool :=
 if isGraph g && inB 0 12 m then
  let t := total (mat g.length g.length (powN g.length (fun i j => (g.getD i []).getD j 0) 1000000001 m.toNat))
  if t > 1000000000 then (0, false) else (t, true)
 else (0, false)
end Go.PV

/-
 Plain laws: what divides numbers of closed walks.
 Conditions: none.
-/
set_option linter.all false
namespace Go.PV
section
variable {n : Nat} (hn : n ≤ 8)
def S2 (n : Nat) (f : Nat → Nat → Int) : Int := sm n fun i => sm n fun j => f i j
def S3 (n : Nat) (f : Nat → Nat → Nat → Int) : Int := sm n fun i => S2 n fun j k => f i j k
def S4 (n : Nat) (f : Nat → Nat → Nat → Nat → Int) : Int := sm n fun i => S3 n fun j k l => f i j k l
def S5 (n : Nat) (f : Nat → Nat → Nat → Nat → Nat → Int) : Int := sm n fun i => S4 n fun j k l m => f i j k l m
theorem S2_ext {f g : Nat → Nat → Int} (h : ∀ i j, i < n → j < n → f i j = g i j) : S2 n f = S2 n g := sm_ext fun i hi => sm_ext fun j hj => h i j hi hj
theorem S3_ext {f g : Nat → Nat → Nat → Int} (h : ∀ i j k, i < n → j < n → k < n → f i j k = g i j k) : S3 n f = S3 n g := sm_ext fun i hi => S2_ext fun j k hj hk => h i j k hi hj hk
theorem S4_ext {f g : Nat → Nat → Nat → Nat → Int} (h : ∀ i j k l, i < n → j < n → k < n → l < n → f i j k l = g i j k l) : S4 n f = S4 n g := sm_ext fun i hi => S3_ext fun j k l hj hk hl => h i j k l hi hj hk hl
theorem S5_ext {f g : Nat → Nat → Nat → Nat → Nat → Int} (h : ∀ i j k l m, i < n → j < n → k < n → l < n → m < n → f i j k l m = g i j k l m) : S5 n f = S5 n g := sm_ext fun i hi => S4_ext fun j k l m hj hk hl hm => h i j k l m hi hj hk hl hm
theorem S2_add (f g : Nat → Nat → Int) : S2 n (fun i j => f i j + g i j) = S2 n f + S2 n g := by
 unfold S2
 rw [← sm_add]; exact sm_ext fun i _ => sm_add ..
theorem S3_add (f g : Nat → Nat → Nat → Int) : S3 n (fun i j k => f i j k + g i j k) = S3 n f + S3 n g := by
 unfold S3
 rw [← sm_add]; exact sm_ext fun i _ => S2_add ..
theorem S4_add (f g : Nat → Nat → Nat → Nat → Int) : S4 n (fun i j k l => f i j k l + g i j k l) = S4 n f + S4 n g := by
 unfold S4
 rw [← sm_add]; exact sm_ext fun i _ => S3_add ..
theorem S5_add (f g : Nat → Nat → Nat → Nat → Nat → Int) : S5 n (fun i j k l m => f i j k l m + g i j k l m) = S5 n f + S5 n g := by
 unfold S5
 rw [← sm_add]; exact sm_ext fun i _ => S4_add ..
theorem S2_rot (f : Nat → Nat → Int) : S2 n (fun i j => f j i) = S2 n f := sm_swap n n fun i j => f j i
theorem S3_rot (f : Nat → Nat → Nat → Int) : S3 n (fun i j k => f j k i) = S3 n f := by
 show sm n (fun i => sm n fun j => sm n fun k => f j k i) = sm n fun i => sm n fun j => sm n fun k => f i j k
 rw [sm_swap]
 exact sm_ext fun j _ => sm_swap n n fun i k => f j k i
theorem S4_rot (f : Nat → Nat → Nat → Nat → Int) : S4 n (fun i j k l => f j k l i) = S4 n f := by
 show sm n (fun i => sm n fun j => sm n fun k => sm n fun l => f j k l i) = sm n fun i => S3 n fun j k l => f i j k l
 rw [sm_swap]
 exact sm_ext fun j _ => S3_rot fun k l i => f j k l i
theorem S5_rot (f : Nat → Nat → Nat → Nat → Nat → Int) : S5 n (fun i j k l m => f j k l m i) = S5 n f := by
 show sm n (fun i => sm n fun j => sm n fun k => sm n fun l => sm n fun m => f j k l m i) = sm n fun i => S4 n fun j k l m => f i j k l m
 rw [sm_swap]
 exact sm_ext fun j _ => S4_rot fun k l m i => f j k l m i
def l2 (i j : Nat) : Int := if i < j then 1 else 0
def l3 (i j k : Nat) : Int := if 64 * i + 8 * j + k < 64 * j + 8 * k + i ∧ 64 * i + 8 * j + k < 64 * k + 8 * i + j then 1 else 0
def l4 (i j k l : Nat) : Int := if 512 * i + 64 * j + 8 * k + l < 512 * j + 64 * k + 8 * l + i ∧ 512 * i + 64 * j + 8 * k + l < 512 * k + 64 * l + 8 * i + j ∧ 512 * i + 64 * j + 8 * k + l < 512 * l + 64 * i + 8 * j + k then 1 else 0
def l5 (i j k l m : Nat) : Int := if 4096 * i + 512 * j + 64 * k + 8 * l + m < 4096 * j + 512 * k + 64 * l + 8 * m + i ∧ 4096 * i + 512 * j + 64 * k + 8 * l + m < 4096 * k + 512 * l + 64 * m + 8 * i + j ∧
 4096 * i + 512 * j + 64 * k + 8 * l + m < 4096 * l + 512 * m + 64 * i + 8 * j + k ∧ 4096 * i + 512 * j + 64 * k + 8 * l + m < 4096 * m + 512 * i + 64 * j + 8 * k + l then 1 else 0
theorem part2 (i j : Nat) : (if i = j then (1 : Int) else 0) + l2 i j + l2 j i = 1 := by
 unfold l2
 repeat' split
 all_goals omega
theorem part3 {i j k : Nat} (hi : i < 8) (hj : j < 8) (hk : k < 8) : (if i = j ∧ j = k then (1 : Int) else 0) + l3 i j k + l3 j k i + l3 k i j = 1 := by
 have : ∀ i, i < 8 → ∀ j, j < 8 → ∀ k, k < 8 → (if i = j ∧ j = k then (1 : Int) else 0) + l3 i j k + l3 j k i + l3 k i j = 1 := by decide +kernel
 exact this i hi j hj k hk
theorem part4 {i j k l : Nat} (hi : i < 8) (hj : j < 8) (hk : k < 8) (hl : l < 8) : (if i = k ∧ j = l then (1 : Int) else 0) + l4 i j k l + l4 j k l i + l4 k l i j + l4 l i j k = 1 := by
 have : ∀ i, i < 8 → ∀ j, j < 8 → ∀ k, k < 8 → ∀ l, l < 8 → (if i = k ∧ j = l then (1 : Int) else 0) + l4 i j k l + l4 j k l i + l4 k l i j + l4 l i j k = 1 := by decide +kernel
 exact this i hi j hj k hk l hl
theorem part5 {i j k l m : Nat} (hi : i < 8) (hj : j < 8) (hk : k < 8) (hl : l < 8) (hm : m < 8) : (if i = j ∧ j = k ∧ k = l ∧ l = m then (1 : Int) else 0) + l5 i j k l m + l5 j k l m i + l5 k l m i j + l5 l m i j k + l5 m i j k l = 1 := by
 have : ∀ i, i < 8 → ∀ j, j < 8 → ∀ k, k < 8 → ∀ l, l < 8 → ∀ m, m < 8 → (if i = j ∧ j = k ∧ k = l ∧ l = m then (1 : Int) else 0) + l5 i j k l m + l5 j k l m i + l5 k l m i j + l5 l m i j k + l5 m i j k l = 1 := by decide +kernel
 exact this i hi j hj k hk l hl m hm
include hn in
theorem sum2 (T : Nat → Nat → Int) (hT : ∀ i j, T j i = T i j) : ∃ X, S2 n T = sm n (fun i => T i i) + 2 * X := by
 refine ⟨S2 n fun i j => l2 i j * T i j, ?_⟩
 have e : S2 n T = S2 n (fun i j => (if i = j then 1 else 0) * T i j + l2 i j * T i j + l2 j i * T j i) := S2_ext fun i j _ _ => by
  rw [hT i j, ← Int.add_mul, ← Int.add_mul, part2, Int.one_mul]
 rw [e, S2_add, S2_add, S2_rot fun i j => l2 i j * T i j]
 have d : S2 n (fun i j => (if i = j then 1 else 0) * T i j) = sm n fun i => T i i := sm_ext fun i hi => by
  rw [sm_ext (g := fun j => if j = i then T i j else 0) fun j _ => by by_cases h : i = j <;> simp [h, eq_comm], ydb hi]
 rw [d]; omega
include hn in
theorem sum3 (T : Nat → Nat → Nat → Int) (hT : ∀ i j k, T j k i = T i j k) : ∃ X, S3 n T = sm n (fun i => T i i i) + 3 * X := by
 refine ⟨S3 n fun i j k => l3 i j k * T i j k, ?_⟩
 have e : S3 n T = S3 n (fun i j k => (if i = j ∧ j = k then 1 else 0) * T i j k + l3 i j k * T i j k + l3 j k i * T j k i + l3 k i j * T k i j) := S3_ext fun i j k hi hj hk => by
  rw [show T k i j = T i j k from by rw [← hT k i j], hT i j k, ← Int.add_mul, ← Int.add_mul, ← Int.add_mul, part3 (by omega) (by omega) (by omega), Int.one_mul]
 have r1 := S3_rot (n := n) fun i j k => l3 i j k * T i j k
 have r2 := S3_rot (n := n) fun i j k => l3 j k i * T j k i
 rw [e, S3_add, S3_add, S3_add]
 have d : S3 n (fun i j k => (if i = j ∧ j = k then 1 else 0) * T i j k) = sm n fun i => T i i i := sm_ext fun i hi => by
  show sm n (fun j => sm n fun k => (if i = j ∧ j = k then 1 else 0) * T i j k) = _
  rw [sm_ext (g := fun j => if j = i then T i i i else 0) fun j hj => by
   by_cases h : j = i
   ·subst h
    rw [if_pos rfl, sm_ext (g := fun k => if k = j then T j j k else 0) fun k _ => by by_cases h : j = k <;> simp [h, eq_comm], ydb hj]
   ·rw [if_neg h, sm_ext (g := fun _ => 0) fun k _ => by simp [Ne.symm h], yrb], ydb hi]
 rw [d]
 omega
include hn in
theorem sum4 (T : Nat → Nat → Nat → Nat → Int) (hT : ∀ i j k l, T j k l i = T i j k l) : ∃ X, S4 n T = S2 n (fun i j => T i j i j) + 4 * X := by
 refine ⟨S4 n fun i j k l => l4 i j k l * T i j k l, ?_⟩
 have e : S4 n T = S4 n (fun i j k l => (if i = k ∧ j = l then 1 else 0) * T i j k l + l4 i j k l * T i j k l + l4 j k l i * T j k l i + l4 k l i j * T k l i j + l4 l i j k * T l i j k) := S4_ext fun i j k l hi hj hk hl => by
  rw [show T l i j k = T i j k l from by rw [← hT l i j k], show T k l i j = T j k l i from hT j k l i, hT i j k l, ← Int.add_mul, ← Int.add_mul, ← Int.add_mul, ← Int.add_mul, part4 (by omega) (by omega) (by omega) (by omega), Int.one_mul]
 have r1 := S4_rot (n := n) fun i j k l => l4 i j k l * T i j k l
 have r2 := S4_rot (n := n) fun i j k l => l4 j k l i * T j k l i
 have r3 := S4_rot (n := n) fun i j k l => l4 k l i j * T k l i j
 rw [e, S4_add, S4_add, S4_add, S4_add]
 have d : S4 n (fun i j k l => (if i = k ∧ j = l then 1 else 0) * T i j k l) = S2 n fun i j => T i j i j := sm_ext fun i hi => sm_ext fun j hj => by
  show sm n (fun k => sm n fun l => (if i = k ∧ j = l then 1 else 0) * T i j k l) = _
  rw [sm_ext (g := fun k => if k = i then T i j i j else 0) fun k hk => by
   by_cases h : k = i
   ·subst h
    rw [if_pos rfl, sm_ext (g := fun l => if l = j then T k j k l else 0) fun l _ => by by_cases h : j = l <;> simp [h, eq_comm], ydb hj]
   ·rw [if_neg h, sm_ext (g := fun _ => 0) fun l _ => by simp [Ne.symm h], yrb], ydb hi]
 rw [d]
 omega
include hn in
theorem sum5 (T : Nat → Nat → Nat → Nat → Nat → Int) (hT : ∀ i j k l m, T j k l m i = T i j k l m) : ∃ X, S5 n T = sm n (fun i => T i i i i i) + 5 * X := by
 refine ⟨S5 n fun i j k l m => l5 i j k l m * T i j k l m, ?_⟩
 have e : S5 n T = S5 n (fun i j k l m => (if i = j ∧ j = k ∧ k = l ∧ l = m then 1 else 0) * T i j k l m + l5 i j k l m * T i j k l m + l5 j k l m i * T j k l m i + l5 k l m i j * T k l m i j + l5 l m i j k * T l m i j k + l5 m i j k l * T m i j k l) := S5_ext fun i j k l m hi hj hk hl hm => by
  rw [show T m i j k l = T i j k l m from by rw [← hT m i j k l], show T l m i j k = T j k l m i from by rw [hT k l m i j, hT j k l m i], show T k l m i j = T j k l m i from hT j k l m i, hT i j k l m, ← Int.add_mul, ← Int.add_mul, ← Int.add_mul, ← Int.add_mul, ← Int.add_mul, part5 (by omega) (by omega) (by omega) (by omega) (by omega), Int.one_mul]
 have r1 := S5_rot (n := n) fun i j k l m => l5 i j k l m * T i j k l m
 have r2 := S5_rot (n := n) fun i j k l m => l5 j k l m i * T j k l m i
 have r3 := S5_rot (n := n) fun i j k l m => l5 k l m i j * T k l m i j
 have r4 := S5_rot (n := n) fun i j k l m => l5 l m i j k * T l m i j k
 rw [e, S5_add, S5_add, S5_add, S5_add, S5_add]
 have d : S5 n (fun i j k l m => (if i = j ∧ j = k ∧ k = l ∧ l = m then 1 else 0) * T i j k l m) = sm n fun i => T i i i i i := sm_ext fun i hi => by
  show sm n (fun j => S3 n fun k l m => (if i = j ∧ j = k ∧ k = l ∧ l = m then 1 else 0) * T i j k l m) = _
  rw [sm_ext (g := fun j => if j = i then T i i i i i else 0) fun j hj => by
   by_cases h : j = i
   ·subst h
    rw [if_pos rfl]
    show sm n (fun k => sm n fun l => sm n fun m => (if j = j ∧ j = k ∧ k = l ∧ l = m then 1 else 0) * T j j k l m) = _
    rw [sm_ext (g := fun k => if k = j then T j j j j j else 0) fun k hk => by
     by_cases h : k = j
     ·subst h
      rw [if_pos rfl, sm_ext (g := fun l => if l = k then T k k k k k else 0) fun l hl => by
       by_cases h : l = k
       ·subst h
        rw [if_pos rfl, sm_ext (g := fun m => if m = l then T l l l l m else 0) fun m _ => by by_cases h : l = m <;> simp [h, eq_comm], ydb hl]
       ·rw [if_neg h, sm_ext (g := fun _ => 0) fun m _ => by simp [Ne.symm h], yrb], ydb hk]
     ·rw [if_neg h, sm_ext (g := fun _ => 0) fun l _ => by rw [sm_ext (g := fun _ => 0) fun m _ => by simp [Ne.symm h], yrb], yrb], ydb hj]
   ·rw [if_neg h]
    show sm n (fun k => sm n fun l => sm n fun m => (if i = j ∧ j = k ∧ k = l ∧ l = m then 1 else 0) * T i j k l m) = 0
    rw [sm_ext (g := fun _ => 0) fun k _ => by rw [sm_ext (g := fun _ => 0) fun l _ => by rw [sm_ext (g := fun _ => 0) fun m _ => by simp [Ne.symm h], yrb], yrb], yrb], ydb hi]
 rw [d]
 omega
end
end Go.PV

/-
 Plain laws: what divides numbers of closed walks, in short.
 Conditions: none.
-/
set_option linter.all false
namespace Go.PV
section
variable {n : Nat}
theorem cw2 (B : Nat → Nat → Int) : cw n B 2 = S2 n fun i j => B i j * B j i := sm_ext fun i hi => by
 show sm n (fun k => pw n B 1 i k * B k i) = _
 exact sm_ext fun k _ => by rw [pw_one hi]
theorem pw_two (B : Nat → Nat → Int) {i : Nat} (hi : i < n) (k : Nat) : pw n B 2 i k = sm n fun j => B i j * B j k := by
 show sm n (fun j => pw n B 1 i j * B j k) = _
 exact sm_ext fun j _ => by rw [pw_one hi]
theorem ysk (B : Nat → Nat → Int) {i : Nat} (hi : i < n) (l : Nat) : pw n B 3 i l = S2 n fun j k => B i j * B j k * B k l := by
 show sm n (fun k => pw n B 2 i k * B k l) = sm n fun j => sm n fun k => B i j * B j k * B k l
 rw [← sm_swap]
 exact sm_ext fun k _ => by rw [pw_two B hi, sm_mul']
theorem pw_four (B : Nat → Nat → Int) {i : Nat} (hi : i < n) (m : Nat) : pw n B 4 i m = S3 n fun j k l => B i j * B j k * B k l * B l m := by
 show sm n (fun l => pw n B 3 i l * B l m) = sm n fun j => sm n fun k => sm n fun l => B i j * B j k * B k l * B l m
 rw [sm_ext (g := fun j => sm n fun l => sm n fun k => B i j * B j k * B k l * B l m) fun j _ => sm_swap .., ← sm_swap]
 exact sm_ext fun l _ => by
  rw [ysk B hi]
  show (sm n fun j => sm n fun k => B i j * B j k * B k l) * B l m = _
  rw [← sm_mul']
  exact sm_ext fun j _ => (sm_mul' ..).symm
theorem cw3 (B : Nat → Nat → Int) : cw n B 3 = S3 n fun i j k => B i j * B j k * B k i := sm_ext fun i hi => ysk B hi i
theorem cw4 (B : Nat → Nat → Int) : cw n B 4 = S4 n fun i j k l => B i j * B j k * B k l * B l i := sm_ext fun i hi => pw_four B hi i
theorem cw5 (B : Nat → Nat → Int) : cw n B 5 = S5 n fun i j k l m => B i j * B j k * B k l * B l m * B m i := sm_ext fun i hi => by
 show sm n (fun m => pw n B 4 i m * B m i) = sm n fun j => sm n fun k => sm n fun l => sm n fun m => B i j * B j k * B k l * B l m * B m i
 rw [sm_ext (g := fun j => sm n fun k => sm n fun m => sm n fun l => B i j * B j k * B k l * B l m * B m i) fun j _ => sm_ext fun k _ => sm_swap .., sm_ext (g := fun j => sm n fun m => sm n fun k => sm n fun l => B i j * B j k * B k l * B l m * B m i) fun j _ => sm_swap .., ← sm_swap]
 refine sm_ext fun m _ => ?_
 rw [pw_four B hi]
 show (sm n fun j => sm n fun k => sm n fun l => B i j * B j k * B k l * B l m) * B m i = _
 rw [← sm_mul']
 refine sm_ext fun j _ => ?_
 rw [← sm_mul']
 exact sm_ext fun k _ => (sm_mul' ..).symm
theorem sq_even (a : Int) : (2 : Int) ∣ a * a - a := by
 have : a % 2 = 0 ∨ a % 2 = 1 := by omega
 rcases this with h | h
 ·obtain ⟨q, hq⟩ : ∃ q, a = 2 * q := ⟨a / 2, by omega⟩
  exact ⟨2 * q * q - q, by rw [hq]; grind⟩
 ·obtain ⟨q, hq⟩ : ∃ q, a = 2 * q + 1 := ⟨a / 2, by omega⟩
  exact ⟨2 * q * q + q, by rw [hq]; grind⟩
theorem yco (a : Int) : (3 : Int) ∣ a * a * a - a := by
 have : a % 3 = 0 ∨ a % 3 = 1 ∨ a % 3 = 2 := by omega
 rcases this with h | h | h
 ·obtain ⟨q, hq⟩ : ∃ q, a = 3 * q := ⟨a / 3, by omega⟩
  exact ⟨9 * q * q * q - q, by rw [hq]; grind⟩
 ·obtain ⟨q, hq⟩ : ∃ q, a = 3 * q + 1 := ⟨a / 3, by omega⟩
  exact ⟨9 * q * q * q + 9 * q * q + 2 * q, by rw [hq]; grind⟩
 ·obtain ⟨q, hq⟩ : ∃ q, a = 3 * q + 2 := ⟨a / 3, by omega⟩
  exact ⟨9 * q * q * q + 18 * q * q + 11 * q + 2, by rw [hq]; grind⟩
theorem ydo (a : Int) : (4 : Int) ∣ a * a * (a * a) - a * a := by
 have : a % 2 = 0 ∨ a % 2 = 1 := by omega
 rcases this with h | h
 ·obtain ⟨q, hq⟩ : ∃ q, a = 2 * q := ⟨a / 2, by omega⟩
  exact ⟨4 * q * q * q * q - q * q, by rw [hq]; grind⟩
 ·obtain ⟨q, hq⟩ : ∃ q, a = 2 * q + 1 := ⟨a / 2, by omega⟩
  exact ⟨(2 * q + 1) * (2 * q + 1) * (q * q + q), by rw [hq]; grind⟩
theorem yeo (a : Int) : (5 : Int) ∣ a * a * a * a * a - a := by
 have : a % 5 = 0 ∨ a % 5 = 1 ∨ a % 5 = 2 ∨ a % 5 = 3 ∨ a % 5 = 4 := by omega
 have key : ∀ r q : Int, a = 5 * q + r → (5 : Int) ∣ r * r * r * r * r - r → (5 : Int) ∣ a * a * a * a * a - a := fun r q hq ⟨x, hx⟩ =>
  ⟨625 * q * q * q * q * q + 625 * q * q * q * q * r + 250 * q * q * q * r * r + 50 * q * q * r * r * r + 5 * q * r * r * r * r - q + x, by rw [hq]; grind⟩
 rcases this with h | h | h | h | h
 ·exact key 0 (a / 5) (by omega) ⟨0, by decide⟩
 ·exact key 1 (a / 5) (by omega) ⟨0, by decide⟩
 ·exact key 2 (a / 5) (by omega) ⟨6, by decide⟩
 ·exact key 3 (a / 5) (by omega) ⟨48, by decide⟩
 ·exact key 4 (a / 5) (by omega) ⟨204, by decide⟩
variable (hn : n ≤ 8)
include hn
theorem gauss2 (B : Nat → Nat → Int) : (2 : Int) ∣ cw n B 2 - tr n B := by
 obtain ⟨X, hX⟩ := sum2 hn (fun i j => B i j * B j i) fun i j => Int.mul_comm ..
 have h := sm_dvd (n := n) (d := 2) (f := fun i => B i i * B i i - B i i) fun i _ => sq_even _
 rw [sm_sub] at h
 rw [cw2, hX]
 unfold tr
 obtain ⟨y, hy⟩ := h
 exact ⟨X + y, by omega⟩
theorem gauss3 (B : Nat → Nat → Int) : (3 : Int) ∣ cw n B 3 - tr n B := by
 obtain ⟨X, hX⟩ := sum3 hn (fun i j k => B i j * B j k * B k i) fun i j k => by grind
 have h := sm_dvd (n := n) (d := 3) (f := fun i => B i i * B i i * B i i - B i i) fun i _ => yco _
 rw [sm_sub] at h
 rw [cw3, hX]
 unfold tr
 obtain ⟨y, hy⟩ := h
 exact ⟨X + y, by omega⟩
theorem gauss5 (B : Nat → Nat → Int) : (5 : Int) ∣ cw n B 5 - tr n B := by
 obtain ⟨X, hX⟩ := sum5 hn (fun i j k l m => B i j * B j k * B k l * B l m * B m i) fun i j k l m => by grind
 have h := sm_dvd (n := n) (d := 5) (f := fun i => B i i * B i i * B i i * B i i * B i i - B i i) fun i _ => yeo _
 rw [sm_sub] at h
 rw [cw5, hX]
 unfold tr
 obtain ⟨y, hy⟩ := h
 exact ⟨X + y, by omega⟩
theorem gauss4 (B : Nat → Nat → Int) : (4 : Int) ∣ cw n B 4 - cw n B 2 := by
 obtain ⟨X, hX⟩ := sum4 hn (fun i j k l => B i j * B j k * B k l * B l i) fun i j k l => by grind
 have hx : ∀ i j, B i j * B j i * (B i j * B j i) - B i j * B j i = 2 * ((B i j * B j i * (B i j * B j i) - B i j * B j i) / 2) := fun i j => (Int.mul_ediv_cancel' (sq_even _)).symm
 obtain ⟨Y, hY⟩ := sum2 hn (fun i j => (B i j * B j i * (B i j * B j i) - B i j * B j i) / 2) fun i j => by
  show (B j i * B i j * (B j i * B i j) - B j i * B i j) / 2 = _
  rw [Int.mul_comm (B j i)]
 have e : S2 n (fun i j => B i j * B j i * B i j * B j i) - cw n B 2 = 2 * S2 n (fun i j => (B i j * B j i * (B i j * B j i) - B i j * B j i) / 2) := by
  rw [cw2]
  unfold S2
  rw [← sm_sub, ← sm_mul]
  refine sm_ext fun i _ => ?_
  rw [← sm_sub, ← sm_mul]
  refine sm_ext fun j _ => ?_
  rw [← hx]; grind
 have e2 : 2 * sm n (fun i => (B i i * B i i * (B i i * B i i) - B i i * B i i) / 2) = sm n fun i => B i i * B i i * (B i i * B i i) - B i i * B i i := by
  rw [← sm_mul]; exact sm_ext fun i _ => (hx i i).symm
 have h := sm_dvd (n := n) (d := 4) (f := fun i => B i i * B i i * (B i i * B i i) - B i i * B i i) fun i _ => ydo _
 obtain ⟨z, hz⟩ := h
 rw [cw4, hX]
 exact ⟨X + Y + z, by omega⟩
theorem gauss6 (A : Nat → Nat → Int) : (6 : Int) ∣ cw n A 6 - cw n A 3 - cw n A 2 + cw n A 1 := by
 have h1 := gauss2 hn (pw n A 3)
 have h2 := gauss2 hn A
 have h3 := gauss3 hn (pw n A 2)
 have h4 := gauss3 hn A
 rw [← cw_mul 3 2, show tr n (pw n A 3) = cw n A 3 from rfl] at h1
 rw [← cw_mul 2 3, show tr n (pw n A 2) = cw n A 2 from rfl] at h3
 rw [← cw_one] at h2 h4
 have e1 : 3 * 2 = 6 := rfl
 have e2 : 2 * 3 = 6 := rfl
 rw [e1] at h1
 rw [e2] at h3
 omega
end
end Go.PV

/-
 Plain laws: closed walks on both sides.
 Conditions: none.
-/
set_option linter.all false
namespace Go.PV
theorem ytk {S w a : Int} (hS : 0 ≤ S) (hw : 0 ≤ w) (h5 : 0 ≤ a) (h6 : a ≤ 9) : capMul 1000000001 (capAt S) (capAt w) a = capAt (S + w * a) := by
 have hs : 0 ≤ capAt S ∧ capAt S ≤ 1000000001 := by unfold capAt; split <;> omega
 have hc : 0 ≤ capAt w ∧ capAt w ≤ 1000000001 := by unfold capAt; split <;> omega
 have h1 : 0 ≤ capAt w * a := Int.mul_nonneg hc.1 h5
 have h2 : capAt w * a ≤ capAt w * 9 := Int.mul_le_mul_of_nonneg_left h6 hc.1
 unfold capMul
 rw [w64_id (n := capAt w * a) (by omega) (by omega), w64_id (n := capAt S + capAt w * a) (by omega) (by omega)]
 by_cases ha : a = 0
 ·subst ha
  simp only [Int.mul_zero, Int.add_zero]
  rw [if_neg (by omega)]
 ·have h3 : capAt w * 1 ≤ capAt w * a := Int.mul_le_mul_of_nonneg_left (by omega) hc.1
  have h4 : w * 1 ≤ w * a := Int.mul_le_mul_of_nonneg_left (by omega) hw
  by_cases hw2 : 1000000001 < w
  ·have e : capAt w = 1000000001 := by unfold capAt; rw [if_pos hw2]
   rw [e] at h3 ⊢
   have e2 : capAt (S + w * a) = 1000000001 := by unfold capAt; rw [if_pos (by omega)]
   rw [e2]
   split
   ·rfl
   ·omega
  ·have e : capAt w = w := by unfold capAt; rw [if_neg hw2]
   rw [e] at h1 ⊢
   unfold capAt
   (repeat' split) <;> omega
section
variable {n : Nat} {G : Nat → Nat → Int}
theorem yci (hG : ∀ i j, i < n → j < n → 0 ≤ G i j ∧ G i j ≤ 9) : ∀ (d : Nat) {i j : Nat}, i < n → j < n → powN n G 1000000001 d i j = capAt (pw n G d i j)
 | 0, i, j, _, _ => by
  show idM i j = _
  unfold idM capAt
  simp only [pw]
  (repeat' split) <;> omega
 | d + 1, i, j, hi, hj => by
  have hA : ∀ i j, i < n → j < n → 0 ≤ G i j := fun i j hi hj => (hG i j hi hj).1
  show foldN n (fun acc k => capMul 1000000001 acc (powN n G 1000000001 d i k) (G k j)) 0 = capAt (sm n fun k => pw n G d i k * G k j)
  have : ∀ m, m ≤ n → foldN m (fun acc k => capMul 1000000001 acc (powN n G 1000000001 d i k) (G k j)) 0 = capAt (sm m fun k => pw n G d i k * G k j) := by
   intro m
   induction m with
   | zero => intro _; rfl
   | succ m ih =>
    intro hm
    rw [yra, ih (by omega), sm_succ, yci hG d hi (show m < n by omega)]
    exact ytk (ycd fun k hk => Int.mul_nonneg (yoa hA d hi (by omega)) (hA k j (by omega) hj)) (yoa hA d hi (by omega)) (hG m j (by omega) hj).1 (hG m j (by omega) hj).2
  exact this n (Nat.le_refl n)
theorem ymc (hn : n ≤ 8) (hG : ∀ i j, i < n → j < n → 0 ≤ G i j ∧ G i j ≤ 9) (d : Nat) (hd : d ≤ 1048576) : spec_grClosed (mat n n G) (d : Int) = some (capAt (cw n G d)) := by
 have hA : ∀ i j, i < n → j < n → 0 ≤ G i j := fun i j hi hj => (hG i j hi hj).1
 have hx := yia (body := spec_grClosed_b1 (mat n n (powN n G 1000000001 d))) n (fun i => (capAt (sm i fun i => pw n G d i i), (i : Int))) (capAt (cw n G d)) (fun i hi => by
  have h0 : 0 ≤ sm i fun i => pw n G d i i := ycd fun k hk => yoa hA d (by omega) (by omega)
  have h1 := yoa hA d hi hi
  have h2 : 0 ≤ capAt (sm i fun i => pw n G d i i) ∧ capAt (sm i fun i => pw n G d i i) ≤ 1000000001 := by unfold capAt; split <;> omega
  have h3 : 0 ≤ capAt (pw n G d i i) ∧ capAt (pw n G d i i) ≤ 1000000001 := by unfold capAt; split <;> omega
  simp only [spec_grClosed_b1, mat_len, ywa hi, yga hi, Option.bind_some, yci hG d hi hi, yoe, w64_nat (show i < 9223372036854775807 by omega), show ((i : Int) < (n : Int)) from by omega, decide_true, if_true, sm_succ]
  rw [w64_id (by omega) (by omega)]
  congr 3
  unfold capAt
  (repeat' split) <;> omega) (by
  simp only [spec_grClosed_b1, mat_len, Int.lt_irrefl, decide_false, Bool.false_eq_true, if_false]
  rfl)
 unfold spec_grClosed
 rw [ymf hn d hd, Option.bind_some]
 have hx' : loopO (spec_grClosed_b1 (mat n n (powN n G 1000000001 d))) (0, 0) = some (capAt (cw n G d)) := hx
 rw [hx']
 rfl
theorem ync (hn : n ≤ 8) (hG : ∀ i j, i < n → j < n → 0 ≤ G i j ∧ G i j ≤ 9) (d : Nat) (hd : d ≤ 1048576) : impl_closedWalks (mat n n G) (d : Int) = some (if 1000000000 < cw n G d then (0, false) else (cw n G d, true)) := by
 have hA : ∀ i j, i < n → j < n → 0 ≤ G i j := fun i j hi hj => (hG i j hi hj).1
 have hb : ∀ m, m ≤ n → 0 ≤ (sm m fun i => capAt (pw n G d i i)) ∧ (sm m fun i => capAt (pw n G d i i)) ≤ 1000000001 * m := by
  intro m
  induction m with
  | zero => intro _; simp [sm_zero]
  | succ m ih =>
   intro hm
   have h1 := ih (by omega)
   have h3 : 0 ≤ capAt (pw n G d m m) ∧ capAt (pw n G d m m) ≤ 1000000001 := by have := yoa hA d (show m < n by omega) (show m < n by omega); unfold capAt; split <;> omega
   rw [sm_succ]
   omega
 have hx := yia (body := impl_closedWalks_b1 (mat n n (powN n G 1000000001 d))) n (fun i => (sm i fun i => capAt (pw n G d i i), (i : Int))) (sm n fun i => capAt (pw n G d i i)) (fun i hi => by
  have h1 := hb i (by omega)
  have h2 := hb (i + 1) (by omega)
  rw [sm_succ] at h2
  simp only [impl_closedWalks_b1, mat_len, ywa hi, yga hi, Option.bind_some, yci hG d hi hi, w64_nat (show i < 9223372036854775807 by omega), show ((i : Int) < (n : Int)) from by omega, decide_true, if_true, sm_succ]
  rw [w64_id (by omega) (by omega)]) (by
  simp only [impl_closedWalks_b1, mat_len, Int.lt_irrefl, decide_false, Bool.false_eq_true, if_false])
 have hx' : loopO (impl_closedWalks_b1 (mat n n (powN n G 1000000001 d))) (0, 0) = some (sm n fun i => capAt (pw n G d i i)) := hx
 unfold impl_closedWalks impl_power
 rw [yqe hn d hd]
 simp only [Option.bind_some]
 rw [hx', Option.bind_some]
 unfold impl_closedWalks_k1
 have hle : (sm n fun i => capAt (pw n G d i i)) ≤ cw n G d := sm_le fun i hi => by unfold capAt; split <;> omega
 by_cases h : 1000000000 < cw n G d
 ·rw [if_pos h]
  have : 1000000000 < sm n fun i => capAt (pw n G d i i) := by
   refine Classical.byContradiction fun hno => ?_
   have : (sm n fun i => capAt (pw n G d i i)) = cw n G d := sm_ext fun i hi => by
    have := sm_one hi (f := fun i => capAt (pw n G d i i)) fun k hk => by have := yoa hA d hk hk; unfold capAt; split <;> omega
    by_cases h2 : 1000000001 < pw n G d i i
    ·have e : capAt (pw n G d i i) = 1000000001 := by unfold capAt; rw [if_pos h2]
     simp only [e] at this
     omega
    ·unfold capAt; rw [if_neg h2]
   omega
  simp [this]
 ·rw [if_neg h]
  have e : (sm n fun i => capAt (pw n G d i i)) = cw n G d := sm_ext fun i hi => by
   have := sm_one hi (f := fun i => pw n G d i i) fun k hk => yoa hA d hk hk
   have h2 : (sm n fun i => pw n G d i i) = cw n G d := rfl
   unfold capAt
   rw [if_neg]
   rw [h2] at this
   omega
  rw [e]
  simp [h]
end
end Go.PV

/-
 Plain laws: marks on lists, and that they are held.
 Conditions: none.
-/
set_option linter.all false
namespace Go.PV
section
variable {α : Type}
def marks (w : Nat) (f : Int → α) (n : Nat) (k : Int) : List α := tab n fun i => f (k + (w : Int) * i)
end
def markI (n : Nat) (k : Int) : List Int := marks 1 (fun c => c) n k
def markR (n : Nat) (k : Int) : List (Int × Int) := marks 2 (fun c => (c, c + 1)) n k
end Go.PV

/-
 Plain laws: numbers of cycles.
 Conditions: none.
-/
set_option linter.all false
namespace Go.PV
theorem yfo {X Y : Type} {body : X → Option (X ⊕ Y)} (I : X → Prop) (R : Y → Prop) (h : ∀ x o, I x → body x = some o → match o with | .inl x' => I x' | .inr y => R y) {x0 : X} {y : Y} (h0 : I x0) (e : loopO body x0 = some y) : R y := by
 obtain ⟨n, hn⟩ := loopO_some.1 e
 clear e
 induction n generalizing x0 with
 | zero => cases hn
 | succ n ih =>
  simp only [iterO] at hn
  cases hb : body x0 with
  | none => rw [hb] at hn; cases hn
  | some o =>
   have := h x0 o h0 hb
   rw [hb] at hn
   cases o with
   | inl x' => exact ih this hn
   | inr y' => simp only [Option.some.injEq] at hn; subst hn; exact this
def mu (k : Nat) : Int := [0, 1, -1, -1, 0, -1, 1, -1, 0, 0, 1, -1, 0].getD k 0
theorem ynf {k : Nat} (h1 : 1 ≤ k) (h2 : k ≤ 12) : impl_moebius (k : Int) = some (mu k) := by
 have go : ∀ (k : Nat) (y : Int ⊕ Int), iterO impl_moebius_b1 20 ((k : Int), 1, 2) = some y → Sum.elim id id y = mu k → impl_moebius (k : Int) = some (mu k) := fun k y h h3 => by
  unfold impl_moebius
  rw [loopO_some.2 ⟨20, h⟩]
  cases y with
  | inl a => simp only [Option.bind_some, Sum.elim_inl, id] at h3 ⊢; rw [h3]
  | inr a => simp only [Option.bind_some, Sum.elim_inr, id, impl_moebius_k1] at h3 ⊢; rw [h3]
 match k, h1, h2 with
 | 1, _, _ => exact go 1 (.inr 1) rfl rfl
 | 2, _, _ => exact go 2 (.inr (-1)) rfl rfl
 | 3, _, _ => exact go 3 (.inr (-1)) rfl rfl
 | 4, _, _ => exact go 4 (.inl 0) rfl rfl
 | 5, _, _ => exact go 5 (.inr (-1)) rfl rfl
 | 6, _, _ => exact go 6 (.inr 1) rfl rfl
 | 7, _, _ => exact go 7 (.inr (-1)) rfl rfl
 | 8, _, _ => exact go 8 (.inl 0) rfl rfl
 | 9, _, _ => exact go 9 (.inl 0) rfl rfl
 | 10, _, _ => exact go 10 (.inr 1) rfl rfl
 | 11, _, _ => exact go 11 (.inr (-1)) rfl rfl
 | 12, _, _ => exact go 12 (.inl 0) rfl rfl
def cyN (c : Nat → Int) (n : Nat) : Int := sm (n + 1) fun e => if n % e = 0 then mu (n / e) * c e else 0
theorem cy_inv (c : Nat → Int) {n : Nat} (h1 : 1 ≤ n) (h2 : n ≤ 12) : sm n (fun e => if n % e = 0 then cyN c e else 0) + cyN c n = c n := by
 have : n = 1 ∨ n = 2 ∨ n = 3 ∨ n = 4 ∨ n = 5 ∨ n = 6 ∨ n = 7 ∨ n = 8 ∨ n = 9 ∨ n = 10 ∨ n = 11 ∨ n = 12 := by omega
 rcases this with rfl | rfl | rfl | rfl | rfl | rfl | rfl | rfl | rfl | rfl | rfl | rfl <;> (simp [cyN, sm_succ, sm_zero, mu] <;> omega)
theorem cy_dvd {n : Nat} (hn : n ≤ 8) (A : Nat → Nat → Int) {e : Nat} (h1 : 1 ≤ e) (h2 : e ≤ 6) : (e : Int) ∣ cyN (cw n A) e := by
 have g2 := gauss2 hn A
 have g3 := gauss3 hn A
 have g4 := gauss4 hn A
 have g5 := gauss5 hn A
 have g6 := gauss6 hn A
 rw [← cw_one] at g2 g3 g5
 have : e = 1 ∨ e = 2 ∨ e = 3 ∨ e = 4 ∨ e = 5 ∨ e = 6 := by omega
 rcases this with rfl | rfl | rfl | rfl | rfl | rfl <;> (simp [cyN, sm_succ, sm_zero, mu] <;> omega)
theorem mu_bd (k : Nat) : -1 ≤ mu k ∧ mu k ≤ 1 := by
 by_cases h : k < 13
 ·have : ∀ k, k < 13 → -1 ≤ mu k ∧ mu k ≤ 1 := by decide
  exact this k h
 ·have : mu k = 0 := by unfold mu; rw [List.getD_eq_getElem?_getD, List.getElem?_eq_none (by simp; omega)]; rfl
  rw [this]; decide
theorem cy_bd {c : Nat → Int} {n : Nat} : ∀ m, (∀ e, e < m → n % e = 0 → 0 ≤ c e ∧ c e ≤ 1000000000) → -1000000000 * (m : Int) ≤ (sm m fun e => if n % e = 0 then mu (n / e) * c e else 0) ∧ (sm m fun e => if n % e = 0 then mu (n / e) * c e else 0) ≤ 1000000000 * (m : Int)
 | 0, _ => by simp [sm_zero]
 | m + 1, h => by
  have ih := cy_bd m fun e he hd => h e (by omega) hd
  rw [sm_succ]
  have : -1000000000 ≤ (if n % m = 0 then mu (n / m) * c m else 0) ∧ (if n % m = 0 then mu (n / m) * c m else 0) ≤ 1000000000 := by
   split
   ·rename_i hd
    have h1 := h m (by omega) hd
    have h2 := mu_bd (n / m)
    have : mu (n / m) = -1 ∨ mu (n / m) = 0 ∨ mu (n / m) = 1 := by omega
    rcases this with e | e | e <;> rw [e] <;> omega
   ·omega
  omega
section
variable {n : Nat} {G : Nat → Nat → Int} (hn : n ≤ 8) (hG : ∀ i j, i < n → j < n → 0 ≤ G i j ∧ G i j ≤ 9)
include hn hG
theorem cw_ge (d : Nat) : 0 ≤ cw n G d := ycd fun i hi => yoa (fun i j hi hj => (hG i j hi hj).1) d hi hi
theorem ykf {e m : Nat} (hm : 1 ≤ m) (hd : m % e = 0) : cw n G e ≤ cw n G m := cw_dvd (fun i j hi hj => (hG i j hi hj).1) (Nat.dvd_of_mod_eq_zero hd) hm
theorem yib {m : Nat} (h1 : 1 ≤ m) (h2 : m ≤ 12) : impl_cycleCount (mat n n G) (m : Int) = some (if 1000000000 < cw n G m then (0, false) else (Int.tdiv (cyN (cw n G) m) (m : Int), true)) := by
 obtain ⟨y, e1, e2⟩ := yeg (body := impl_cycleCount_b1 (mat n n G) (m : Int)) (fun s => ∃ i : Nat, i ≤ m ∧ s = (sm (i + 1) (fun e => if m % e = 0 then mu (m / e) * cw n G e else 0), ((i + 1 : Nat) : Int)) ∧ ∀ e, e ≤ i → m % e = 0 → cw n G e ≤ 1000000000) (fun s => m + 1 - s.2.toNat)
  (fun y => y = if 1000000000 < cw n G m then .inl (0, false) else .inr (cyN (cw n G) m)) (fun s ⟨i, hi, e, hq⟩ => by
   subst e
   by_cases hlt : i < m
   ·have ht : Int.tmod (m : Int) ((i + 1 : Nat) : Int) = ((m % (i + 1) : Nat) : Int) := rfl
    have hdv : Int.tdiv (m : Int) ((i + 1 : Nat) : Int) = ((m / (i + 1) : Nat) : Int) := rfl
    simp only [impl_cycleCount_b1, show (((i + 1 : Nat) : Int) ≤ (m : Int)) from by omega, decide_true, if_true]
    rw [yda (by omega), ht]
    by_cases hd : m % (i + 1) = 0
    ·have hb : (((m % (i + 1) : Nat) : Int) == 0) = true := by rw [hd]; rfl
     have hle := ykf hn hG h1 hd
     rw [if_pos hb, ync hn hG (i + 1) (by omega), Option.bind_some]
     by_cases hc : 1000000000 < cw n G (i + 1)
     ·right
      refine ⟨.inl (0, false), by rw [if_pos hc]; rfl, by rw [if_pos (by omega)]⟩
     ·left
      have hdd := Nat.div_pos (show i + 1 ≤ m by omega) (show 0 < i + 1 by omega)
      have hdl := Nat.div_le_self m (i + 1)
      have b1 := cy_bd (c := cw n G) (n := m) (i + 1) fun e he hd => ⟨cw_ge hn hG e, hq e (by omega) hd⟩
      have b2 := cy_bd (c := cw n G) (n := m) (i + 1 + 1) fun e he hd => ⟨cw_ge hn hG e, by
       by_cases h : e = i + 1
       ·subst h; omega
       ·exact hq e (by omega) hd⟩
      rw [sm_succ, if_pos hd] at b2
      refine ⟨_, by
       rw [if_neg hc]
       simp only [Bool.not_true, Bool.false_eq_true, if_false, hdv]
       rw [w64_id (n := ((m / (i + 1) : Nat) : Int)) (by omega) (by omega), ynf hdd (by omega), Option.bind_some, w64_id (n := mu (m / (i + 1)) * cw n G (i + 1)) (by omega) (by omega), w64_id (by omega) (by omega), w64_nat (show i + 1 < 9223372036854775807 by omega)], ⟨i + 1, by omega, by rw [sm_succ (i + 1) (fun e => if m % e = 0 then mu (m / e) * cw n G e else 0), if_pos hd], fun e he hd => by
       by_cases h : e = i + 1
       ·subst h; omega
       ·exact hq e (by omega) hd⟩, by simp only [Int.toNat_natCast]; omega⟩
    ·have hb : (((m % (i + 1) : Nat) : Int) == 0) = false := by rw [beq_eq_false_iff_ne]; exact fun h => hd (by exact_mod_cast h)
     left
     refine ⟨_, by rw [hb]; simp only [Bool.false_eq_true, if_false]; rw [w64_nat (show i + 1 < 9223372036854775807 by omega)], ⟨i + 1, by omega, by rw [sm_succ (i + 1) (fun e => if m % e = 0 then mu (m / e) * cw n G e else 0), if_neg hd, Int.add_zero], fun e he hd' => by
       by_cases h : e = i + 1
       ·subst h; exact absurd hd' hd
       ·exact hq e (by omega) hd'⟩, by simp only [Int.toNat_natCast]; omega⟩
   ·have : i = m := by omega
    subst this
    right
    have h3 := hq i (Nat.le_refl _) (Nat.mod_self i)
    exact ⟨.inr (cyN (cw n G) i), by simp only [impl_cycleCount_b1, show ¬ (((i + 1 : Nat) : Int) ≤ (i : Int)) from by omega, decide_false, Bool.false_eq_true, if_false]; rfl, by rw [if_neg (by omega)]⟩) (0, 1) ⟨0, by omega, by
    have : ¬ (m % 0 = 0) := by rw [Nat.mod_zero]; omega
    rw [sm_succ, if_neg this]; rfl, fun e he hd => by
    have : e = 0 := by omega
    subst this
    rw [Nat.mod_zero] at hd; omega⟩
 unfold impl_cycleCount
 rw [e1, e2]
 by_cases hc : 1000000000 < cw n G m
 ·rw [if_pos hc, if_pos hc]; rfl
 ·rw [if_neg hc, if_neg hc]
  have b := cy_bd (c := cw n G) (n := m) (m + 1) fun e he hd => ⟨cw_ge hn hG e, by have := ykf hn hG h1 hd; omega⟩
  have b' : -1000000000 * ((m + 1 : Nat) : Int) ≤ cyN (cw n G) m ∧ cyN (cw n G) m ≤ 1000000000 * ((m + 1 : Nat) : Int) := b
  have hab : (Int.tdiv (cyN (cw n G) m) (m : Int)).natAbs ≤ (cyN (cw n G) m).natAbs := by rw [Int.natAbs_tdiv]; exact Nat.div_le_self _ _
  simp only [Option.bind_some, Sum.elim_inr, impl_cycleCount_k1]
  rw [yda (by omega), w64_id (by omega) (by omega)]
end
end Go.PV

/-
 Plain laws: numbers of cycles on the reference's side; the laws.
 Conditions: none.
-/
set_option linter.all false
namespace Go.PV
def zc (n : Nat) (G : Nat → Nat → Int) (m : Nat) : Int := if 1000000000 < cw n G m then -1 else Int.tdiv (cyN (cw n G) m) (m : Int)
def zS (n : Nat) (G : Nat → Nat → Int) (m i : Nat) : Int × Int := (cw n G m - sm (i + 1) (fun e => if m % e = 0 then cyN (cw n G) e else 0), ((i + 1 : Nat) : Int))
section
variable {n : Nat} {G : Nat → Nat → Int} (hn : n ≤ 8) (hG : ∀ i j, i < n → j < n → 0 ≤ G i j ∧ G i j ≤ 9)
include hn hG
theorem cyN_bd {m e : Nat} (h1 : 1 ≤ m) (hm : cw n G m ≤ 1000000000) (hd : m % e = 0) (he : e ≤ 12) (he1 : 1 ≤ e) : -13000000000 ≤ cyN (cw n G) e ∧ cyN (cw n G) e ≤ 13000000000 := by
 have h3 := ykf hn hG h1 hd
 have b := cy_bd (c := cw n G) (n := e) (e + 1) fun e' he hd' => ⟨cw_ge hn hG e', by have := ykf hn hG he1 hd'; omega⟩
 have b' : -1000000000 * ((e + 1 : Nat) : Int) ≤ cyN (cw n G) e ∧ cyN (cw n G) e ≤ 1000000000 * ((e + 1 : Nat) : Int) := b
 omega
theorem cyS_bd {m : Nat} (h1 : 1 ≤ m) (h2 : m ≤ 12) (hm : cw n G m ≤ 1000000000) : ∀ k, k ≤ m → -13000000000 * (k : Int) ≤ (sm k fun e => if m % e = 0 then cyN (cw n G) e else 0) ∧ (sm k fun e => if m % e = 0 then cyN (cw n G) e else 0) ≤ 13000000000 * (k : Int)
 | 0, _ => by simp [sm_zero]
 | k + 1, h => by
  have ih := cyS_bd h1 h2 hm k (by omega)
  rw [sm_succ]
  have : -13000000000 ≤ (if m % k = 0 then cyN (cw n G) k else 0) ∧ (if m % k = 0 then cyN (cw n G) k else 0) ≤ 13000000000 := by
   split
   ·rename_i hd
    by_cases hk : k = 0
    ·subst hk; rw [Nat.mod_zero] at hd; omega
    ·exact cyN_bd hn hG h1 hm hd (by omega) (by omega)
   ·omega
  omega
theorem zc_mul {m e : Nat} (h1 : 1 ≤ m) (h2 : m ≤ 12) (hm : cw n G m ≤ 1000000000) (hd : m % e = 0) (he1 : 1 ≤ e) (he : e < m) : (e : Int) * zc n G e = cyN (cw n G) e := by
 have h3 := ykf hn hG h1 hd
 have h6 : e ≤ 6 := by
  obtain ⟨k, rfl⟩ := Nat.dvd_of_mod_eq_zero hd
  have : 2 ≤ k := by
   match k with
   | 0 => omega
   | 1 => omega
   | k + 2 => omega
  have := Nat.mul_le_mul_left e this
  omega
 unfold zc
 rw [if_neg (by omega)]
 exact Int.mul_tdiv_cancel' (cy_dvd hn G he1 h6)
theorem z_step {rc : List (List Int) → Int → Option Int} {m i : Nat} (h1 : 1 ≤ m) (h2 : m ≤ 12) (hm : cw n G m ≤ 1000000000) (hi : i + 1 < m) (hr : m % (i + 1) = 0 → rc (mat n n G) ((i + 1 : Nat) : Int) = some (zc n G (i + 1))) :
  spec_zeCycles_r_b1 rc (mat n n G) (m : Int) (zS n G m i) = some (.inl (zS n G m (i + 1))) := by
 have ht : Int.tmod (m : Int) ((i + 1 : Nat) : Int) = ((m % (i + 1) : Nat) : Int) := rfl
 have b1 := cyS_bd hn hG h1 h2 hm (i + 1) (by omega)
 have b2 := cyS_bd hn hG h1 h2 hm (i + 1 + 1) (by omega)
 have g0 := cw_ge hn hG m
 unfold zS
 simp only [spec_zeCycles_r_b1, show (((i + 1 : Nat) : Int) < (m : Int)) from by omega, decide_true, if_true]
 rw [yda (by omega), ht]
 by_cases hd : m % (i + 1) = 0
 ·have hb : (((m % (i + 1) : Nat) : Int) == 0) = true := by rw [hd]; rfl
  have hz := zc_mul hn hG h1 h2 hm hd (by omega) hi
  have hc := cyN_bd hn hG h1 hm hd (by omega) (by omega)
  rw [if_pos hb, hr hd, Option.bind_some, hz]
  rw [sm_succ (i + 1) (fun e => if m % e = 0 then cyN (cw n G) e else 0), if_pos hd] at b2 ⊢
  rw [w64_id (n := cyN (cw n G) (i + 1)) (by omega) (by omega), w64_id (by omega) (by omega), w64_nat (show i + 1 < 9223372036854775807 by omega)]
  congr 3
  omega
 ·have hb : (((m % (i + 1) : Nat) : Int) == 0) = false := by rw [beq_eq_false_iff_ne]; exact fun h => hd (by exact_mod_cast h)
  rw [hb]
  simp only [Bool.false_eq_true, if_false]
  rw [sm_succ (i + 1) (fun e => if m % e = 0 then cyN (cw n G) e else 0), if_neg hd, w64_nat (show i + 1 < 9223372036854775807 by omega), Int.add_zero]
theorem z_end {rc : List (List Int) → Int → Option Int} {m i : Nat} (h1 : 1 ≤ m) (h2 : m ≤ 12) (hi : i + 1 = m) : spec_zeCycles_r_b1 rc (mat n n G) (m : Int) (zS n G m i) = some (.inr (cyN (cw n G) m)) := by
 have := cy_inv (cw n G) h1 h2
 unfold zS
 rw [hi]
 simp only [spec_zeCycles_r_b1, Int.lt_irrefl, decide_false, Bool.false_eq_true, if_false]
 congr 2
 omega
theorem z_0 {m : Nat} (h1 : 1 ≤ m) : zS n G m 0 = (cw n G m, 1) := by
 have : ¬ (m % 0 = 0) := by rw [Nat.mod_zero]; omega
 unfold zS
 rw [sm_succ, if_neg this, sm_zero]
 simp
theorem z_fin {m : Nat} (h1 : 1 ≤ m) (h2 : m ≤ 12) (hm : cw n G m ≤ 1000000000) : spec_zeCycles_r_k1 (m : Int) (cyN (cw n G) m) = some (zc n G m) := by
 have b := cyN_bd hn hG h1 hm (Nat.mod_self m) h2 h1
 have hab : (Int.tdiv (cyN (cw n G) m) (m : Int)).natAbs ≤ (cyN (cw n G) m).natAbs := by rw [Int.natAbs_tdiv]; exact Nat.div_le_self _ _
 unfold spec_zeCycles_r_k1 zc
 rw [yda (by omega), w64_id (by omega) (by omega), if_neg (by omega)]
theorem z_cap {m : Nat} : (capAt (cw n G m) > 1000000000) ↔ 1000000000 < cw n G m := by
 unfold capAt; split <;> omega
theorem z_all {rc : List (List Int) → Int → Option Int} {m : Nat} (h1 : 1 ≤ m) (h2 : m ≤ 12) (hr : ∀ e, 1 ≤ e → e < m → rc (mat n n G) (e : Int) = some (zc n G e)) : spec_zeCycles_r rc (mat n n G) (m : Int) = some (zc n G m) := by
 unfold spec_zeCycles_r
 rw [ymc hn hG m (by omega), Option.bind_some]
 by_cases hc : 1000000000 < cw n G m
 ·rw [if_pos (by simpa using (z_cap hn hG).2 hc)]
  unfold zc; rw [if_pos hc]
 ·rw [if_neg (by simpa using fun h => hc ((z_cap hn hG).1 h))]
  have e : capAt (cw n G m) = cw n G m := by unfold capAt; rw [if_neg (by omega)]
  have hx := yia (body := spec_zeCycles_r_b1 rc (mat n n G) (m : Int)) (m - 1) (zS n G m) (cyN (cw n G) m) (fun i hi => z_step hn hG h1 h2 (by omega) (by omega) fun _ => hr (i + 1) (by omega) (by omega)) (z_end hn hG h1 h2 (by omega))
  rw [z_0 hn hG h1] at hx
  rw [e, hx, Option.bind_some, z_fin hn hG h1 h2 (by omega)]
theorem z_some {rc : List (List Int) → Int → Option Int} {m : Nat} (h1 : 1 ≤ m) (h2 : m ≤ 12) (hr : ∀ e r, 1 ≤ e → e < m → rc (mat n n G) (e : Int) = some r → r = zc n G e) {r : Int} (h : spec_zeCycles_r rc (mat n n G) (m : Int) = some r) : r = zc n G m := by
 unfold spec_zeCycles_r at h
 rw [ymc hn hG m (by omega), Option.bind_some] at h
 by_cases hc : 1000000000 < cw n G m
 ·rw [if_pos (by simpa using (z_cap hn hG).2 hc)] at h
  unfold zc; rw [if_pos hc]; exact (Option.some.inj h).symm
 ·rw [if_neg (by simpa using fun h => hc ((z_cap hn hG).1 h))] at h
  have e : capAt (cw n G m) = cw n G m := by unfold capAt; rw [if_neg (by omega)]
  rw [e, ← z_0 hn hG h1] at h
  obtain ⟨y, e1, h⟩ := Option.bind_eq_some_iff.1 h
  have := yfo (fun s => ∃ i, i + 1 ≤ m ∧ s = zS n G m i) (fun y => y = cyN (cw n G) m) (fun s o ⟨i, hi, e2⟩ hb => by
   subst e2
   by_cases hlt : i + 1 < m
   ·have key : (m % (i + 1) = 0 → rc (mat n n G) ((i + 1 : Nat) : Int) = some (zc n G (i + 1))) → o = .inl (zS n G m (i + 1)) := fun h3 => by
     rw [z_step hn hG h1 h2 (by omega) hlt h3] at hb
     exact (Option.some.inj hb).symm
    have : o = .inl (zS n G m (i + 1)) := by
     cases hv : rc (mat n n G) ((i + 1 : Nat) : Int) with
     | some v =>
      have := hr (i + 1) v (by omega) hlt hv
      exact key fun _ => by rw [hv, this]
     | none =>
      by_cases hd : m % (i + 1) = 0
      ·exfalso
       have ht : Int.tmod (m : Int) ((i + 1 : Nat) : Int) = ((m % (i + 1) : Nat) : Int) := rfl
       have hbb : (((m % (i + 1) : Nat) : Int) == 0) = true := by rw [hd]; rfl
       unfold zS at hb
       simp only [spec_zeCycles_r_b1, show (((i + 1 : Nat) : Int) < (m : Int)) from by omega, decide_true, if_true] at hb
       rw [yda (by omega), ht, if_pos hbb, hv] at hb
       cases hb
      ·exact key fun h => absurd h hd
    subst this
    exact ⟨i + 1, by omega, rfl⟩
   ·rw [z_end hn hG h1 h2 (by omega)] at hb
    obtain rfl := Option.some.inj hb
    rfl) ⟨0, by omega, rfl⟩ e1
  rw [this, z_fin hn hG h1 h2 (by omega)] at h
  exact (Option.some.inj h).symm
theorem yuc {m : Nat} (h1 : 1 ≤ m) (h2 : m ≤ 12) : spec_zeCycles (mat n n G) (m : Int) = some (zc n G m) := by
 have tot : ∀ (k m : Nat), 1 ≤ m → m ≤ 12 → m ≤ k → spec_zeCycles_f k (mat n n G) (m : Int) = some (zc n G m) := by
  intro k
  induction k with
  | zero => intro m a b c; omega
  | succ k ih => intro m a b c; exact z_all hn hG a b fun e e1 e2 => ih e e1 (by omega) (by omega)
 have par : ∀ (k m : Nat) (r : Int), 1 ≤ m → m ≤ 12 → spec_zeCycles_f k (mat n n G) (m : Int) = some r → r = zc n G m := by
  intro k
  induction k with
  | zero => intro m r _ _ h; cases h
  | succ k ih => intro m r a b h; exact z_some hn hG a b (fun e r e1 e2 h => ih e r e1 (by omega) h) h
 exact yqn m (tot m m h1 h2 (Nat.le_refl m)) fun k r h => par k m r h1 h2 h
end
end Go.PV

/-
 Plain laws: numbers of cycles are not negative.
 Conditions: none.
-/
set_option linter.all false
namespace Go.PV
section
variable {n : Nat} {A : Nat → Nat → Int} (hA : ∀ i j, i < n → j < n → 0 ≤ A i j)
include hA
theorem pw_step (d : Nat) {i j l : Nat} (hi : i < n) (hj : j < n) (hl : l < n) : pw n A d i l * A l j ≤ pw n A (d + 1) i j :=
 sm_one hl (f := fun l => pw n A d i l * A l j) fun k hk => Int.mul_nonneg (yoa hA d hi hk) (hA k j hk hj)
theorem pw_odd {i j : Nat} (hi : i < n) (hj : j < n) (h : 1 ≤ A i j) (h' : 1 ≤ A j i) : ∀ k, A i j ≤ pw n A (2 * k + 1) i j
 | 0 => by rw [show 2 * 0 + 1 = 1 from rfl, pw_one hi]; exact Int.le_refl _
 | k + 1 => by
  have ih := pw_odd hi hj h h' k
  have s1 := pw_step hA (2 * k + 1) hi hi hj
  have s2 := pw_step hA (2 * k + 1 + 1) hi hj hi
  have m1 := Int.mul_le_mul (show (1 : Int) ≤ pw n A (2 * k + 1) i j by omega) h' (by omega) (by omega)
  have m2 := Int.mul_le_mul_of_nonneg_right (show (1 : Int) ≤ pw n A (2 * k + 1 + 1) i i by omega) (show 0 ≤ A i j by omega)
  have e : 2 * (k + 1) + 1 = 2 * k + 1 + 1 + 1 := by omega
  rw [e]
  omega
theorem pw_diag {i : Nat} (hi : i < n) : ∀ k, 1 ≤ k → A i i ≤ pw n A k i i := by
 intro k
 induction k with
 | zero => intro h; omega
 | succ k ih =>
  intro _
  by_cases h0 : k = 0
  ·subst h0; rw [Nat.zero_add, pw_one hi]; exact Int.le_refl _
  ·have h1 := ih (by omega)
   have h2 := pw_step hA k hi hi hi
   have h3 := hA i i hi hi
   by_cases h4 : A i i = 0
   ·rw [h4]; exact yoa hA _ hi hi
   ·have h5 := Int.mul_le_mul h1 (show (1 : Int) ≤ A i i by omega) (by omega) (by omega)
    omega
theorem cw_odd (k : Nat) : cw n A 2 - tr n A ≤ cw n A ((2 * k + 1) * 2) - cw n A (2 * k + 1) := by
 rw [cw_mul, cw2, cw2, show cw n A (2 * k + 1) = tr n (pw n A (2 * k + 1)) from rfl]
 have d : ∀ B : Nat → Nat → Int, S2 n (fun i j => B i j * B j i) - tr n B = S2 n fun i j => B i j * B j i - if j = i then B i i else 0 := fun B => by
  unfold S2 tr
  rw [← sm_sub]
  refine sm_ext fun i hi => ?_
  rw [sm_sub, ydb hi fun _ => B i i]
 rw [d, d]
 refine sm_le fun i hi => sm_le fun j hj => ?_
 have p1 := yoa hA (2 * k + 1) hi hj
 have p2 := yoa hA (2 * k + 1) hj hi
 have a1 := hA i j hi hj
 have a2 := hA j i hj hi
 by_cases h : j = i
 ·subst h
  simp only [if_true]
  have h1 := pw_diag hA hj (2 * k + 1) (by omega)
  by_cases h0 : A j j = 0
  ·rw [h0]
   by_cases h3 : pw n A (2 * k + 1) j j = 0
   ·rw [h3]; decide
   ·have := Int.mul_le_mul_of_nonneg_left (show (1 : Int) ≤ pw n A (2 * k + 1) j j by omega) p1
    omega
  ·have m1 := Int.mul_le_mul_of_nonneg_left h1 (show 0 ≤ A j j - 1 by omega)
   have m2 := Int.mul_le_mul_of_nonneg_right (show A j j - 1 ≤ pw n A (2 * k + 1) j j - 1 by omega) p1
   grind
 ·simp only [if_neg h]
  by_cases h0 : A i j = 0 ∨ A j i = 0
  ·have : A i j * A j i = 0 := by rcases h0 with h0 | h0 <;> rw [h0] <;> simp
   rw [this]
   have := Int.mul_nonneg p1 p2
   omega
  ·have b1 := pw_odd hA hi hj (by omega) (by omega) k
   have b2 := pw_odd hA hj hi (by omega) (by omega) k
   have := Int.mul_le_mul b1 b2 a2 p1
   omega
theorem yae {m : Nat} (h1 : 1 ≤ m) (h2 : m ≤ 12) : 0 ≤ cyN (cw n A) m := by
 have hB : ∀ i j, i < n → j < n → 0 ≤ pw n A 2 i j := fun i j hi hj => yoa hA 2 hi hj
 have o3 := cw_odd hA 1
 have o5 := cw_odd hA 2
 have o6 := cw_odd hB 1
 rw [← cw_mul 2 2, ← cw_mul 2 ((2 * 1 + 1) * 2), ← cw_mul 2 (2 * 1 + 1), show tr n (pw n A 2) = cw n A 2 from rfl] at o6
 rw [← cw_one] at o3 o5
 have dv : ∀ d m : Nat, m % d = 0 → 1 ≤ m → cw n A d ≤ cw n A m := fun d m h hm => cw_dvd hA (Nat.dvd_of_mod_eq_zero h) hm
 have n1 : 0 ≤ cw n A 1 := ycd fun i hi => yoa hA 1 hi hi
 have d2 := dv 1 2 rfl (by omega)
 have d3 := dv 1 3 rfl (by omega)
 have d4 := dv 2 4 rfl (by omega)
 have d5 := dv 1 5 rfl (by omega)
 have d7 := dv 1 7 rfl (by omega)
 have d8 := dv 4 8 rfl (by omega)
 have d9 := dv 3 9 rfl (by omega)
 have d11 := dv 1 11 rfl (by omega)
 have : m = 1 ∨ m = 2 ∨ m = 3 ∨ m = 4 ∨ m = 5 ∨ m = 6 ∨ m = 7 ∨ m = 8 ∨ m = 9 ∨ m = 10 ∨ m = 11 ∨ m = 12 := by omega
 rcases this with rfl | rfl | rfl | rfl | rfl | rfl | rfl | rfl | rfl | rfl | rfl | rfl <;> (simp [cyN, sm_succ, sm_zero, mu] at * <;> omega)
end
end Go.PV

/-
 Plain laws: tables of numbers of cycles.
 Conditions: none.
-/
set_option linter.all false
namespace Go.PV
section
variable {n : Nat} {G : Nat → Nat → Int} (hn : n ≤ 8) (hG : ∀ i j, i < n → j < n → 0 ≤ G i j ∧ G i j ≤ 9)
include hn hG
def zT (n : Nat) (G : Nat → Nat → Int) (i : Nat) : Int := Int.tdiv (cyN (cw n G) (i + 1)) ((i + 1 : Nat) : Int)
theorem yuk {m : Nat} (h2 : m ≤ 12) : ∃ r ok, r.length ≤ 12 ∧
  ((loopO (spec_CycleTable_b1 (mat n n G) (m : Int)) ([], 1)).bind fun y => (Sum.elim (fun p => some p) (fun p => spec_CycleTable_k1 p)) y) = some (r, ok) ∧
  ((loopO (impl_CycleTable_b1 (mat n n G) (m : Int)) ([], 1)).bind fun y => (Sum.elim (fun p => some p) (fun p => impl_CycleTable_k1 p)) y) = some (r, ok) ∧ (ok = false → r = []) ∧ (ok = true → r = tab m (zT n G) ∧ ∀ e, 1 ≤ e → e ≤ m → cw n G e ≤ 1000000000) := by
 by_cases hall : ∃ e, 1 ≤ e ∧ e ≤ m ∧ 1000000000 < cw n G e
 ·refine ⟨[], false, by simp, ?_, ?_, fun _ => rfl, fun h => by cases h⟩
  ·obtain ⟨y, e1, e2⟩ := yeg (body := spec_CycleTable_b1 (mat n n G) (m : Int)) (fun s => ∃ i : Nat, i ≤ m ∧ s = (tab i (zT n G), ((i + 1 : Nat) : Int)) ∧ ∀ e, 1 ≤ e → e ≤ i → cw n G e ≤ 1000000000) (fun s => m + 1 - s.2.toNat) (fun y => y = .inl ([], false)) (fun s ⟨i, hi, e, hq⟩ => by
    subst e
    by_cases hlt : i < m
    ·simp only [spec_CycleTable_b1, show (((i + 1 : Nat) : Int) ≤ (m : Int)) from by omega, decide_true, if_true, yuc hn hG (show 1 ≤ i + 1 by omega) (show i + 1 ≤ 12 by omega), Option.bind_some]
     by_cases hc : 1000000000 < cw n G (i + 1)
     ·right
      refine ⟨_, ?_, rfl⟩
      unfold zc
      rw [if_pos hc]
      rfl
     ·left
      have hz : 0 ≤ Int.tdiv (cyN (cw n G) (i + 1)) ((i + 1 : Nat) : Int) := Int.tdiv_nonneg (yae (fun i j hi hj => (hG i j hi hj).1) (by omega) (by omega)) (by omega)
      unfold zc
      rw [if_neg hc, if_neg (by simp only [decide_eq_true_eq]; omega)]
      refine ⟨_, by rw [yda (by simp [tab_len]; omega), w64_nat (show i + 1 < 9223372036854775807 by omega)], ⟨i + 1, by omega, by rw [← yac i (zT n G)]; rfl, fun e a b => by
       by_cases h : e = i + 1
       ·subst h; omega
       ·exact hq e a (by omega)⟩, by simp only [Int.toNat_natCast]; omega⟩
    ·exfalso
     obtain ⟨e, a, b, c⟩ := hall
     have := hq e a (by omega)
     omega) ([], 1) ⟨0, by omega, rfl, fun e a b => by omega⟩
   rw [e1, e2]; rfl
  ·obtain ⟨y, e1, e2⟩ := yeg (body := impl_CycleTable_b1 (mat n n G) (m : Int)) (fun s => ∃ i : Nat, i ≤ m ∧ s = (tab i (zT n G), ((i + 1 : Nat) : Int)) ∧ ∀ e, 1 ≤ e → e ≤ i → cw n G e ≤ 1000000000) (fun s => m + 1 - s.2.toNat) (fun y => y = .inl ([], false)) (fun s ⟨i, hi, e, hq⟩ => by
    subst e
    by_cases hlt : i < m
    ·simp only [impl_CycleTable_b1, show (((i + 1 : Nat) : Int) ≤ (m : Int)) from by omega, decide_true, if_true, yib hn hG (show 1 ≤ i + 1 by omega) (show i + 1 ≤ 12 by omega), Option.bind_some]
     by_cases hc : 1000000000 < cw n G (i + 1)
     ·right
      refine ⟨_, ?_, rfl⟩
      rw [if_pos hc]
      rfl
     ·left
      rw [if_neg hc]
      refine ⟨_, by
       simp only [Bool.not_true, Bool.false_eq_true, if_false]
       rw [yda (by simp [tab_len]; omega), w64_nat (show i + 1 < 9223372036854775807 by omega)], ⟨i + 1, by omega, by rw [← yac i (zT n G)]; rfl, fun e a b => by
       by_cases h : e = i + 1
       ·subst h; omega
       ·exact hq e a (by omega)⟩, by simp only [Int.toNat_natCast]; omega⟩
    ·exfalso
     obtain ⟨e, a, b, c⟩ := hall
     have := hq e a (by omega)
     omega) ([], 1) ⟨0, by omega, rfl, fun e a b => by omega⟩
   rw [e1, e2]; rfl
 ·have hq : ∀ e, 1 ≤ e → e ≤ m → cw n G e ≤ 1000000000 := fun e a b => by
   refine Classical.byContradiction fun h => hall ⟨e, a, b, by omega⟩
  refine ⟨tab m (zT n G), true, by rw [tab_len]; omega, ?_, ?_, fun h => (by cases h), fun _ => ⟨rfl, hq⟩⟩
  ·have hx := yia (body := spec_CycleTable_b1 (mat n n G) (m : Int)) m (fun i => (tab i (zT n G), ((i + 1 : Nat) : Int))) (.inr (tab m (zT n G))) (fun i hi => by
    have hz : 0 ≤ Int.tdiv (cyN (cw n G) (i + 1)) ((i + 1 : Nat) : Int) := Int.tdiv_nonneg (yae (fun i j hi hj => (hG i j hi hj).1) (by omega) (by omega)) (by omega)
    have hc := hq (i + 1) (by omega) (by omega)
    simp only [spec_CycleTable_b1, show (((i + 1 : Nat) : Int) ≤ (m : Int)) from by omega, decide_true, if_true, yuc hn hG (show 1 ≤ i + 1 by omega) (show i + 1 ≤ 12 by omega), Option.bind_some]
    unfold zc
    rw [if_neg (show ¬ 1000000000 < cw n G (i + 1) by omega), if_neg (by simp only [decide_eq_true_eq]; omega), yda (by simp [tab_len]; omega), w64_nat (show i + 1 < 9223372036854775807 by omega), ← yac i (zT n G)]
    rfl) (by simp only [spec_CycleTable_b1, show ¬ (((m + 1 : Nat) : Int) ≤ (m : Int)) from by omega, decide_false, Bool.false_eq_true, if_false])
   have hx' : loopO (spec_CycleTable_b1 (mat n n G) (m : Int)) ([], 1) = some (.inr (tab m (zT n G))) := hx
   rw [hx']; rfl
  ·have hx := yia (body := impl_CycleTable_b1 (mat n n G) (m : Int)) m (fun i => (tab i (zT n G), ((i + 1 : Nat) : Int))) (.inr (tab m (zT n G))) (fun i hi => by
    have hc := hq (i + 1) (by omega) (by omega)
    simp only [impl_CycleTable_b1, show (((i + 1 : Nat) : Int) ≤ (m : Int)) from by omega, decide_true, if_true, yib hn hG (show 1 ≤ i + 1 by omega) (show i + 1 ≤ 12 by omega), Option.bind_some]
    rw [if_neg (show ¬ 1000000000 < cw n G (i + 1) by omega)]
    simp only [Bool.not_true, Bool.false_eq_true, if_false]
    rw [yda (by simp [tab_len]; omega), w64_nat (show i + 1 < 9223372036854775807 by omega), ← yac i (zT n G)]
    rfl) (by simp only [impl_CycleTable_b1, show ¬ (((m + 1 : Nat) : Int) ≤ (m : Int)) from by omega, decide_false, Bool.false_eq_true, if_false])
   have hx' : loopO (impl_CycleTable_b1 (mat n n G) (m : Int)) ([], 1) = some (.inr (tab m (zT n G))) := hx
   rw [hx']; rfl
end
theorem ynm (g : List (List Int)) (m : Int) (hg : sized g) : (spec_CycleTable g m = some ([], false) ∧ impl_CycleTable g m = some ([], false)) ∨
  ∃ (n : Nat) (G : Nat → Nat → Int) (k : Nat), 1 ≤ n ∧ n ≤ 8 ∧ g = mat n n G ∧ (∀ i j, i < n → j < n → 0 ≤ G i j ∧ G i j ≤ 9) ∧ isGraph g = true ∧ m = (k : Int) ∧ 1 ≤ k ∧ k ≤ 12 ∧ (∀ e, 1 ≤ e → e ≤ k → cw n G e ≤ 1000000000) ∧ spec_CycleTable g m = some (tab k (zT n G), true) ∧ impl_CycleTable g m = some (tab k (zT n G), true) := by
 unfold spec_CycleTable impl_CycleTable impl_isLength
 rw [yma g hg, yka g hg]
 cases h : isGraph g
 ·exact .inl ⟨rfl, rfl⟩
 ·obtain ⟨n, G, h1, h2, rfl, hG⟩ := yuf h
  simp only [Option.bind_some, Bool.not_true, Bool.false_eq_true, if_false, if_true, spec_zeLength, yhb, yha]
  cases hm : inB 1 12 m
  ·exact .inl ⟨rfl, rfl⟩
  ·obtain ⟨m1, m2⟩ := inB_iff.1 hm
   obtain ⟨k, rfl⟩ := Int.eq_ofNat_of_zero_le (show 0 ≤ m by omega)
   obtain ⟨r, ok, e0, e1, e2, e3⟩ := yuk h2 hG (show k ≤ 12 by omega)
   cases ok
   ·left
    obtain rfl := e3.1 rfl
    exact ⟨e1, e2⟩
   ·obtain ⟨rfl, hq⟩ := e3.2 rfl
    exact .inr ⟨n, G, k, h1, h2, rfl, hG, trivial, rfl, by omega, by omega, hq, e1, e2⟩
end Go.PV

/-
 Plain laws: characteristic polynomials.
 Conditions: none.
-/
set_option linter.all false
namespace Go.PV
def mulW (n : Nat) (A M : Nat → Nat → Int) (i j : Nat) : Int := foldN n (fun s l => w64 (s + w64 (A i l * M l j))) 0
def trW (n : Nat) (P : Nat → Nat → Int) : Int := foldN n (fun s i => w64 (s + P i i)) 0
def addD (M : Nat → Nat → Int) (c : Int) (i j : Nat) : Int := if i = j then w64 (M i j + c) else M i j
section
variable {n : Nat} {A : Nat → Nat → Int}
theorem ygo (hn : n ≤ 8) (w : Int) (g r : Nat → Int) : loopO (spec_zeTimes_b3 w (tab n g)) (tab n r, 0) = some (tab n fun j => w64 (r j + w64 (w * g j))) := by
 have hx := yia (body := spec_zeTimes_b3 w (tab n g)) n (fun j => (tab n (fun b => if b < j then w64 (r b + w64 (w * g b)) else r b), (j : Int))) (tab n fun j => w64 (r j + w64 (w * g j))) (fun j hj => by
  simp only [spec_zeTimes_b3, tab_len, yga hj, Option.bind_some, w64_nat (show j < 9223372036854775807 by omega), show ((j : Int) < (n : Int)) from by omega, decide_true, if_true, Int.toNat_natCast, Nat.lt_irrefl, if_false]
  rw [tab_set hj]
  congr 3
  refine tab_ext fun b _ => ?_
  by_cases hb : b = j
  ·subst hb; simp
  ·by_cases h2 : b < j
   ·simp [hb, h2, show b < j + 1 by omega]
   ·simp [hb, h2, show ¬ b < j + 1 by omega]) (by
  simp only [spec_zeTimes_b3, tab_len, Int.lt_irrefl, decide_false, Bool.false_eq_true, if_false]
  congr 2
  exact tab_ext fun b hb => by simp [hb])
 simp only [Nat.not_lt_zero, if_false] at hx
 exact hx
theorem yho (hn : n ≤ 8) (M : Nat → Nat → Int) (a : Nat → Int) : loopO (spec_zeTimes_b2 (mat n n M) (tab n a)) (tab n (fun _ => 0), 0) = some (tab n fun j => foldN n (fun s l => w64 (s + w64 (a l * M l j))) 0) := by
 have hx := yia (body := spec_zeTimes_b2 (mat n n M) (tab n a)) n (fun l => (tab n (fun j => foldN l (fun s l => w64 (s + w64 (a l * M l j))) 0), (l : Int))) (tab n fun j => foldN n (fun s l => w64 (s + w64 (a l * M l j))) 0) (fun l hl => by
  simp only [spec_zeTimes_b2, tab_len, yga hl, ywa hl, Option.bind_some, ygo hn, spec_zeTimes_k4, w64_nat (show l < 9223372036854775807 by omega), show ((l : Int) < (n : Int)) from by omega, decide_true, if_true, yra]) (by
  simp only [spec_zeTimes_b2, tab_len, Int.lt_irrefl, decide_false, Bool.false_eq_true, if_false])
 exact hx
theorem yof (hn : n ≤ 8) (M : Nat → Nat → Int) : spec_zeTimes (mat n n A) (mat n n M) = some (mat n n (mulW n A M)) := by
 have hx := yia (body := spec_zeTimes_b1 (mat n n A) (mat n n M)) n (fun i => (tab i (fun i => tab n (mulW n A M i)), (i : Int))) (mat n n (mulW n A M)) (fun i hi => by
  simp only [spec_zeTimes_b1, mat_len, ywa hi, Option.bind_some, show ((i : Int) < (n : Int)) from by omega, decide_true, if_true]
  rw [yda (by omega), Int.toNat_natCast, rep_tab, yho hn]
  simp only [Option.bind_some, spec_zeTimes_k3, spec_zeTimes_k2]
  rw [yda (by simp [tab_len]; omega), w64_nat (show i < 9223372036854775807 by omega), ← yac i (fun i => tab n (mulW n A M i))]
  rfl) (by
  simp only [spec_zeTimes_b1, mat_len, Int.lt_irrefl, decide_false, Bool.false_eq_true, if_false]
  rfl)
 unfold spec_zeTimes
 rw [show ([], (0 : Int)) = (tab 0 (fun i => tab n (mulW n A M i)), ((0 : Nat) : Int)) from rfl, hx]
 rfl
theorem yed (hn : n ≤ 8) (P : Nat → Nat → Int) : spec_zeTrace (mat n n P) = some (trW n P) := by
 have hx := yia (body := spec_zeTrace_b1 (mat n n P)) n (fun i => (foldN i (fun s i => w64 (s + P i i)) 0, (i : Int))) (trW n P) (fun i hi => by
  simp only [spec_zeTrace_b1, mat_len, ywa hi, yga hi, Option.bind_some, w64_nat (show i < 9223372036854775807 by omega), show ((i : Int) < (n : Int)) from by omega, decide_true, if_true, yra]) (by
  simp only [spec_zeTrace_b1, mat_len, Int.lt_irrefl, decide_false, Bool.false_eq_true, if_false]
  rfl)
 unfold spec_zeTrace
 rw [show ((0 : Int), (0 : Int)) = (foldN 0 (fun s i => w64 (s + P i i)) 0, ((0 : Nat) : Int)) from rfl, hx]
 rfl
theorem yio (hn : n ≤ 8) {i j : Nat} (hi : i < n) (hj : j < n) (S N : Nat → Nat → Int) (X : List (List Int)) (t : Int) (Y : List (List Int)) :
  loopO (impl_characteristic_b4 (mat n n A) (mat n n S) (X, t, (i : Int)) (Y, (j : Int))) (mat n n N, 0) = some (mat n n (fun a b => if a = i ∧ b = j then foldN n (fun s l => w64 (s + w64 (A i l * S l j))) (N i j) else N a b)) := by
 have hx := yia (body := impl_characteristic_b4 (mat n n A) (mat n n S) (X, t, (i : Int)) (Y, (j : Int))) n (fun l => (mat n n (fun a b => if a = i ∧ b = j then foldN l (fun s l => w64 (s + w64 (A i l * S l j))) (N i j) else N a b), (l : Int))) (mat n n (fun a b => if a = i ∧ b = j then foldN n (fun s l => w64 (s + w64 (A i l * S l j))) (N i j) else N a b)) (fun l hl => by
  simp only [impl_characteristic_b4, mat_len, ywa hi, ywa hl, yga hj, yga hl, Option.bind_some, w64_nat (show l < 9223372036854775807 by omega), show ((l : Int) < (n : Int)) from by omega, decide_true, if_true, Int.toNat_natCast, and_self]
  rw [yfg hi hj]
  congr 3
  refine mat_ext fun a b _ _ => ?_
  by_cases ha : a = i
  ·subst ha
   by_cases hb : b = j
   ·subst hb; simp [yra]
   ·simp [hb]
  ·simp [ha]) (by
  simp only [impl_characteristic_b4, mat_len, Int.lt_irrefl, decide_false, Bool.false_eq_true, if_false])
 have e : (fun a b => if a = i ∧ b = j then foldN 0 (fun s l => w64 (s + w64 (A i l * S l j))) (N i j) else N a b) = N := by
  funext a b
  by_cases h : a = i ∧ b = j
  ·obtain ⟨rfl, rfl⟩ := h; simp [ytc]
  ·rw [if_neg h]
 simp only [e] at hx
 exact hx
theorem yjo (hn : n ≤ 8) {i : Nat} (hi : i < n) (S N : Nat → Nat → Int) (X : List (List Int)) (t : Int) (h0 : ∀ b, N i b = 0) :
  loopO (impl_characteristic_b3 (mat n n A) (mat n n S) (X, t, (i : Int))) (mat n n N, 0) = some (mat n n (fun a b => if a = i then mulW n A S i b else N a b)) := by
 have hx := yia (body := impl_characteristic_b3 (mat n n A) (mat n n S) (X, t, (i : Int))) n (fun j => (mat n n (fun a b => if a = i ∧ b < j then mulW n A S i b else N a b), (j : Int))) (mat n n (fun a b => if a = i then mulW n A S i b else N a b)) (fun j hj => by
  simp only [impl_characteristic_b3, mat_len, yio hn hi hj, Option.bind_some, impl_characteristic_k7, w64_nat (show j < 9223372036854775807 by omega), show ((j : Int) < (n : Int)) from by omega, decide_true, if_true]
  congr 3
  refine mat_ext fun a b _ _ => ?_
  by_cases ha : a = i
  ·subst ha
   by_cases hb : b = j
   ·subst hb; simp [h0, mulW]
   ·by_cases h2 : b < j
    ·simp [hb, h2, show b < j + 1 by omega]
    ·simp [hb, h2, show ¬ b < j + 1 by omega]
  ·simp [ha]) (by
  simp only [impl_characteristic_b3, mat_len, Int.lt_irrefl, decide_false, Bool.false_eq_true, if_false]
  congr 2
  exact mat_ext fun a b _ hb => by simp [hb])
 simp only [Nat.not_lt_zero, and_false, if_false] at hx
 exact hx
theorem yko (hn : n ≤ 8) (S : Nat → Nat → Int) :
  loopO (impl_characteristic_b2 (mat n n A) (mat n n S)) (mat n n (fun _ _ => 0), 0, 0) = some (mat n n (mulW n A S), trW n (mulW n A S)) := by
 have hx := yia (body := impl_characteristic_b2 (mat n n A) (mat n n S)) n (fun i => (mat n n (fun a b => if a < i then mulW n A S a b else 0), foldN i (fun s i => w64 (s + mulW n A S i i)) 0, (i : Int))) (mat n n (mulW n A S), trW n (mulW n A S)) (fun i hi => by
  simp only [impl_characteristic_b2, mat_len, yjo hn hi S (fun a b => if a < i then mulW n A S a b else 0) _ _ (fun b => by simp), Option.bind_some, impl_characteristic_k6, impl_characteristic_k5, ywa hi, yga hi, w64_nat (show i < 9223372036854775807 by omega), show ((i : Int) < (n : Int)) from by omega, decide_true, if_true, yra]
  congr 3
  refine mat_ext fun a b _ _ => ?_
  by_cases ha : a = i
  ·subst ha; simp
  ·by_cases h2 : a < i
   ·simp [ha, h2, show a < i + 1 by omega]
   ·simp [ha, h2, show ¬ a < i + 1 by omega]) (by
  simp only [impl_characteristic_b2, mat_len, Int.lt_irrefl, decide_false, Bool.false_eq_true, if_false]
  congr 3
  exact mat_ext fun a b ha _ => by simp [ha])
 simp only [Nat.not_lt_zero, if_false] at hx
 exact hx
theorem yti {i : Nat} (hi : i < n) (M : Nat → Nat → Int) (c : Int) : (mat n n (fun a b => if a < i then addD M c a b else M a b)).set i ((tab n (fun b => if i < i then addD M c i b else M i b)).set i (w64 (M i i + c))) = mat n n (fun a b => if a < i + 1 then addD M c a b else M a b) := by
 rw [yfg hi hi]
 refine mat_ext fun a b _ _ => ?_
 by_cases ha : a = i
 ·subst ha
  by_cases hb : b = a
  ·subst hb; simp [addD]
  ·simp [hb, addD, Ne.symm hb]
 ·by_cases h2 : a < i
  ·simp [ha, h2, show a < i + 1 by omega]
  ·simp [ha, h2, show ¬ a < i + 1 by omega]
theorem ylo (hn : n ≤ 8) (M : Nat → Nat → Int) (cs : Nat → Int) {k : Nat} (hk : k + 1 ≤ n) :
  loopO (impl_characteristic_b5 (mat n n A) (tab (n + 1) cs, mat n n M, ((k + 1 : Nat) : Int))) (mat n n M, 0) = some (mat n n (addD M (cs (n - k)))) := by
 have e1 : w64 ((n : Int) - ((k + 1 : Nat) : Int)) = ((n - (k + 1) : Nat) : Int) := by rw [w64_id (by omega) (by omega)]; omega
 have e2 : w64 (((n - (k + 1) : Nat) : Int) + 1) = ((n - k : Nat) : Int) := by rw [w64_id (by omega) (by omega)]; omega
 have hx := yia (body := impl_characteristic_b5 (mat n n A) (tab (n + 1) cs, mat n n M, ((k + 1 : Nat) : Int))) n (fun i => (mat n n (fun a b => if a < i then addD M (cs (n - k)) a b else M a b), (i : Int))) (mat n n (addD M (cs (n - k)))) (fun i hi => by
  simp only [impl_characteristic_b5, mat_len, e1, e2, ywa hi, yga hi, yga (show n - k < n + 1 by omega), Option.bind_some, w64_nat (show i < 9223372036854775807 by omega), show ((i : Int) < (n : Int)) from by omega, decide_true, if_true, Int.toNat_natCast]
  congr 3
  have := yti hi M (cs (n - k))
  simp only [Nat.lt_irrefl, if_false] at this ⊢
  exact this) (by
  simp only [impl_characteristic_b5, mat_len, Int.lt_irrefl, decide_false, Bool.false_eq_true, if_false]
  congr 2
  exact mat_ext fun a b ha _ => by simp [ha])
 simp only [Nat.not_lt_zero, if_false] at hx
 exact hx
theorem ymo (hn : n ≤ 8) (P : Nat → Nat → Int) (cs : Nat → Int) {k : Nat} (hk : k + 1 ≤ n) (X : List (List Int)) (t : Int) :
  loopO (spec_zeCoefficients_b2 (mat n n A) (tab (n + 1) cs, X, ((k + 1 : Nat) : Int)) (mat n n P) t) (mat n n P, 0) =
   some (tab (n + 1) (fun i => if i = n - (k + 1) then w64 (Int.tdiv (w64 (0 - t)) ((k + 1 : Nat) : Int)) else cs i), mat n n (addD P (w64 (Int.tdiv (w64 (0 - t)) ((k + 1 : Nat) : Int))))) := by
 have e1 : w64 ((n : Int) - ((k + 1 : Nat) : Int)) = ((n - (k + 1) : Nat) : Int) := by rw [w64_id (by omega) (by omega)]; omega
 have hx := yia (body := spec_zeCoefficients_b2 (mat n n A) (tab (n + 1) cs, X, ((k + 1 : Nat) : Int)) (mat n n P) t) n (fun i => (mat n n (fun a b => if a < i then addD P (w64 (Int.tdiv (w64 (0 - t)) ((k + 1 : Nat) : Int))) a b else P a b), (i : Int))) (tab (n + 1) (fun i => if i = n - (k + 1) then w64 (Int.tdiv (w64 (0 - t)) ((k + 1 : Nat) : Int)) else cs i), mat n n (addD P (w64 (Int.tdiv (w64 (0 - t)) ((k + 1 : Nat) : Int))))) (fun i hi => by
  simp only [spec_zeCoefficients_b2, mat_len, e1, Int.toNat_natCast, tab_set (show n - (k + 1) < n + 1 by omega), ywa hi, yga hi, yga (show n - (k + 1) < n + 1 by omega), Option.bind_some, w64_nat (show i < 9223372036854775807 by omega), show ((i : Int) < (n : Int)) from by omega, decide_true, if_true]
  congr 3
  have := yti hi P (w64 (Int.tdiv (w64 (0 - t)) ((k + 1 : Nat) : Int)))
  simp only [Nat.lt_irrefl, if_false] at this ⊢
  exact this) (by
  simp only [spec_zeCoefficients_b2, mat_len, Int.lt_irrefl, decide_false, Bool.false_eq_true, if_false, e1, Int.toNat_natCast, tab_set (show n - (k + 1) < n + 1 by omega)]
  congr 3
  exact mat_ext fun a b ha _ => by simp [ha])
 simp only [Nat.not_lt_zero, if_false] at hx
 exact hx
def chN (n : Nat) (A : Nat → Nat → Int) : Nat → (Nat → Int) × (Nat → Nat → Int)
 | 0 => (fun i => if i = n then 1 else 0, fun _ _ => 0)
 | k + 1 => (fun i => if i = n - (k + 1) then w64 (Int.tdiv (w64 (0 - trW n (mulW n A (addD (chN n A k).2 ((chN n A k).1 (n - k)))))) ((k + 1 : Nat) : Int)) else (chN n A k).1 i, mulW n A (addD (chN n A k).2 ((chN n A k).1 (n - k))))
theorem chN_top : ∀ k, k ≤ n → (chN n A k).1 n = 1
 | 0, _ => by simp [chN]
 | k + 1, h => by
  have ih := chN_top k (by omega)
  simp only [chN]
  rw [if_neg (by omega)]
  exact ih
theorem yjd (h1 : 1 ≤ n) (hn : n ≤ 8) : impl_characteristic (mat n n A) = some (tab (n + 1) (chN n A n).1) := by
 have hx := yia (body := impl_characteristic_b1 (mat n n A)) n (fun k => (tab (n + 1) (chN n A k).1, mat n n (chN n A k).2, ((k + 1 : Nat) : Int))) (tab (n + 1) (chN n A n).1) (fun k hk => by
  have e1 : w64 ((n : Int) - ((k + 1 : Nat) : Int)) = ((n - (k + 1) : Nat) : Int) := by rw [w64_id (by omega) (by omega)]; omega
  simp only [impl_characteristic_b1, mat_len, show (((k + 1 : Nat) : Int) ≤ (n : Int)) from by omega, decide_true, if_true, ylo hn _ _ hk, Option.bind_some, impl_characteristic_k3, yva n (show n ≤ 1048576 by omega), yko hn, impl_characteristic_k4]
  rw [yda (by omega)]
  simp only [mat_len, e1, yga (show n - (k + 1) < n + 1 by omega), Option.bind_some, impl_characteristic_k2, Int.toNat_natCast, tab_set (show n - (k + 1) < n + 1 by omega), w64_nat (show k + 1 < 9223372036854775807 by omega)]
  rfl) (by
  simp only [impl_characteristic_b1, mat_len, show ¬ (((n + 1 : Nat) : Int) ≤ (n : Int)) from by omega, decide_false, Bool.false_eq_true, if_false])
 unfold impl_characteristic
 have e2 : w64 ((n : Int) + 1) = ((n + 1 : Nat) : Int) := by rw [w64_id (by omega) (by omega)]; omega
 rw [mat_len, e2, yda (by omega), Int.toNat_natCast, rep_tab, yga (show n < n + 1 by omega), Option.bind_some, yva n (by omega), Option.bind_some, Int.toNat_natCast, tab_set (show n < n + 1 by omega)]
 have hx' : loopO (impl_characteristic_b1 (mat n n A)) (tab (n + 1) (fun k => if k = n then 1 else 0), mat n n (fun _ _ => 0), 1) = some (tab (n + 1) (chN n A n).1) := hx
 rw [hx']
 rfl
theorem spec_id (hn : n ≤ 8) : loopO (spec_zeCoefficients_b3 (mat n n A)) ([], 0) = some (mat n n fun i j => if i = j then 1 else 0) := by
 have hx := yia (body := spec_zeCoefficients_b3 (mat n n A)) n (fun i => (tab i (fun i => tab n (fun j => if i = j then (1 : Int) else 0)), (i : Int))) (mat n n fun i j => if i = j then 1 else 0) (fun i hi => by
  simp only [spec_zeCoefficients_b3, mat_len, show ((i : Int) < (n : Int)) from by omega, decide_true, if_true]
  rw [yda (by omega), yda (by simp [tab_len]; omega), Int.toNat_natCast, rep_tab]
  have e0 : tab i (fun i => tab n (fun j => if i = j then (1 : Int) else 0)) ++ [tab n fun _ => (0 : Int)] = tab (i + 1) (fun a => if a < i then tab n (fun j => if a = j then (1 : Int) else 0) else tab n fun _ => 0) := by
   have := yac i (fun a => if a < i then tab n (fun j => if a = j then (1 : Int) else 0) else tab n fun _ => 0)
   simp only [Nat.lt_irrefl, if_false] at this
   rw [← this]
   congr 1
   exact tab_ext fun a ha => by simp [ha]
  rw [e0, yga (show i < i + 1 by omega), Option.bind_some]
  simp only [Nat.lt_irrefl, if_false, yga hi, Option.bind_some, Int.toNat_natCast, w64_nat (show i < 9223372036854775807 by omega), tab_set hi, tab_set (show i < i + 1 by omega)]
  congr 3
  refine tab_ext fun a ha => ?_
  by_cases hai : a = i
  ·subst hai
   simp only [if_true]
   exact tab_ext fun b _ => by
    by_cases hb : b = a
    ·subst hb; simp
    ·simp [hb, Ne.symm hb]
  ·simp [hai, show a < i by omega]) (by
  simp only [spec_zeCoefficients_b3, mat_len, Int.lt_irrefl, decide_false, Bool.false_eq_true, if_false]
  rfl)
 exact hx
theorem ykd (h1 : 1 ≤ n) (hn : n ≤ 8) : spec_zeCoefficients (mat n n A) = some (tab (n + 1) (chN n A n).1) := by
 have hx := yia (body := spec_zeCoefficients_b1 (mat n n A)) n (fun k => (tab (n + 1) (chN n A k).1, mat n n (addD (chN n A k).2 ((chN n A k).1 (n - k))), ((k + 1 : Nat) : Int))) (tab (n + 1) (chN n A n).1) (fun k hk => by
  have e1 : w64 ((n : Int) - ((k + 1 : Nat) : Int)) = ((n - (k + 1) : Nat) : Int) := by rw [w64_id (by omega) (by omega)]; omega
  simp only [spec_zeCoefficients_b1, mat_len, show (((k + 1 : Nat) : Int) ≤ (n : Int)) from by omega, decide_true, if_true, yof hn, yed hn, Option.bind_some]
  rw [yda (by omega), e1, yga (show n - (k + 1) < n + 1 by omega), Option.bind_some, ymo hn _ _ hk, Option.bind_some]
  simp only [spec_zeCoefficients_k3, w64_nat (show k + 1 < 9223372036854775807 by omega), chN, if_true]) (by
  simp only [spec_zeCoefficients_b1, mat_len, show ¬ (((n + 1 : Nat) : Int) ≤ (n : Int)) from by omega, decide_false, Bool.false_eq_true, if_false])
 unfold spec_zeCoefficients
 have e2 : w64 ((n : Int) + 1) = ((n + 1 : Nat) : Int) := by rw [w64_id (by omega) (by omega)]; omega
 rw [mat_len, e2, yda (by omega), Int.toNat_natCast, rep_tab, yga (show n < n + 1 by omega), Option.bind_some, spec_id hn, Option.bind_some]
 unfold spec_zeCoefficients_k1
 rw [mat_len, e2, Int.toNat_natCast, Int.toNat_natCast, rep_tab, tab_set (show n < n + 1 by omega)]
 have e3 : (mat n n fun i j => if i = j then (1 : Int) else 0) = mat n n (addD (chN n A 0).2 ((chN n A 0).1 (n - 0))) := mat_ext fun a b _ _ => by
  simp only [chN, addD, Nat.sub_zero, if_true]
  by_cases h : a = b
  ·subst h; simp; rfl
  ·simp [h]
 rw [e3]
 have hx' : loopO (spec_zeCoefficients_b1 (mat n n A)) (tab (n + 1) (fun k => if k = n then 1 else 0), mat n n (addD (chN n A 0).2 ((chN n A 0).1 (n - 0))), 1) = some (tab (n + 1) (chN n A n).1) := hx
 rw [hx']
 rfl
end
def isPoly (c : List Int) : Bool := decide ((c.length : Int) ≤ 9) && (c.all (inB (-1000000) 1000000))
theorem yom {n : Nat} {c : Nat → Int} (hn : n ≤ 8) (ht : c n = 1) : spec_poIf (tab (n + 1) c) = some (if isPoly (tab (n + 1) c) = true then (tab (n + 1) c, true) else ([], false)) ∧ impl_polynomial (tab (n + 1) c) = some (if isPoly (tab (n + 1) c) = true then (tab (n + 1) c, true) else ([], false)) := by
 have e1 : w64 (((n + 1 : Nat) : Int) - 1) = (n : Int) := by rw [w64_id (by omega) (by omega)]; omega
 have hlast : idxO (tab (n + 1) c) (n : Int) = some 1 := by rw [yga (by omega), ht]
 have hlen : (tab (n + 1) c).length ≤ 4611686018427387904 := by rw [tab_len]; omega
 have l1 : loopO spec_poTrim_b1 (tab (n + 1) c) = some (tab (n + 1) c) := by
  rw [ysa]
  simp only [spec_poTrim_b1, tab_len, show (((n + 1 : Nat) : Int) > 0) from by omega, decide_true, if_true, e1, hlast, Option.bind_some]
  rfl
 have l2 : loopO impl_polynomial_b1 (tab (n + 1) c) = some (tab (n + 1) c) := by
  rw [ysa]
  simp only [impl_polynomial_b1, tab_len, show (((n + 1 : Nat) : Int) > 0) from by omega, decide_true, if_true, e1, hlast, Option.bind_some]
  rfl
 have h9 : ¬ (((n + 1 : Nat) : Int) > 9) := by omega
 have h9' : (((n + 1 : Nat) : Int) ≤ 9) := by omega
 have h0 : (((n + 1 : Nat) : Int) == 0) = false := by simp; omega
 constructor
 ·unfold spec_poIf spec_poTrim
  rw [l1]
  simp only [Option.bind_some, spec_poTrim_k1, spec_l1Own]
  rw [yda (by rw [tab_len]; omega)]
  simp only [Option.bind_some, spec_poGood, tab_len, h9, decide_false, Bool.false_eq_true, if_false, ylb _ _ _ hlen, h0, e1, hlast, isPoly, h9', decide_true, Bool.true_and]
  cases (tab (n + 1) c).all (inB (-1000000) 1000000) <;> rfl
 ·unfold impl_polynomial
  rw [l2]
  have hc := yfa (tab (n + 1) c) (fun x0 => impl_isPolynomial_1 x0) (fun x => !inB (-1000000) 1000000 x) (fun x => by simp [impl_isPolynomial_1, yha]) hlen
  have hcl : slices_Clone_Lint_int (tab (n + 1) c) = some (tab (n + 1) c) := by
   unfold slices_Clone_Lint_int
   rw [yda (by rw [tab_len]; omega)]
  simp only [Option.bind_some, impl_polynomial_k1, impl_isPolynomial, tab_len, h9', decide_true, if_true, hc, List.any_eq_not_all_not, Bool.not_not, h0, e1, hlast, hcl, isPoly, Bool.true_and]
  cases (tab (n + 1) c).all (inB (-1000000) 1000000) <;> rfl
end Go.PV

/-
 Plain laws: the coefficients of a characteristic polynomial, without words.
 Conditions: none.
-/
set_option linter.all false
namespace Go.PV
def mmN (n : Nat) (A M : Nat → Nat → Int) (i j : Nat) : Int := sm n fun l => A i l * M l j
def addI (M : Nat → Nat → Int) (c : Int) (i j : Nat) : Int := M i j + if i = j then c else 0
def faM (n : Nat) (A : Nat → Nat → Int) : Nat → Int × (Nat → Nat → Int)
 | 0 => (1, fun _ _ => 0)
 | k + 1 => (Int.tdiv (0 - tr n (mmN n A (addI (faM n A k).2 (faM n A k).1))) ((k + 1 : Nat) : Int), mmN n A (addI (faM n A k).2 (faM n A k).1))
def btk : Nat → Nat
 | 0 => 0
 | 1 => 9
 | k + 2 => 72 * (btk (k + 1) + 8 * btk (k + 1) / (k + 1))
theorem btk_ok : ∀ k, k ≤ 8 → 8 * btk k ≤ 9000000000000000000 ∧ 72 * (btk k + 8 * btk k / k) ≤ 9000000000000000000 ∨ k = 8 ∧ 8 * btk k ≤ 9000000000000000000 := by decide
theorem btk_le : ∀ k, k ≤ 8 → 8 * btk k ≤ 9000000000000000000 := fun k hk => by
 rcases btk_ok k hk with h | h
 ·exact h.1
 ·exact h.2
theorem yno {k : Nat} (hk : k < 8) : 72 * (btk k + 8 * btk k / k) ≤ 9000000000000000000 := by
 rcases btk_ok k (by omega) with h | h
 ·exact h.2
 ·omega
section
variable {n : Nat} {A : Nat → Nat → Int}
theorem mulW_eq (hn : n ≤ 8) (hA : ∀ i j, i < n → j < n → 0 ≤ A i j ∧ A i j ≤ 9) {M : Nat → Nat → Int} {B : Int} (hB : 72 * B ≤ 9000000000000000000) (hM : ∀ i j, i < n → j < n → -B ≤ M i j ∧ M i j ≤ B) {i j : Nat} (hi : i < n) (hj : j < n) :
  mulW n A M i j = mmN n A M i j ∧ -(72 * B) ≤ mmN n A M i j ∧ mmN n A M i j ≤ 72 * B := by
 have hB0 : 0 ≤ B := by have := hM i j hi hj; omega
 have term : ∀ l, l < n → -(9 * B) ≤ A i l * M l j ∧ A i l * M l j ≤ 9 * B := fun l hl => by
  obtain ⟨a0, a9⟩ := hA i l hi hl
  obtain ⟨m0, m1⟩ := hM l j hl hj
  have h1 := Int.mul_le_mul_of_nonneg_left m1 a0
  have h2 := Int.mul_le_mul_of_nonneg_left m0 a0
  have h3 := Int.mul_le_mul_of_nonneg_right a9 hB0
  have h4 : A i l * -B = -(A i l * B) := by rw [Int.mul_neg]
  omega
 have key : ∀ k, k ≤ n → foldN k (fun s l => w64 (s + w64 (A i l * M l j))) 0 = sm k (fun l => A i l * M l j) ∧ -(9 * B * k) ≤ sm k (fun l => A i l * M l j) ∧ sm k (fun l => A i l * M l j) ≤ 9 * B * k := by
  intro k
  induction k with
  | zero => intro _; simp [ytc, sm_zero]
  | succ k ih =>
   intro hk
   obtain ⟨e, b1, b2⟩ := ih (by omega)
   obtain ⟨t1, t2⟩ := term k (by omega)
   have hk8 : 9 * B * ((k + 1 : Nat) : Int) ≤ 72 * B := by
    have : 9 * B * ((k + 1 : Nat) : Int) ≤ 9 * B * 8 := Int.mul_le_mul_of_nonneg_left (by omega) (by omega)
    omega
   have e1 : 9 * B * ((k + 1 : Nat) : Int) = 9 * B * (k : Int) + 9 * B := by rw [show ((k + 1 : Nat) : Int) = (k : Int) + 1 by omega, Int.mul_add, Int.mul_one]
   rw [yra, sm_succ, e]
   rw [w64_id (n := A i k * M k j) (by omega) (by omega), w64_id (by omega) (by omega)]
   exact ⟨rfl, by omega, by omega⟩
 obtain ⟨e, b1, b2⟩ := key n (Nat.le_refl n)
 have h72 : 9 * B * (n : Int) ≤ 72 * B := by
  have : 9 * B * (n : Int) ≤ 9 * B * 8 := Int.mul_le_mul_of_nonneg_left (by omega) (by omega)
  omega
 exact ⟨e, by unfold mmN; omega, by unfold mmN; omega⟩
theorem trW_eq (hn : n ≤ 8) {M : Nat → Nat → Int} {B : Int} (hB : 8 * B ≤ 9000000000000000000) (hM : ∀ i j, i < n → j < n → -B ≤ M i j ∧ M i j ≤ B) (h1 : 1 ≤ n) : trW n M = tr n M ∧ -(8 * B) ≤ tr n M ∧ tr n M ≤ 8 * B := by
 have hB0 : 0 ≤ B := by have := hM 0 0 h1 h1; omega
 have key : ∀ k, k ≤ n → foldN k (fun s i => w64 (s + M i i)) 0 = sm k (fun i => M i i) ∧ -(B * k) ≤ sm k (fun i => M i i) ∧ sm k (fun i => M i i) ≤ B * k := by
  intro k
  induction k with
  | zero => intro _; simp [ytc, sm_zero]
  | succ k ih =>
   intro hk
   obtain ⟨e, b1, b2⟩ := ih (by omega)
   obtain ⟨t1, t2⟩ := hM k k (by omega) (by omega)
   have hk8 : B * ((k + 1 : Nat) : Int) ≤ 8 * B := by
    have : B * ((k + 1 : Nat) : Int) ≤ B * 8 := Int.mul_le_mul_of_nonneg_left (by omega) hB0
    omega
   have e1 : B * ((k + 1 : Nat) : Int) = B * (k : Int) + B := by rw [show ((k + 1 : Nat) : Int) = (k : Int) + 1 by omega, Int.mul_add, Int.mul_one]
   rw [yra, sm_succ, e, w64_id (by omega) (by omega)]
   exact ⟨rfl, by omega, by omega⟩
 obtain ⟨e, b1, b2⟩ := key n (Nat.le_refl n)
 have h72 : B * (n : Int) ≤ 8 * B := by
  have : B * (n : Int) ≤ B * 8 := Int.mul_le_mul_of_nonneg_left (by omega) hB0
  omega
 exact ⟨e, by unfold tr; omega, by unfold tr; omega⟩
theorem tdiv_bd {x : Int} {B k : Nat} (h0 : -(B : Int) ≤ x) (h1 : x ≤ B) (hk : 1 ≤ k) : -((B / k : Nat) : Int) ≤ Int.tdiv x (k : Int) ∧ Int.tdiv x (k : Int) ≤ ((B / k : Nat) : Int) := by
 have h : (Int.tdiv x (k : Int)).natAbs = x.natAbs / k := by rw [Int.natAbs_tdiv]; rfl
 have h2 : x.natAbs / k ≤ B / k := Nat.div_le_div_right (by omega)
 omega
theorem mmN_ext {M M' : Nat → Nat → Int} {i j : Nat} (h : ∀ l, l < n → M l j = M' l j) : mmN n A M i j = mmN n A M' i j := sm_ext fun l hl => by rw [h l hl]
theorem yoo {M M' : Nat → Nat → Int} {i j : Nat} (h : ∀ l, l < n → M l j = M' l j) : mulW n A M i j = mulW n A M' i j := ygg fun b l hl => by rw [h l hl]
theorem chN_fa (h1 : 1 ≤ n) (hn : n ≤ 8) (hA : ∀ i j, i < n → j < n → 0 ≤ A i j ∧ A i j ≤ 9) : ∀ k, k ≤ n →
  (∀ i j, i < n → j < n → (chN n A k).2 i j = (faM n A k).2 i j ∧ -(btk k : Int) ≤ (faM n A k).2 i j ∧ (faM n A k).2 i j ≤ btk k) ∧ (∀ j, j ≤ k → (chN n A k).1 (n - j) = (faM n A j).1) ∧ (1 ≤ k → -((8 * btk k / k : Nat) : Int) ≤ (faM n A k).1 ∧ (faM n A k).1 ≤ ((8 * btk k / k : Nat) : Int)) := by
 intro k
 induction k with
 | zero => exact fun _ => ⟨fun i j _ _ => by simp [chN, faM, btk], fun j hj => by
   obtain rfl : j = 0 := by omega
   simp [chN, faM], fun h => by omega⟩
 | succ k ih =>
  intro hk
  obtain ⟨ih1, ih2, ih3⟩ := ih (by omega)
  have hc : (chN n A k).1 (n - k) = (faM n A k).1 := ih2 k (Nat.le_refl k)
  -- the table to be multiplied
  have hH : ∃ B : Nat, 72 * (B : Int) ≤ 9000000000000000000 ∧ (1 ≤ k → 72 * B = btk (k + 1)) ∧ (∀ i j, i < n → j < n → -(B : Int) ≤ addI (faM n A k).2 (faM n A k).1 i j ∧ addI (faM n A k).2 (faM n A k).1 i j ≤ B) ∧ ∀ i j, i < n → j < n → addD (chN n A k).2 ((chN n A k).1 (n - k)) i j = addI (faM n A k).2 (faM n A k).1 i j := by
   by_cases hk0 : k = 0
   ·subst hk0
    refine ⟨1, by decide, fun h => by omega, fun i j _ _ => ?_, fun i j _ _ => ?_⟩
    ·simp only [addI, faM]; split <;> omega
    ·simp only [addD, addI, chN, faM, Nat.sub_zero, if_true]
     split <;> rfl
   ·obtain ⟨c1, c2⟩ := ih3 (by omega)
    have hb := yno (k := k) (by omega)
    have hadd : ∀ i j, i < n → j < n → -((btk k + 8 * btk k / k : Nat) : Int) ≤ addI (faM n A k).2 (faM n A k).1 i j ∧ addI (faM n A k).2 (faM n A k).1 i j ≤ ((btk k + 8 * btk k / k : Nat) : Int) := fun i j hi hj => by
     obtain ⟨_, b1, b2⟩ := ih1 i j hi hj
     simp only [addI]
     split <;> omega
    refine ⟨btk k + 8 * btk k / k, by omega, fun _ => ?_, hadd, fun i j hi hj => ?_⟩
    ·obtain ⟨m, rfl⟩ : ∃ m, k = m + 1 := ⟨k - 1, by omega⟩
     rfl
    ·obtain ⟨e, b1, b2⟩ := ih1 i j hi hj
     have := hadd i j hi hj
     simp only [addD, addI, hc, e] at this ⊢
     split
     ·rename_i hij
      rw [if_pos hij] at this
      rw [w64_id (by omega) (by omega)]
     ·omega
  obtain ⟨B, hB, hBk, hHb, hHe⟩ := hH
  have hmul : ∀ i j, i < n → j < n → (chN n A (k + 1)).2 i j = (faM n A (k + 1)).2 i j ∧ -(btk (k + 1) : Int) ≤ (faM n A (k + 1)).2 i j ∧ (faM n A (k + 1)).2 i j ≤ btk (k + 1) := by
   intro i j hi hj
   have e1 : (chN n A (k + 1)).2 i j = mulW n A (addI (faM n A k).2 (faM n A k).1) i j := by
    show mulW n A (addD (chN n A k).2 ((chN n A k).1 (n - k))) i j = _
    exact yoo fun l hl => hHe l j hl hj
   obtain ⟨e2, b1, b2⟩ := mulW_eq hn hA hB hHb hi hj
   have e3 : (faM n A (k + 1)).2 i j = mmN n A (addI (faM n A k).2 (faM n A k).1) i j := rfl
   refine ⟨by rw [e1, e2, e3], ?_⟩
   by_cases hk0 : k = 0
   ·subst hk0
    have : (faM n A 1).2 i j = A i j := by
     show mmN n A (addI (fun _ _ => 0) 1) i j = A i j
     unfold mmN addI
     rw [sm_ext (g := fun l => if l = j then A i l else 0) fun l _ => by by_cases h : l = j <;> simp [h], ydb hj]
    rw [this]
    have := hA i j hi hj
    show -((9 : Nat) : Int) ≤ _ ∧ _ ≤ ((9 : Nat) : Int)
    omega
   ·have := hBk (by omega)
    rw [e3, ← this]
    omega
  have htr := trW_eq hn (M := (faM n A (k + 1)).2) (B := (btk (k + 1) : Int)) (by have := btk_le (k + 1) (by omega); omega) (fun i j hi hj => (hmul i j hi hj).2) h1
  have htw : trW n (mulW n A (addD (chN n A k).2 ((chN n A k).1 (n - k)))) = trW n (faM n A (k + 1)).2 := ygg fun b i hi => by
   have := (hmul i i hi hi).1
   have e : (chN n A (k + 1)).2 i i = mulW n A (addD (chN n A k).2 ((chN n A k).1 (n - k))) i i := rfl
   rw [← e, this]
  have hb8 := btk_le (k + 1) (by omega)
  have hd := tdiv_bd (x := 0 - tr n (faM n A (k + 1)).2) (B := 8 * btk (k + 1)) (k := k + 1) (by omega) (by omega) (by omega)
  have hq : 8 * btk (k + 1) / (k + 1) ≤ 8 * btk (k + 1) := Nat.div_le_self _ _
  have hnew : (chN n A (k + 1)).1 (n - (k + 1)) = (faM n A (k + 1)).1 := by
   show (if n - (k + 1) = n - (k + 1) then w64 (Int.tdiv (w64 (0 - trW n (mulW n A (addD (chN n A k).2 ((chN n A k).1 (n - k)))))) ((k + 1 : Nat) : Int)) else _) = Int.tdiv (0 - tr n (faM n A (k + 1)).2) ((k + 1 : Nat) : Int)
   rw [if_pos rfl, htw, htr.1, w64_id (n := 0 - tr n (faM n A (k + 1)).2) (by omega) (by omega), w64_id (by omega) (by omega)]
  refine ⟨hmul, fun j hj => ?_, fun _ => hd⟩
  by_cases hjk : j = k + 1
  ·subst hjk; exact hnew
  ·show (if n - j = n - (k + 1) then _ else (chN n A k).1 (n - j)) = _
   rw [if_neg (by omega)]
   exact ih2 j (by omega)
theorem ch_fa (h1 : 1 ≤ n) (hn : n ≤ 8) (hA : ∀ i j, i < n → j < n → 0 ≤ A i j ∧ A i j ≤ 9) : tab (n + 1) (chN n A n).1 = tab (n + 1) fun i => (faM n A (n - i)).1 := tab_ext fun i hi => by
 have := (chN_fa h1 hn hA n (Nat.le_refl n)).2.1 (n - i) (by omega)
 rw [show n - (n - i) = i by omega] at this
 exact this
end
end Go.PV

/-
 Plain laws: the characteristic polynomial of a companion table, and of a table without closed walks.
 Conditions: none.
-/
set_option linter.all false
namespace Go.PV
def cmpM (n : Nat) (p : Nat → Int) (i j : Nat) : Int := if i + 1 < n then (if j = i + 1 then 1 else 0) else -p j
def hcM (n : Nat) (p : Nat → Int) (k i j : Nat) : Int :=
 if i + k < n then (if i ≤ j ∧ j ≤ i + k then p (n - k + (j - i)) else 0) else (if i + k - n ≤ j ∧ j < i then -p (n - k - (i - j)) else 0)
section
variable {n : Nat} {p : Nat → Int}
end
end Go.PV

/-
 Plain laws: greatest divisors, fractions, floors, fractions reduced.
 Conditions: none.
-/
namespace Go.PV
def isRat (r : Int × Int) : Bool := inB 1 1000000000 r.2 && (inB (-1000000000) 1000000000 r.1 && (Int.gcd r.1 r.2 : Int) == 1)
def lowest (n d : Int) : (Int × Int) × Bool :=
 let g := if d < 0 then -(Int.gcd n d : Int) else Int.gcd n d
 if isRat (Int.tdiv n g, Int.tdiv d g) then ((Int.tdiv n g, Int.tdiv d g), true) else ((0, 0), false)
def near (r : Int × Int) : Bool := isRat r && inB (-1000 * r.2) (1000 * r.2) r.1
def cmp (a b : Int × Int) : Int := if a.1 * b.2 < b.1 * a.2 then -1 else if a.1 * b.2 > b.1 * a.2 then 1 else 0
def tame (r : Int × Int) : Prop := -1000000000 ≤ r.1 ∧ r.1 ≤ 1000000000 ∧ -1000000000 ≤ r.2 ∧ r.2 ≤ 1000000000
def less (a b : Int × Int) : Bool := decide (a.1 * b.2 < b.1 * a.2)
def floorDiv (n d : Int) : Int := if Int.tmod n d < 0 then Int.tdiv n d - 1 else Int.tdiv n d
def reduceRat (r : Int × Int) : (Int × Int) × Bool := if near r then ((r.1 - floorDiv r.1 r.2 * r.2, r.2), true) else ((0, 0), false)
end Go.PV

set_option linter.all false
namespace Go.PV
abbrev Pt := (Int × Int) × (Int × Int)
def zP : Pt := ((0, 0), (0, 0))
def isUnit (r : Int × Int) : Bool := isRat r && inB 0 r.2 r.1
def coord (r : Int × Int) : Bool := isUnit r && decide (r.2 ≤ 100)
def goodPt (p : Pt) : Bool := coord p.1 && (isRat p.2 && (decide (p.2.2 ≤ 100) && inB (-5 * p.2.2) (5 * p.2.2) p.2.1))
def stepPt (a b : Pt) : Bool := less a.1 b.1 && !less b.2 a.2
def steps (xs : List Pt) (n : Nat) : Prop := ∀ i a b, 0 < i → i < n → xs[i - 1]? = some a → xs[i]? = some b → stepPt a b = true
def ends (xs : List Pt) : Bool := match xs[0]?, xs[xs.length - 1]? with
 | some a, some b => (a.1 == (0, 1)) && ((b.1 == (1, 1)) && (b.2 == (a.2.1 + a.2.2, a.2.2)))
 | _, _ => false
open Classical in
noncomputable def isLift (xs : List Pt) : Bool := inB 2 12 xs.length && (decide (xs.all goodPt = true ∧ steps xs xs.length) && ends xs)
end Go.PV

set_option linter.all false
namespace Go.PV
def dotN (G : Nat → Int) (v : Nat → Int) (n : Nat) : Int := foldN n (fun s j => s + G j * v j) 0
end Go.PV

set_option linter.all false
namespace Go.PV
def minStep (a b : Int × Int) : Int × Int := if less b a = true then b else a
def maxStep (a b : Int × Int) : Int × Int := if less a b = true then b else a
def mnN (r : Nat → Int × Int) (i : Nat) : Int × Int := foldN i (fun s j => minStep s (r j)) (r 0)
def mxN (r : Nat → Int × Int) (i : Nat) : Int × Int := foldN i (fun s j => maxStep s (r j)) (r 0)
def ratN (G : Nat → Nat → Int) (v : Nat → Int) (n i : Nat) : Int × Int := (lowest (dotN (G i) v n) (v i)).1
section
variable {n : Nat} {G : Nat → Nat → Int} {v : Nat → Int}
end
def asked (g : List (List Int)) (u : List Int) : Bool := isGraph g && (isVec u && ((u.length : Int) == (g.length : Int)))
end Go.PV

/-
 Plain laws: lists turned round, ones.
 Conditions: none.
-/
set_option linter.all false
namespace Go.PV
section
variable {α : Type} [Inhabited α]
def revSt (xs : List α) (k : Nat) : List α := tab xs.length fun p => if p < k ∨ xs.length ≤ p + k then xs.getD (xs.length - 1 - p) default else xs.getD p default
theorem getD_lt {xs : List α} {i : Nat} (h : i < xs.length) : xs[i]? = some (xs.getD i default) := by simp [h]
theorem ypo (xs : List α) (hl : xs.length ≤ 4611686018427387904) (body : (List α × Int × Int) → Option ((List α × Int × Int) ⊕ List α))
  (hb : ∀ x, body x = if (decide (x.2.1 < x.2.2)) = true then (idxO x.1 x.2.1).bind fun v4 => (idxO x.1 x.2.2).bind fun v5 => (guardO (x.2.1 ≠ x.2.2)).bind fun u6 =>
   some (.inl (((x.1.set (Int.toNat x.2.1) v5).set (Int.toNat x.2.2) v4), (w64 (x.2.1 + 1)), (w64 (x.2.2 - 1)))) else some (.inr x.1)) :
  loopO body (xs, 0, w64 ((xs.length : Int) - 1)) = some xs.reverse := by
 have hx := yia (body := body) (xs.length / 2) (fun k => (revSt xs k, (k : Int), ((xs.length : Int) - 1 - k))) xs.reverse (fun k hk => by
  have h1 : k < xs.length := by omega
  have h2 : xs.length - 1 - k < xs.length := by omega
  have e1 : ((xs.length : Int) - 1 - k) = ((xs.length - 1 - k : Nat) : Int) := by omega
  rw [hb]
  simp only [e1, show ((k : Int) < ((xs.length - 1 - k : Nat) : Int)) from by omega, decide_true, if_true]
  rw [revSt, yga h1, yga h2, Option.bind_some, Option.bind_some, yda (by omega)]
  have e3 : ¬ (k < k ∨ xs.length ≤ k + k) := by omega
  have e4 : ¬ (xs.length - 1 - k < k ∨ xs.length ≤ xs.length - 1 - k + k) := by omega
  rw [if_neg e3, if_neg e4, w64_nat (show k < 9223372036854775807 by omega), w64_id (by omega) (by omega), Int.toNat_natCast, Int.toNat_natCast, tab_set h1, tab_set h2]
  congr 2
  refine Prod.ext ?_ (Prod.ext rfl (by show ((xs.length - 1 - k : Nat) : Int) - 1 = (xs.length : Int) - 1 - ((k + 1 : Nat) : Int); omega))
  refine tab_ext fun p hp => ?_
  by_cases c1 : p = xs.length - 1 - k
  ·subst c1
   rw [if_pos rfl, if_pos (by omega), show xs.length - 1 - (xs.length - 1 - k) = k from by omega]
  ·rw [if_neg c1]
   by_cases c2 : p = k
   ·subst c2; rw [if_pos rfl, if_pos (by omega)]
   ·rw [if_neg c2]
    by_cases c3 : p < k ∨ xs.length ≤ p + k
    ·rw [if_pos c3, if_pos (by omega)]
    ·rw [if_neg c3, if_neg (by omega)]) (by
  rw [hb]
  have : ¬ (((xs.length / 2 : Nat) : Int) < ((xs.length : Int) - 1 - (xs.length / 2 : Nat))) := by omega
  simp only [this, decide_false, Bool.false_eq_true, if_false]
  congr 2
  apply List.ext_getElem?
  intro p
  by_cases hp : p < xs.length
  ·rw [revSt, tab_get hp, List.getElem?_reverse hp, getD_lt (by omega)]
   congr 1
   split
   ·rfl
   ·congr 1; omega
  ·rw [List.getElem?_eq_none (by rw [revSt, tab_len]; omega), List.getElem?_eq_none (by simp; omega)])
 have e0 : revSt xs 0 = xs := by
  apply List.ext_getElem?
  intro p
  by_cases hp : p < xs.length
  ·rw [revSt, tab_get hp, if_neg (by omega), getD_lt hp]
  ·rw [List.getElem?_eq_none (by rw [revSt, tab_len]; omega), List.getElem?_eq_none (by omega)]
 simp only [e0] at hx
 rw [w64_id (by omega) (by omega)]
 have : ((xs.length : Int) - 1) = (xs.length : Int) - 1 - ((0 : Nat) : Int) := by omega
 rw [this]
 exact hx
end
theorem ydd (xs : List Int) (hl : xs.length ≤ 4611686018427387904) : slices_Reverse_Lint_int xs = some xs.reverse := by
 unfold slices_Reverse_Lint_int
 rw [ypo xs hl slices_Reverse_Lint_int_b1 fun x => rfl]
 rfl
def trimZ (c : List Int) : List Int := (c.reverse.dropWhile (· == 0)).reverse
theorem ypm (c : List Int) (x : Int) : trimZ (c ++ [x]) = if x = 0 then trimZ c else c ++ [x] := by
 unfold trimZ
 rw [List.reverse_append]
 simp only [List.reverse_cons, List.reverse_nil, List.nil_append, List.cons_append, List.dropWhile_cons]
 by_cases h : x = 0
 ·simp [h]
 ·simp [h]
theorem yqm (c : List Int) : (trimZ c).length ≤ c.length := by
 unfold trimZ
 have := (List.dropWhile_sublist (· == 0) (l := c.reverse)).length_le
 simpa using this
theorem yjg {body : List Int → Option (List Int ⊕ List Int)} (hb : ∀ x, body x = ((if (decide ((x.length : Int) > 0)) = true then (idxO x (w64 ((x.length : Int) - 1))).bind fun v5 => some (v5 == 0) else some false).bind fun w6 =>
   if w6 = true then (guardO (0 ≤ (w64 ((x.length : Int) - 1)) ∧ (w64 ((x.length : Int) - 1)) ≤ (x.length : Int))).bind fun u8 => some (.inl (x.take (Int.toNat (w64 ((x.length : Int) - 1))))) else some (.inr x))) : ∀ (k : Nat) (c : List Int), c.length = k → k ≤ 1048576 → loopO body c = some (trimZ c)
 | 0, c, h, _ => by
  have : c = [] := List.eq_nil_of_length_eq_zero h
  subst this
  rw [ysa, hb]; rfl
 | k + 1, c, h, hk => by
  rcases snoc_cases' c with rfl | ⟨d, x, rfl⟩
  ·simp at h
  ·have hd : d.length = k := by simpa using h
   rw [ysa, hb]
   have e1 : w64 (((d ++ [x]).length : Int) - 1) = (d.length : Int) := by rw [List.length_append, List.length_singleton, w64_id (by omega) (by omega)]; omega
   have e2 : idxO (d ++ [x]) (d.length : Int) = some x := by rw [yzb]; simp
   simp only [e1, e2, show (((d ++ [x]).length : Int) > 0) from by rw [List.length_append, List.length_singleton]; omega, decide_true, if_true, Option.bind_some, ypm]
   by_cases hx : x = 0
   ·subst hx
    simp only [beq_self_eq_true, if_true]
    rw [yda (by rw [List.length_append, List.length_singleton]; omega), Int.toNat_natCast]
    simp only [List.take_left]
    exact yjg hb k d hd (by omega)
   ·have : (x == 0) = false := by simpa using hx
    simp only [this, Bool.false_eq_true, if_false, hx]
where
 snoc_cases' (l : List Int) : l = [] ∨ ∃ d x, l = d ++ [x] := by
  rcases List.eq_nil_or_concat l with h | ⟨d, x, h⟩
  ·exact .inl h
  ·exact .inr ⟨d, x, by simpa using h⟩
theorem yvk (c : List Int) (h : trimZ c ≠ []) : ∃ x, (trimZ c).getLast? = some x ∧ x ≠ 0 := by
 unfold trimZ at h ⊢
 rw [List.getLast?_reverse]
 cases hd : c.reverse.dropWhile (· == 0) with
 | nil => rw [hd] at h; simp at h
 | cons x l =>
  refine ⟨x, rfl, ?_⟩
  have := List.head_dropWhile_not (· == (0 : Int)) (l := c.reverse) (by rw [hd]; simp)
  simp only [hd, List.head_cons] at this
  simpa using this
theorem ykg (xs : List Int) (hl : xs.length ≤ 1048576) : spec_zeBack xs = some xs.reverse := by
 have hx := yia (body := spec_zeBack_b1 xs) xs.length (fun k => (tab k (fun p => xs.getD (xs.length - 1 - p) default), ((xs.length : Int) - 1 - k))) xs.reverse (fun k hk => by
  have e1 : ((xs.length : Int) - 1 - k) = ((xs.length - 1 - k : Nat) : Int) := by omega
  have e2 : idxO xs (((xs.length - 1 - k : Nat)) : Int) = some (xs.getD (xs.length - 1 - k) default) := by rw [yzb, getD_lt (by omega)]
  simp only [spec_zeBack_b1, e1, show (((xs.length - 1 - k : Nat) : Int) ≥ 0) from by omega, decide_true, if_true, e2, Option.bind_some]
  rw [yda (by rw [tab_len]; simp; omega), yac k (fun p => xs.getD (xs.length - 1 - p) default), w64_id (by omega) (by omega)]
  congr 3
  show ((xs.length - 1 - k : Nat) : Int) - 1 = (xs.length : Int) - 1 - ((k + 1 : Nat) : Int)
  omega) (by
  simp only [spec_zeBack_b1]
  have : ¬ ((xs.length : Int) - 1 - (xs.length : Nat) ≥ 0) := by omega
  simp only [this, decide_false, Bool.false_eq_true, if_false]
  congr 2
  apply List.ext_getElem?
  intro p
  by_cases hp : p < xs.length
  ·rw [tab_get hp, List.getElem?_reverse hp, getD_lt (by omega)]
  ·rw [List.getElem?_eq_none (by rw [tab_len]; omega), List.getElem?_eq_none (by simp; omega)])
 unfold spec_zeBack
 rw [w64_id (by omega) (by omega)]
 have : ((xs.length : Int) - 1) = (xs.length : Int) - 1 - ((0 : Nat) : Int) := by omega
 rw [this]
 have hx' : loopO (spec_zeBack_b1 xs) ([], (xs.length : Int) - 1 - ((0 : Nat) : Int)) = some xs.reverse := hx
 rw [hx']
 rfl
end Go.PV

set_option linter.all false
namespace Go.PV
end Go.PV

/-
 Plain laws: vectors of walks, bounds of growth.
 Conditions: none.
-/
set_option linter.all false
namespace Go.PV
def vk (G : Nat → Nat → Int) (n : Nat) : Nat → Nat → Int
 | 0 => fun _ => 1
 | k + 1 => fun j => dotN (G j) (vk G n k) n + vk G n k j
def mxg (G : Nat → Nat → Int) (n : Nat) : Nat → Nat
 | 0 => 0
 | k + 1 => if mxg G n k = k ∧ isVec (tab n (vk G n (k + 1))) = true then k + 1 else mxg G n k
section
variable {n : Nat} {G : Nat → Nat → Int}
def bestT (G : Nat → Nat → Int) (n : Nat) : (Int × Int) × (Int × Int) × Int × Bool := (mnN (ratN G (vk G n (mxg G n 20)) n) n, mxN (ratN G (vk G n (mxg G n 20)) n) n, ((mxg G n 20 : Nat) : Int), true)
end
end Go.PV

/-
 Plain laws: what draws from bytes always comes to an end.
 Conditions: none.
-/
set_option linter.all false
namespace Go.PV
def Tot {α : Type} (o : Option α) (P : α → Prop) : Prop := ∃ r, o = some r ∧ P r
section
variable {α β : Type} {P : α → Prop} {Q : β → Prop}
theorem Tot.bind {o : Option α} {f : α → Option β} (h : Tot o P) (k : ∀ r, P r → Tot (f r) Q) : Tot (o.bind f) Q := by
 obtain ⟨r, rfl, hr⟩ := h
 exact k r hr
theorem Tot.ret {r : α} (h : P r) : Tot (some r) P := ⟨r, rfl, h⟩
theorem Tot.ite {c : Bool} {x y : Option α} (h1 : c = true → Tot x P) (h2 : c = false → Tot y P) : Tot (if c = true then x else y) P := by
 cases c
 ·exact h2 rfl
 ·exact h1 rfl
theorem Tot.guard {p : Prop} [Decidable p] {f : Unit → Option α} (h : p) (k : Tot (f ()) P) : Tot ((guardO p).bind f) P := by
 rw [yda h]; exact k
def Lp {X Y : Type} (I : X → Prop) (R : Y → Prop) : X ⊕ Y → Prop
 | .inl x => I x
 | .inr y => R y
theorem Tot.inl {X Y : Type} {I : X → Prop} {R : Y → Prop} {x : X} (h : I x) : Tot (some (Sum.inl x)) (Lp I R) := ⟨_, rfl, h⟩
theorem Tot.inr {X Y : Type} {I : X → Prop} {R : Y → Prop} {y : Y} (h : R y) : Tot (some (Sum.inr y)) (Lp I R) := ⟨_, rfl, h⟩
theorem Tot.loop {X Y : Type} {body : X → Option (X ⊕ Y)} {R : Y → Prop} (Inv : X → Prop) (μ : X → Nat)
  (h : ∀ x, Inv x → Tot (body x) (Lp (fun x' => Inv x' ∧ μ x' < μ x) R)) (x0 : X) (h0 : Inv x0) : Tot (loopO body x0) R := by
 obtain ⟨y, h1, h2⟩ := yeg (body := body) Inv μ R (fun x hx => by
  obtain ⟨r, e, hr⟩ := h x hx
  cases r with
  | inl x' => exact .inl ⟨x', e, hr.1, hr.2⟩
  | inr y => exact .inr ⟨y, e, hr⟩) x0 h0
 exact ⟨y, h1, h2⟩
end
theorem Tot.idx {α β : Type} {xs : List α} {i : Int} {f : α → Option β} {Q : β → Prop} (h0 : 0 ≤ i) (h1 : i < xs.length) (k : ∀ x, x ∈ xs → Tot (f x) Q) : Tot ((idxO xs i).bind f) Q := by
 obtain ⟨m, rfl⟩ := Int.eq_ofNat_of_zero_le h0
 have hm : m < xs.length := by omega
 rw [idxO_lt hm, Option.bind_some]
 exact k _ (List.getElem_mem hm)
abbrev Cur := List Int × Int × Int
def Bytes (l : List Int) : Prop := l.length ≤ 9223372036854775807 ∧ ∀ b ∈ l, 0 ≤ b ∧ b ≤ 255
def Ck (B : Nat) (c : Cur) : Prop := Bytes c.1 ∧ 0 ≤ c.2.1 ∧ c.2.1 ≤ B
theorem Ck.mono {B B' : Nat} {c : Cur} (h : Ck B c) (hb : B ≤ B') : Ck B' c := ⟨h.1, h.2.1, by have := h.2.2; omega⟩
theorem ck0 {l : List Int} (h : Bytes l) : Ck 0 (l, 0, 0) := ⟨h, by simp, by simp⟩
theorem wrapU64 (n : Int) : IntKind.u64.wrap n = n % 18446744073709551616 := by simp [IntKind.wrap, IntKind.bits, IntKind.signed]
theorem ywk (n : Int) : IntKind.wrap .i64 n = w64 n := rfl
theorem yqo (x : Int) : 0 ≤ iand .u64 x 255 ∧ iand .u64 x 255 ≤ 255 := by
 unfold iand
 have h : ((BitVec.ofInt (IntKind.bits .u64) x) &&& (BitVec.ofInt (IntKind.bits .u64) 255)).toNat ≤ 255 := by
  rw [BitVec.toNat_and]
  have : (BitVec.ofInt (IntKind.bits .u64) 255).toNat = 255 := by decide
  rw [this]
  exact Nat.and_le_right
 rw [wrapU64, Int.emod_eq_of_lt (by omega) (by omega)]
 omega
theorem next_ok {B : Nat} {c : Cur} (h : Ck B c) (hB : B ≤ 1152921504606846976) : Tot (spec_l1Cur_next c) fun r => (0 ≤ r.1 ∧ r.1 ≤ 255) ∧ Ck (B + 1) r.2 := by
 obtain ⟨⟨hl, hb⟩, h0, h1⟩ := h
 have hw : w64 (c.2.1 + 1) = c.2.1 + 1 := w64_id (by omega) (by omega)
 have key : ∀ x : Int, 0 ≤ x → x ≤ 255 → Tot (spec_l1Cur_next_k1 c x) fun r => (0 ≤ r.1 ∧ r.1 ≤ 255) ∧ Ck (B + 1) r.2 := by
  intro x hx0 hx1
  unfold spec_l1Cur_next_k1
  rw [hw]
  refine Tot.ite (fun _ => Tot.ret ⟨⟨hx0, hx1⟩, ⟨hl, hb⟩, by show 0 ≤ c.2.1 + 1; omega, by show c.2.1 + 1 ≤ _; omega⟩) (fun _ => Tot.ret ⟨?_, ⟨hl, hb⟩, by show 0 ≤ c.2.1 + 1; omega, by show c.2.1 + 1 ≤ _; omega⟩)
  rw [ywk]
  obtain ⟨a, b⟩ := yqo (ishr .u64 (IntKind.wrap .u64 ((IntKind.wrap .u64 ((IntKind.wrap .u64 (c.2.2 * 6364136223846793005)) + (IntKind.wrap .u64 x))) + 1442695040888963407)) 40)
  show 0 ≤ w64 _ ∧ w64 _ ≤ 255
  rw [w64_id (by omega) (by omega)]
  exact ⟨a, b⟩
 unfold spec_l1Cur_next
 refine Tot.ite (fun hc => ?_) (fun _ => key 0 (by omega) (by omega))
 have hlt : c.2.1 < (c.1.length : Int) := of_decide_eq_true hc
 refine Tot.idx h0 hlt fun x hx => ?_
 have := hb x hx
 rw [ywk, w64_id (by omega) (by omega)]
 exact key x this.1 this.2
theorem yxk {x n : Int} (hx : 0 ≤ x) (hn : 1 ≤ n) : 0 ≤ Int.tmod x n ∧ Int.tmod x n < n := by
 obtain ⟨a, rfl⟩ := Int.eq_ofNat_of_zero_le hx
 obtain ⟨b, rfl⟩ := Int.eq_ofNat_of_zero_le (show 0 ≤ n by omega)
 have : Int.tmod (a : Int) (b : Int) = ((a % b : Nat) : Int) := rfl
 rw [this]
 have := Nat.mod_lt a (show b > 0 by omega)
 omega
theorem pick_ok {B : Nat} {c : Cur} (h : Ck B c) (hB : B ≤ 1000000000000000000) (n : Int) : Tot (spec_l1Cur_pick c n) fun r => (0 ≤ r.1 ∧ (1 ≤ n → r.1 < n)) ∧ Ck (B + 2) r.2 := by
 unfold spec_l1Cur_pick
 refine Tot.ite (fun hc => Tot.ret ⟨⟨by show (0 : Int) ≤ 0; omega, fun h => by show (0 : Int) < n; omega⟩, h.mono (by omega)⟩) (fun hc => ?_)
 have hn : ¬ n ≤ 1 := of_decide_eq_false hc
 refine (next_ok h (by omega)).bind fun v2 ⟨⟨h1, h2⟩, h3⟩ => ?_
 refine Tot.ite (fun _ => ?_) (fun _ => ?_)
 ·refine (next_ok h3 (by omega)).bind fun v6 ⟨⟨h4, h5⟩, h6⟩ => ?_
  unfold spec_l1Cur_pick_k1
  refine Tot.guard (by omega) (Tot.ret ?_)
  have e : w64 ((w64 (v2.1 * 256)) + v6.1) = v2.1 * 256 + v6.1 := by rw [w64_id (n := v2.1 * 256) (by omega) (by omega), w64_id (by omega) (by omega)]
  have := yxk (x := v2.1 * 256 + v6.1) (n := n) (by omega) (by omega)
  simp only [e]
  exact ⟨⟨this.1, fun _ => this.2⟩, h6⟩
 ·unfold spec_l1Cur_pick_k1
  refine Tot.guard (by omega) (Tot.ret ?_)
  have := yxk (x := v2.1) (n := n) (by omega) (by omega)
  exact ⟨⟨this.1, fun _ => this.2⟩, h3.mono (by omega)⟩
theorem one_ok {B : Nat} {c : Cur} (h : Ck B c) (hB : B ≤ 1000000000000000000) (n : Int) : Tot (spec_l1Cur_one c n) fun r => Ck (B + 2) r.2 := by
 unfold spec_l1Cur_one
 exact (pick_ok h hB n).bind fun v h => Tot.ret h.2
theorem yld {B : Nat} {c : Cur} (h : Ck B c) (hB : B ≤ 1000000000000000000) (l : List Int) (hl : l ≠ []) : Tot (spec_l1Cur_among c l) fun r => r.1 ∈ l ∧ Ck (B + 2) r.2 := by
 unfold spec_l1Cur_among
 refine (pick_ok h hB _).bind fun v ⟨⟨h1, h2⟩, h3⟩ => ?_
 have : 0 < l.length := List.length_pos_iff.2 hl
 refine Tot.idx h1 (h2 (by omega)) fun x hx => Tot.ret ⟨hx, h3⟩
end Go.PV
namespace Go.PV
def cur4 {α : Type} (x : List Int × Int × Int × α) : Cur := (x.1, x.2.1, x.2.2.1)
def En (l : List Int) : Prop := ∀ x ∈ l, 0 ≤ x ∧ x ≤ 9
theorem En.app {l : List Int} {x : Int} (h : En l) (h0 : 0 ≤ x) (h9 : x ≤ 9) : En (l ++ [x]) := fun y hy => by
 rcases List.mem_append.1 hy with h' | h'
 ·exact h y h'
 ·rw [List.mem_singleton.1 h']; exact ⟨h0, h9⟩
theorem En.set {l : List Int} {i : Nat} {x : Int} (h : En l) (h0 : 0 ≤ x) (h9 : x ≤ 9) : En (l.set i x) := fun y hy => by
 rcases List.mem_or_eq_of_mem_set hy with h' | rfl
 ·exact h y h'
 ·exact ⟨h0, h9⟩
theorem yrm {B : Nat} (hB : B ≤ 1000000000) {x2 : List Int × Int × Int × Int} {v3 : Int × Cur} {x26 : List Int × Int × Int × List (List Int) × Int} (h1 : 1 ≤ x2.2.2.2) (h8 : x2.2.2.2 ≤ 8)
  (hc : Ck B (cur4 x26)) : Tot (loopO (spec_l1Cur_graph_b4 x2 v3 x26) (x26.1, x26.2.1, x26.2.2.1, [], 0)) fun y => ((y.2.2.2.length : Int) = x2.2.2.2 ∧ En y.2.2.2) ∧ Ck (B + 40) (cur4 y) := by
 refine Tot.loop (fun x => (0 ≤ x.2.2.2.2 ∧ x.2.2.2.2 ≤ x2.2.2.2) ∧ ((x.2.2.2.1.length : Int) = x.2.2.2.2 ∧ En x.2.2.2.1) ∧ Ck (B + 4 * x.2.2.2.2.toNat) (cur4 x)) (fun x => (x2.2.2.2 - x.2.2.2.2).toNat) (fun x ⟨⟨i0, i1⟩, ⟨il, ie⟩, ic⟩ => ?_) _ ⟨⟨by simp, by show (0 : Int) ≤ _; omega⟩, ⟨by simp, fun x hx => by simp at hx⟩, by simpa [cur4] using hc⟩
 obtain ⟨c1, c2, c3, row, k⟩ := x
 simp only [cur4] at i0 i1 il ie ic ⊢
 unfold spec_l1Cur_graph_b4
 refine Tot.ite (fun hk => ?_) (fun hk => ?_)
 ·have hk' : k < x2.2.2.2 := of_decide_eq_true hk
  have fin : ∀ (x35 : List Int × Int × Int × Int), (0 ≤ x35.2.2.2 ∧ x35.2.2.2 ≤ 9) → Ck (B + 4 * k.toNat + 4) (cur4 x35) → Tot (spec_l1Cur_graph_k8 (c1, c2, c3, row, k) x35) (Lp (fun x' => ((0 ≤ x'.2.2.2.2 ∧ x'.2.2.2.2 ≤ x2.2.2.2) ∧ ((x'.2.2.2.1.length : Int) = x'.2.2.2.2 ∧ En x'.2.2.2.1) ∧ Ck (B + 4 * x'.2.2.2.2.toNat) (x'.1, x'.2.1, x'.2.2.1)) ∧ (x2.2.2.2 - x'.2.2.2.2).toNat < (x2.2.2.2 - k).toNat)
    (fun y => ((y.2.2.2.length : Int) = x2.2.2.2 ∧ En y.2.2.2) ∧ Ck (B + 40) (y.1, y.2.1, y.2.2.1))) := by
   intro x35 hx h35
   unfold spec_l1Cur_graph_k8
   refine Tot.guard (by simp; omega) (Tot.inl ?_)
   have hw : w64 (k + 1) = k + 1 := w64_id (by omega) (by omega)
   simp only [hw]
   refine ⟨⟨⟨by omega, by omega⟩, ⟨by simp; omega, ie.app hx.1 hx.2⟩, h35.mono (by omega)⟩, by omega⟩
  refine (one_ok ic (by omega) _).bind fun v37 h37 => ?_
  refine Tot.bind (P := fun _ => True) ?_ fun w39 _ => ?_
  ·refine Tot.ite (fun _ => Tot.ret trivial) (fun _ => Tot.ite (fun _ => Tot.guard (by omega) (Tot.ret trivial)) (fun _ => Tot.ret trivial))
  ·refine Tot.ite (fun _ => ?_) (fun _ => fin (v37.2.1, v37.2.2.1, v37.2.2.2, 0) (by simp) (Ck.mono (B := B + 4 * k.toNat + 2) h37 (by omega)))
   exact (yld h37 (by omega) _ (by simp)).bind fun v41 ⟨m41, h41⟩ => fin (v41.2.1, v41.2.2.1, v41.2.2.2, v41.1) (by simp only [List.mem_cons, List.not_mem_nil, or_false] at m41; show 0 ≤ v41.1 ∧ v41.1 ≤ 9; omega) h41
 ·have hk' : ¬ k < x2.2.2.2 := of_decide_eq_false hk
  exact Tot.inr ⟨⟨by show (row.length : Int) = _; omega, ie⟩, ic.mono (by omega)⟩
def Sq (n : Int) (g : List (List Int)) : Prop := (g.length : Int) = n ∧ ∀ row ∈ g, (row.length : Int) = n ∧ En row
theorem mem_set {α : Type} {xs : List α} {i : Nat} {a x : α} (h : x ∈ xs.set i a) : x ∈ xs ∨ x = a := List.mem_or_eq_of_mem_set h
theorem Sq.set {n : Int} {g : List (List Int)} (h : Sq n g) {i : Nat} {row : List Int} (hr : (row.length : Int) = n ∧ En row) : Sq n (g.set i row) := ⟨by rw [List.length_set]; exact h.1, fun r hr' => by
 rcases mem_set hr' with h' | rfl
 ·exact h.2 r h'
 ·exact hr⟩
theorem yyk {B : Nat} (hB : B ≤ 100000000) {x2 : List Int × Int × Int × Int} {v3 : Int × Cur} (h1 : 1 ≤ x2.2.2.2) (h8 : x2.2.2.2 ≤ 8) (hc : Ck B v3.2) :
  Tot (loopO (spec_l1Cur_graph_b3 x2 v3) (v3.2.1, v3.2.2.1, v3.2.2.2, [], 0)) fun y => Sq x2.2.2.2 y.2.2.2 ∧ Ck (B + 400) (cur4 y) := by
 refine Tot.loop (fun x => (0 ≤ x.2.2.2.2 ∧ x.2.2.2.2 ≤ x2.2.2.2) ∧ ((x.2.2.2.1.length : Int) = x.2.2.2.2 ∧ ∀ row ∈ x.2.2.2.1, (row.length : Int) = x2.2.2.2 ∧ En row) ∧ Ck (B + 40 * x.2.2.2.2.toNat) (cur4 x)) (fun x => (x2.2.2.2 - x.2.2.2.2).toNat) (fun x ⟨⟨i0, i1⟩, ⟨il, ir⟩, ic⟩ => ?_) _ ⟨⟨by simp, by show (0 : Int) ≤ _; omega⟩, ⟨by simp, by simp⟩, by simpa [cur4] using hc⟩
 obtain ⟨c1, c2, c3, out, k⟩ := x
 simp only [cur4] at i0 i1 il ir ic ⊢
 unfold spec_l1Cur_graph_b3
 refine Tot.ite (fun hk => ?_) (fun hk => ?_)
 ·have hk' : k < x2.2.2.2 := of_decide_eq_true hk
  refine (yrm (x26 := (c1, c2, c3, out, k)) (by omega) h1 h8 ic).bind fun y ⟨hy, hyc⟩ => ?_
  unfold spec_l1Cur_graph_k7 spec_l1Cur_graph_k6
  refine Tot.guard (by simp; omega) (Tot.inl ?_)
  have hw : w64 (k + 1) = k + 1 := w64_id (by omega) (by omega)
  simp only [hw]
  refine ⟨⟨⟨by omega, by omega⟩, ⟨by simp; omega, fun row hr => ?_⟩, hyc.mono (by omega)⟩, by omega⟩
  rcases List.mem_append.1 hr with h | h
  ·exact ir row h
  ·rw [List.mem_singleton.1 h]; exact hy
 ·have hk' : ¬ k < x2.2.2.2 := of_decide_eq_false hk
  exact Tot.inr ⟨⟨by show (out.length : Int) = _; omega, ir⟩, ic.mono (by omega)⟩
theorem yzk {n : Int} (h1 : 1 ≤ n) (h8 : n ≤ 8) {x5 : List Int × Int × Int × List (List Int)} {v7 : Bool × Cur} (hs : Sq n x5.2.2.2) :
  Tot (loopO (spec_l1Cur_graph_b1 x5 v7) (x5.2.2.2, 0)) fun y => Sq n y.2.2.2 ∧ cur4 y = v7.2 := by
 refine Tot.loop (fun x => Sq n x.1 ∧ 0 ≤ x.2 ∧ x.2 ≤ n) (fun x => (n - x.2).toNat) (fun x ⟨hx, i0, i1⟩ => ?_) _ ⟨hs, by simp, by show (0 : Int) ≤ n; omega⟩
 obtain ⟨g, k⟩ := x
 simp only at hx i0 i1 ⊢
 unfold spec_l1Cur_graph_b1
 refine Tot.ite (fun hk => ?_) (fun hk => ?_)
 ·have hk' : k < (x5.2.2.2.length : Int) := of_decide_eq_true hk
  rw [hs.1] at hk'
  refine Tot.idx i0 (by rw [hx.1]; exact hk') fun row hrow => ?_
  refine Tot.bind (P := fun y => Sq n y) ?_ fun y hy => ?_
  ·refine Tot.loop (fun z => Sq n z.1 ∧ 0 ≤ z.2 ∧ z.2 ≤ n) (fun z => (n - z.2).toNat) (fun z ⟨hz, j0, j1⟩ => ?_) _ ⟨hx, by simp, by show (0 : Int) ≤ n; omega⟩
   obtain ⟨g2, j⟩ := z
   simp only at hz j0 j1 ⊢
   unfold spec_l1Cur_graph_b2
   refine Tot.ite (fun hj => ?_) (fun hj => Tot.inr hz)
   have hj' : j < (row.length : Int) := of_decide_eq_true hj
   rw [(hx.2 row hrow).1] at hj'
   refine Tot.idx i0 (by rw [hz.1]; exact hk') fun r2 hr2 => ?_
   refine Tot.idx j0 (by rw [(hz.2 r2 hr2).1]; exact hj') fun _ _ => Tot.inl ?_
   have hw : w64 (j + 1) = j + 1 := w64_id (by omega) (by omega)
   simp only [hw]
   exact ⟨⟨hz.set ⟨by rw [List.length_set]; exact (hz.2 r2 hr2).1, (hz.2 r2 hr2).2.set (by decide) (by decide)⟩, by omega, by omega⟩, by omega⟩
  ·unfold spec_l1Cur_graph_k5
   have hw : w64 (k + 1) = k + 1 := w64_id (by omega) (by omega)
   refine Tot.inl ?_
   simp only [hw]
   exact ⟨⟨hy, by omega, by omega⟩, by omega⟩
 ·exact Tot.inr ⟨hx, rfl⟩
theorem yro {B : Nat} (hB : B ≤ 1000000) {c : Cur} (hc : Ck B c) : Tot (spec_l1Cur_graph c) fun r => (∃ n : Int, 1 ≤ n ∧ n ≤ 8 ∧ Sq n r.1) ∧ Ck (B + 1000) r.2 := by
 have k3 : ∀ (B' : Nat) (n : Int) (x5 : List Int × Int × Int × List (List Int)), B' ≤ B + 500 → 1 ≤ n → n ≤ 8 → Sq n x5.2.2.2 → Ck B' (cur4 x5) → Tot (spec_l1Cur_graph_k3 x5) fun r => (∃ n : Int, 1 ≤ n ∧ n ≤ 8 ∧ Sq n r.1) ∧ Ck (B + 1000) r.2 := by
  intro B' n x5 hB' h1 h8 hs hc
  unfold spec_l1Cur_graph_k3
  refine (one_ok (c := cur4 x5) hc (by omega) _).bind fun v7 h7 => ?_
  refine Tot.ite (fun _ => ?_) (fun _ => Tot.ret ⟨⟨n, h1, h8, hs⟩, Ck.mono h7 (by omega)⟩)
  refine (yzk h1 h8 hs).bind fun y ⟨hy, hyc⟩ => Tot.ret ⟨⟨n, h1, h8, hy⟩, ?_⟩
  show Ck _ (cur4 y)
  rw [hyc]; exact h7.mono (by omega)
 have k1 : ∀ (B' : Nat) (x2 : List Int × Int × Int × Int), B' ≤ B + 10 → 1 ≤ x2.2.2.2 → x2.2.2.2 ≤ 8 → Ck B' (cur4 x2) → Tot (spec_l1Cur_graph_k1 x2) fun r => (∃ n : Int, 1 ≤ n ∧ n ≤ 8 ∧ Sq n r.1) ∧ Ck (B + 1000) r.2 := by
  intro B' x2 hB' h1 h8 hc
  unfold spec_l1Cur_graph_k1
  refine (yld (c := cur4 x2) hc (by omega) _ (by simp)).bind fun v3 ⟨_, h3⟩ => ?_
  refine (yyk (by omega) h1 h8 h3).bind fun y ⟨hy, hyc⟩ => ?_
  unfold spec_l1Cur_graph_k2
  refine (one_ok (c := cur4 y) hyc (by omega) _).bind fun v19 h19 => ?_
  refine Tot.ite (fun _ => ?_) (fun _ => k3 _ _ _ (by omega : B' + 2 + 400 + 2 ≤ B + 500) h1 h8 hy h19)
  refine (pick_ok h19 (by omega) _).bind fun v21 ⟨⟨a1, a2⟩, h21⟩ => ?_
  refine Tot.idx a1 (by rw [hy.1]; exact a2 h1) fun row hrow => ?_
  refine (pick_ok h21 (by omega) _).bind fun v23 ⟨⟨b1, b2⟩, h23⟩ => ?_
  refine (yld h23 (by omega) _ (by simp)).bind fun v24 ⟨m24, h24⟩ => ?_
  simp only [List.mem_cons, List.not_mem_nil, or_false] at m24
  refine Tot.idx b1 (by rw [(hy.2 row hrow).1]; exact b2 h1) fun _ _ => ?_
  exact k3 _ _ _ (by omega : B' + 2 + 400 + 2 + 2 + 2 + 2 ≤ B + 500) h1 h8 (hy.set ⟨by rw [List.length_set]; exact (hy.2 row hrow).1, (hy.2 row hrow).2.set (by omega) (by omega)⟩) h24
 unfold spec_l1Cur_graph
 refine (pick_ok hc (by omega) _).bind fun v1 ⟨⟨a1, a2⟩, h1⟩ => ?_
 refine (one_ok h1 (by omega) _).bind fun v42 h42 => ?_
 refine Tot.ite (fun _ => ?_) (fun _ => ?_)
 ·refine (yld h42 (by omega) _ (by simp)).bind fun v44 ⟨hm, h44⟩ => ?_
  have : 1 ≤ v44.1 ∧ v44.1 ≤ 8 := by
   simp only [List.mem_cons, List.not_mem_nil, or_false] at hm
   omega
  exact k1 _ _ (by omega : B + 2 + 2 + 2 ≤ B + 10) this.1 this.2 h44
 ·have := a2 (by omega)
  have e : w64 (1 + v1.1) = 1 + v1.1 := w64_id (by omega) (by omega)
  exact k1 _ _ (by omega : B + 2 + 2 ≤ B + 10) (by show 1 ≤ w64 (1 + v1.1); omega) (by show w64 (1 + v1.1) ≤ 8; omega) h42
def Sm (g : List (List Int)) : Prop := g.length ≤ 9 ∧ ∀ row ∈ g, row.length ≤ 9
theorem Sm.sized {g : List (List Int)} (h : Sm g) : sized g := ⟨by have := h.1; omega, fun row hr => by have := h.2 row hr; omega⟩
theorem Sq.sm {n : Int} {g : List (List Int)} (h : Sq n g) (h8 : n ≤ 8) : Sm g := ⟨by have := h.1; omega, fun row hr => by have := (h.2 row hr).1; omega⟩
theorem yvf {B : Nat} (hB : B ≤ 1000000) {c : Cur} (hc : Ck B c) : Tot (spec_l1Cur_anyGraph c) fun r => Sm r.1 ∧ Ck (B + 1010) r.2 := by
 unfold spec_l1Cur_anyGraph spec_l1Cur_anyGraph_k1
 refine (yro hB hc).bind fun v1 ⟨⟨n, n1, n8, hs⟩, h1⟩ => ?_
 refine (pick_ok h1 (by omega) _).bind fun v3 ⟨_, h3⟩ => ?_
 refine Tot.ite (fun _ => ?_) (fun _ => Tot.ite (fun _ => ?_) (fun _ => Tot.ite (fun _ => ?_) (fun _ => Tot.ite (fun _ => ?_) (fun _ => ?_))))
 ·refine Tot.idx (by omega) (by rw [hs.1]; omega) fun row hrow => ?_
  refine (pick_ok h3 (by omega) _).bind fun v6 ⟨⟨a1, a2⟩, h6⟩ => ?_
  refine (yld h6 (by omega) _ (by simp)).bind fun v7 ⟨_, h7⟩ => ?_
  refine Tot.idx a1 (by rw [(hs.2 row hrow).1, ← hs.1]; exact a2 (by rw [hs.1]; exact n1)) fun _ _ => Tot.ret ⟨?_, h7.mono (by omega)⟩
  refine ⟨by show (v1.1.set _ _).length ≤ 9; rw [List.length_set]; have := hs.1; omega, fun r hr => ?_⟩
  rcases mem_set hr with h | rfl
  ·have := (hs.2 r h).1; omega
  ·rw [List.length_set]; have := (hs.2 row hrow).1; omega
 ·refine Tot.idx (by omega) (by rw [hs.1]; omega) fun row hrow => ?_
  have hl := (hs.2 row hrow).1
  refine Tot.guard (by simp; omega) (Tot.ret ⟨⟨?_, fun r hr => ?_⟩, h3.mono (by omega)⟩)
  ·show (v1.1.set _ _).length ≤ 9
   rw [List.length_set]; have := hs.1; omega
  ·rcases mem_set hr with h | rfl
   ·have := (hs.2 r h).1; omega
   ·simp; omega
 ·exact Tot.ret ⟨⟨by simp, by simp⟩, h3.mono (by omega)⟩
 ·refine Tot.bind (P := fun y => Sm y.2.2.2 ∧ cur4 y = v3.2) ?_ fun y ⟨hy, hyc⟩ => Tot.ret ⟨hy, ?_⟩
  ·refine Tot.loop (fun x => Sm x) (fun x => 9 - x.length) (fun x hx => ?_) _ ⟨by simp, by simp⟩
   unfold spec_l1Cur_anyGraph_b1
   refine Tot.ite (fun hk => ?_) (fun hk => Tot.inr ⟨hx, rfl⟩)
   have hk' : (x.length : Int) < 9 := of_decide_eq_true hk
   refine Tot.guard (by decide) (Tot.guard (by simp; omega) (Tot.inl ?_))
   refine ⟨⟨by simp; omega, fun r hr => ?_⟩, by simp; omega⟩
   rcases List.mem_append.1 hr with h | h
   ·exact hx.2 r h
   ·rw [List.mem_singleton.1 h]; decide
  ·show Ck _ (cur4 y)
   rw [hyc]; exact h3.mono (by omega)
 ·exact Tot.ret ⟨hs.sm n8, h3.mono (by omega)⟩
end Go.PV

/-
 Plain laws: which states are reached, and graphs without closed walks.
 Conditions: none.
-/
set_option linter.all false
namespace Go.PV
def wsh (R : Nat → Nat → Bool) (k i j : Nat) : Bool := R i j || (R i k && R k j)
def rch (n : Nat) (G : Nat → Nat → Int) : Nat → Nat → Nat → Bool
 | 0 => fun i j => decide (G i j > 0)
 | k + 1 => wsh (rch n G k) k
section
variable {n : Nat} {G : Nat → Nat → Int}
variable (hG : ∀ i j, i < n → j < n → 0 ≤ G i j)
include hG
def hgt (n : Nat) (R : Nat → Nat → Bool) (i : Nat) : Int := sm n fun m => if R i m = true then 1 else 0
omit hG in
end
def noLoop (n : Nat) (G : Nat → Nat → Int) : Bool := (tab n fun i => rch n G n i i).all (!·)
end Go.PV

/-
 Plain laws: sums, products and quotients of fractions, with what is too large told.
 Conditions: none.
-/
set_option linter.all false
namespace Go.PV
abbrev Rt := Int × Int
def unO : Option Rt → Rt × Bool
 | some r => (r, true)
 | none => ((0, 0), false)
def lowQ (n d : Int) : Option Rt := if (lowest n d).2 = true then some (lowest n d).1 else none
def addQ (a b : Rt) : Option Rt := lowQ (a.1 * b.2 + b.1 * a.2) (a.2 * b.2)
def subQ (a b : Rt) : Option Rt := lowQ (a.1 * b.2 - b.1 * a.2) (a.2 * b.2)
def mulQ (a b : Rt) : Option Rt := lowQ (a.1 * b.1) (a.2 * b.2)
def divQ (a b : Rt) : Option Rt := if b.1 = 0 then none else lowQ (a.1 * b.2) (a.2 * b.1)
structure RB (a b : Rt) : Prop where
 m1 : -1000000000000000000 ≤ a.1 * b.2 ∧ a.1 * b.2 ≤ 1000000000000000000
 m2 : -1000000000000000000 ≤ b.1 * a.2 ∧ b.1 * a.2 ≤ 1000000000000000000
 m3 : -1000000000000000000 ≤ a.2 * b.2 ∧ a.2 * b.2 ≤ 1000000000000000000
 m4 : -1000000000000000000 ≤ a.1 * b.1 ∧ a.1 * b.1 ≤ 1000000000000000000
 ne : a.2 * b.2 ≠ 0
 m5 : -1000000000000000000 ≤ a.2 * b.1 ∧ a.2 * b.1 ≤ 1000000000000000000
section spec
variable {a b : Rt} (ha : isRat a = true) (hb : isRat b = true)
include ha hb
end spec
def cK (bad : Bool) : Option Rt → Rt × Bool
 | some r => (r, bad)
 | none => ((0, 1), true)
section impl
variable {a b : Rt} (bad : Bool) (ha : isRat a = true) (hb : isRat b = true)
include ha hb
end impl
def absR (r : Rt) : Rt := ((r.1.natAbs : Int), r.2)
def distQ (a b : Rt) : Option Rt := if less a b then subQ b a else subQ a b
end Go.PV

/-
 Plain laws: what draws fractions and vectors always comes to an end.
 Conditions: none.
-/
set_option linter.all false
namespace Go.PV
end Go.PV

/-
 Plain laws: power sums, Euler products, companion graphs.
 Conditions: none.
-/
set_option linter.all false
namespace Go.PV
theorem w64_per (x k : Int) : w64 (x + 18446744073709551616 * k) = w64 x := by
 unfold w64 IntKind.wrap
 have e : (2 ^ IntKind.bits .i64 : Int) = 18446744073709551616 := by decide
 simp only [e, Int.add_mul_emod_self_left]
theorem ydi (x : Int) : ∃ k, w64 x = x + 18446744073709551616 * k := by
 unfold w64 IntKind.wrap
 have e : (2 ^ IntKind.bits .i64 : Int) = 18446744073709551616 := by decide
 simp only [e]
 split
 ·exact ⟨-(x / 18446744073709551616) - 1, by have := Int.mul_ediv_add_emod x 18446744073709551616; omega⟩
 ·exact ⟨-(x / 18446744073709551616), by have := Int.mul_ediv_add_emod x 18446744073709551616; omega⟩
theorem w64_add (a b : Int) : w64 (w64 a + b) = w64 (a + b) := by
 obtain ⟨k, e⟩ := ydi a
 rw [e, show a + 18446744073709551616 * k + b = a + b + 18446744073709551616 * k by omega, w64_per]
theorem w64_sub (a b : Int) : w64 (w64 a - b) = w64 (a - b) := by
 have := w64_add a (-b)
 rw [show w64 a + -b = w64 a - b by omega, show a + -b = a - b by omega] at this
 exact this
theorem yso (a b : Int) : w64 (w64 (a - b) - 1) = w64 (w64 (a - 1) - b) := by
 rw [w64_sub, w64_sub]
 congr 1; omega
theorem ps_b2 (a0 : List Int) (x7 : List Int × Int) : spec_PowerSums_b2 a0 x7 = impl_PowerSums_b2 a0 x7 := by
 funext x18
 simp only [spec_PowerSums_b2, impl_PowerSums_b2, yso]
theorem ps_b1 (a0 : List Int) (a1 : Int) : spec_PowerSums_b1 a0 a1 = impl_PowerSums_b1 a0 a1 := by
 funext x7
 simp only [spec_PowerSums_b1, impl_PowerSums_b1, ps_b2]
 rfl
def isPol (p : List Int) : Bool := isPoly p && ((p.length : Int) == 0 || p.getLastD 0 != 0)
theorem yei {p : List Int} (h0 : p ≠ []) (h : p.length ≤ 9) : idxO p (w64 ((p.length : Int) - 1)) = some (p.getLastD 0) := by
 have hl : 0 < p.length := List.length_pos_iff.2 h0
 rw [w64_id (by omega) (by omega), show (p.length : Int) - 1 = ((p.length - 1 : Nat) : Int) by omega, yzb, List.getLastD_eq_getLast?, List.getLast?_eq_getElem?]
 rw [List.getElem?_eq_getElem (by omega)]
 rfl
theorem ybe (p : List Int) (hl : p.length ≤ 4611686018427387904) : spec_poGood p = some (isPol p) := by
 unfold spec_poGood isPol isPoly
 by_cases h9 : (p.length : Int) > 9
 ·have : ¬ (p.length : Int) ≤ 9 := by omega
  simp [h9, this]
 ·have h9' : (p.length : Int) ≤ 9 := by omega
  simp only [h9, h9', decide_false, decide_true, Bool.false_eq_true, if_false, ylb p _ _ hl, Option.bind_some, Bool.true_and]
  cases p.all (inB (-1000000) 1000000)
  ·rfl
  ·simp only [Bool.not_true, Bool.false_eq_true, if_false, Bool.true_and]
   by_cases h0 : p = []
   ·subst h0; rfl
   ·have : ((p.length : Int) == 0) = false := by
     have := List.length_pos_iff.2 h0
     simp; exact h0
    rw [this, yei h0 (by omega)]
    simp
theorem ytb (p : List Int) (hl : p.length ≤ 4611686018427387904) : impl_isPolynomial p = some (isPol p) := by
 unfold impl_isPolynomial isPol isPoly
 have hc := yfa p (fun x0 => impl_isPolynomial_1 x0) (fun x => !inB (-1000000) 1000000 x) (fun x => by simp [impl_isPolynomial_1, yha]) hl
 by_cases h9 : (p.length : Int) ≤ 9
 ·simp only [h9, decide_true, if_true, hc, Option.bind_some, List.any_eq_not_all_not, Bool.not_not, Bool.true_and]
  cases p.all (inB (-1000000) 1000000)
  ·rfl
  ·simp only [if_true, Bool.true_and]
   by_cases h0 : p = []
   ·subst h0; rfl
   ·have : ((p.length : Int) == 0) = false := by simp; exact h0
    rw [this, yei h0 (by omega)]
    simp
 ·simp [h9]
def isMon (p : List Int) : Bool := decide ((p.length : Int) > 0) && p.getLastD 0 == 1
theorem yfd (p : List Int) (h : isPol p = true) : spec_poMonic p = some (isMon p) := by
 unfold spec_poMonic isMon
 simp only [isPol, isPoly, Bool.and_eq_true, decide_eq_true_eq] at h
 by_cases h0 : p = []
 ·subst h0; rfl
 ·have : (p.length : Int) > 0 := by have := List.length_pos_iff.2 h0; omega
  simp only [this, decide_true, if_true, yei h0 (by omega), Option.bind_some, Bool.true_and]
theorem ypf (p : List Int) (h : isPol p = true) : impl_isMonic p = some (isMon p) := yfd p h
def psAsk (p : List Int) (k : Int) : Bool := isPol p && (isMon p && (decide (2 ≤ (p.length : Int)) && inB 1 12 k))
theorem ylg (p : List Int) (k : Int) (hl : p.length ≤ 4611686018427387904) : ∃ r, r.1.length ≤ 12 ∧ spec_PowerSums p k = some r ∧ impl_PowerSums p k = some r := by
 have key : psAsk p k = true → Tot (loopO (impl_PowerSums_b1 p k) ([], 1)) fun y => match y with | .inl r => r.1.length ≤ 12 | .inr l => l.length ≤ 12 := by
  intro ha
  simp only [psAsk, isPol, isPoly, isMon, Bool.and_eq_true, decide_eq_true_eq, inB_iff] at ha
  obtain ⟨⟨⟨h9, _⟩, _⟩, ⟨h0, _⟩, h2, k1, k12⟩ := ha
  have ew : w64 ((p.length : Int) - 1) = (p.length : Int) - 1 := w64_id (by omega) (by omega)
  refine Tot.loop (fun x => 1 ≤ x.2 ∧ x.2 ≤ 13 ∧ (x.1.length : Int) = x.2 - 1) (fun x => (14 - x.2).toNat) (fun x ⟨i1, i2, il⟩ => ?_) _ ⟨by decide, by decide, by decide⟩
  obtain ⟨out, j⟩ := x
  simp only at i1 i2 il
  unfold impl_PowerSums_b1
  refine Tot.ite (fun hj => ?_) (fun hj => Tot.inr (by show out.length ≤ 12; omega))
  have hj' : j ≤ k := of_decide_eq_true hj
  refine Tot.bind (P := fun _ => True) ?_ fun s _ => ?_
  ·refine Tot.loop (fun x => 1 ≤ x.2 ∧ x.2 ≤ 13) (fun x => (14 - x.2).toNat) (fun x ⟨m1, m2⟩ => ?_) _ ⟨by decide, by decide⟩
   obtain ⟨s, i⟩ := x
   simp only at m1 m2
   unfold impl_PowerSums_b2
   refine Tot.ite (fun hc => ?_) (fun hc => Tot.inr trivial)
   simp only [Bool.and_eq_true, decide_eq_true_eq, ew] at hc
   have e1 : w64 ((p.length : Int) - 1 - i) = (p.length : Int) - 1 - i := w64_id (by omega) (by omega)
   have e2 : w64 (w64 (j - i) - 1) = j - i - 1 := by rw [w64_id (n := j - i) (by omega) (by omega), w64_id (by omega) (by omega)]
   have e3 : w64 (i + 1) = i + 1 := w64_id (by omega) (by omega)
   simp only [ew, e1, e2, e3]
   refine Tot.idx (by omega) (by omega) fun _ _ => Tot.idx (by omega) (by omega) fun _ _ => Tot.inl ⟨⟨by show 1 ≤ i + 1; omega, by show i + 1 ≤ 13; omega⟩, by show (14 - (i + 1)).toNat < (14 - i).toNat; omega⟩
  ·have k4 : ∀ z : Int, Tot (impl_PowerSums_k4 (out, j) z) (Lp (fun x' : List Int × Int => (1 ≤ x'.2 ∧ x'.2 ≤ 13 ∧ (x'.1.length : Int) = x'.2 - 1) ∧ (14 - x'.2).toNat < (14 - j).toNat) (fun y : (List Int × Bool) ⊕ List Int => match y with | .inl r => r.1.length ≤ 12 | .inr l => l.length ≤ 12)) := by
    intro z
    unfold impl_PowerSums_k4
    rw [yha, Option.bind_some]
    refine Tot.ite (fun _ => Tot.inr (by simp)) (fun _ => Tot.guard (by simp; omega) ?_)
    unfold impl_PowerSums_k2
    have e3 : w64 (j + 1) = j + 1 := w64_id (by omega) (by omega)
    simp only [e3]
    exact Tot.inl ⟨⟨by show 1 ≤ j + 1; omega, by show j + 1 ≤ 13; omega, by simp; omega⟩, by show (14 - (j + 1)).toNat < _; omega⟩
   unfold impl_PowerSums_k3
   refine Tot.ite (fun hc => ?_) (fun hc => k4 s)
   have hc' := of_decide_eq_true hc
   rw [ew] at hc'
   have e1 : w64 ((p.length : Int) - 1 - j) = (p.length : Int) - 1 - j := w64_id (by omega) (by omega)
   simp only [ew, e1]
   simp only at hc'
   exact Tot.idx (by omega) (by omega) fun _ _ => k4 _
 have pre1 : spec_PowerSums p k = if psAsk p k = true then (loopO (impl_PowerSums_b1 p k) ([], 1)).bind fun y8 => (Sum.elim (fun p => some p) (fun p => some (p, true))) y8 else some ([], false) := by
  unfold spec_PowerSums psAsk
  rw [ybe p hl]
  cases h1 : isPol p
  ·rfl
  ·rw [yfd p h1]
   simp only [Option.bind_some, Bool.not_true, Bool.false_eq_true, if_false, Bool.true_and]
   cases h2 : isMon p
   ·rfl
   ·simp only [Bool.not_true, Bool.false_eq_true, if_false, Bool.true_and]
    by_cases h3 : (p.length : Int) < 2
    ·have : ¬ 2 ≤ (p.length : Int) := by omega
     simp [h3, this]
    ·have : 2 ≤ (p.length : Int) := by omega
     simp only [h3, this, decide_false, decide_true, Bool.false_eq_true, if_false, spec_zeLength, yhb, Option.bind_some, Bool.true_and, ps_b1]
     cases inB 1 12 k <;> rfl
 have pre2 : impl_PowerSums p k = if psAsk p k = true then (loopO (impl_PowerSums_b1 p k) ([], 1)).bind fun y8 => (Sum.elim (fun p => some p) (fun p => some (p, true))) y8 else some ([], false) := by
  unfold impl_PowerSums psAsk
  rw [ytb p hl]
  cases h1 : isPol p
  ·rfl
  ·rw [ypf p h1]
   simp only [Option.bind_some, Bool.not_true, Bool.false_eq_true, if_false, Bool.true_and]
   cases h2 : isMon p
   ·rfl
   ·have h9 : (p.length : Int) ≤ 9 := by
     simp only [isPol, isPoly, Bool.and_eq_true, decide_eq_true_eq] at h1; omega
    simp only [Bool.not_true, Bool.false_eq_true, if_false, Bool.true_and, w64_id (n := (p.length : Int) - 1) (by omega) (by omega)]
    by_cases h3 : (p.length : Int) - 1 < 1
    ·have : ¬ 2 ≤ (p.length : Int) := by omega
     simp [h3, this]
    ·have : 2 ≤ (p.length : Int) := by omega
     simp only [h3, this, decide_false, decide_true, Bool.false_eq_true, if_false, yha, Option.bind_some, Bool.true_and]
     cases inB 1 12 k <;> rfl
 rw [pre1, pre2]
 cases ha : psAsk p k
 ·exact ⟨([], false), by simp, rfl, rfl⟩
 ·obtain ⟨y, e, hy⟩ := key ha
  simp only [if_true, e, Option.bind_some]
  cases y with
  | inl r => exact ⟨r, hy, rfl, rfl⟩
  | inr l => exact ⟨(l, true), hy, rfl, rfl⟩
theorem ep_b3 (x10 : List Int × Int) (h : -9223372036854775808 ≤ x10.2 + 1 ∧ x10.2 + 1 ≤ 9223372036854775807) : spec_EulerProduct_b3 x10 = impl_EulerProduct_b3 x10 := by
 funext x19
 have e : w64 (x10.2 + 1) = x10.2 + 1 := w64_id h.1 h.2
 have e2 : decide (x19.2 ≥ x10.2 + 1) = decide (x19.2 > x10.2) := by
  rw [Bool.eq_iff_iff, decide_eq_true_eq, decide_eq_true_eq]; omega
 have e3 : w64 (w64 (x19.2 - x10.2) - 1) = w64 (x19.2 - (x10.2 + 1)) := by
  rw [w64_sub]; congr 1; omega
 simp only [spec_EulerProduct_b3, impl_EulerProduct_b3, e, e2, e3]
theorem ep_f {a : List Int} {i : Int} (hi : 0 ≤ i) (hl : a.length ≤ 8) {x0 : List Int} (hx0 : x0.length = a.length + 1) {x1 : List Int} : Tot (loopO (impl_EulerProduct_b3 (x1, i)) (x0, (a.length : Int))) fun y => y.length = a.length + 1 := by
 refine Tot.loop (fun x => x.1.length = a.length + 1 ∧ x.2 ≤ (a.length : Int) ∧ -1 ≤ x.2) (fun x => (x.2 + 1).toNat) (fun x ⟨xl, x2, x3⟩ => ?_) _ ⟨hx0, Int.le_refl _, by show -1 ≤ (a.length : Int); omega⟩
 obtain ⟨o, d⟩ := x
 simp only at xl x2 x3
 unfold impl_EulerProduct_b3
 refine Tot.ite (fun hd => ?_) (fun hd => Tot.inr xl)
 have hd' : d > i := of_decide_eq_true hd
 have e1 : w64 (w64 (d - i) - 1) = d - i - 1 := by rw [w64_id (n := d - i) (by omega) (by omega), w64_id (by omega) (by omega)]
 have e2 : w64 (d - 1) = d - 1 := w64_id (by omega) (by omega)
 simp only [e1, e2]
 exact Tot.idx (by omega) (by omega) fun _ _ => Tot.idx (by omega) (by omega) fun _ _ => Tot.inl ⟨⟨by simp [xl], by show d - 1 ≤ _; omega, by show -1 ≤ d - 1; omega⟩, by show (d - 1 + 1).toNat < (d + 1).toNat; omega⟩
theorem ep_c {a : List Int} {i : Int} (hi : 0 ≤ i) (hi2 : i ≤ 8) (hl : a.length ≤ 8) {x1 : List Int} (v : Int) (v1 : v ≤ 100) : ∀ (m : Nat) {x0 : List Int}, x0.length = a.length + 1 → (m : Int) ≤ v → ∃ y : List Int, y.length = a.length + 1 ∧
  loopO (impl_EulerProduct_b2 a (x1, i) v) (x0, v - m) = some y ∧ loopO (spec_EulerProduct_b2 a (x1, i)) (x0, (m : Int)) = some y
 | 0, x0, h0, hm => by
  refine ⟨x0, h0, ?_, ?_⟩
  ·rw [ysa]
   have : ¬ (v - ((0 : Nat) : Int) < v) := by omega
   simp only [impl_EulerProduct_b2, this, decide_false, Bool.false_eq_true, if_false]
  ·rw [ysa]
   simp [spec_EulerProduct_b2]
 | m + 1, x0, h0, hm => by
  obtain ⟨y, e, hy⟩ := ep_f (x1 := x1) hi hl h0
  obtain ⟨z, hz, e1, e2⟩ := ep_c hi hi2 hl (x1 := x1) v v1 m hy (by omega)
  refine ⟨z, hz, ?_, ?_⟩
  ·rw [ysa]
   have : v - ((m + 1 : Nat) : Int) < v := by omega
   have hw : w64 (v - ((m + 1 : Nat) : Int) + 1) = v - m := by rw [w64_id (by omega) (by omega)]; omega
   simp only [impl_EulerProduct_b2, this, decide_true, if_true, e, Option.bind_some, impl_EulerProduct_k3, hw]
   exact e1
  ·rw [ysa]
   have : ((m + 1 : Nat) : Int) > 0 := by omega
   have hw : w64 (((m + 1 : Nat) : Int) - 1) = m := by rw [w64_id (by omega) (by omega)]; omega
   simp only [spec_EulerProduct_b2, this, decide_true, if_true, ep_b3 (x1, i) ⟨by show _ ≤ i + 1; omega, by show i + 1 ≤ _; omega⟩, e, Option.bind_some, spec_EulerProduct_k3, hw]
   exact e2
def epAsk (a : List Int) : Bool := inB 1 8 a.length && a.all (inB 0 100)
theorem ep_all {a : List Int} (ha : epAsk a = true) : ∀ (m i : Nat), i + m = a.length → ∀ (x0 : List Int), x0.length = a.length + 1 → ∃ y : List Int, y.length = a.length + 1 ∧
  loopO (impl_EulerProduct_b1 a) (x0, (i : Int)) = some y ∧ loopO (spec_EulerProduct_b1 a) (x0, (i : Int)) = some y := by
 simp only [epAsk, Bool.and_eq_true, inB_iff, List.all_eq_true] at ha
 obtain ⟨⟨l1, l8⟩, hv⟩ := ha
 intro m
 induction m with
 | zero =>
  intro i hi x0 h0
  have : ¬ (i : Int) < (a.length : Int) := by omega
  refine ⟨x0, h0, ?_, ?_⟩
  ·rw [ysa]; simp only [impl_EulerProduct_b1, this, decide_false, Bool.false_eq_true, if_false]
  ·rw [ysa]; simp only [spec_EulerProduct_b1, this, decide_false, Bool.false_eq_true, if_false]
 | succ m ih =>
  intro i hi x0 h0
  have hlt : i < a.length := by omega
  have hvi := hv a[i] (List.getElem_mem hlt)
  obtain ⟨c, hc⟩ := Int.eq_ofNat_of_zero_le hvi.1
  obtain ⟨y, hy, e1, e2⟩ := ep_c (a := a) (i := (i : Int)) (by omega) (by omega) (by omega) (x1 := x0) a[i] (by omega) c h0 (by omega)
  obtain ⟨z, hz, e3, e4⟩ := ih (i + 1) (by omega) y hy
  rw [show a[i] - (c : Int) = 0 by omega] at e1
  rw [← hc] at e2
  refine ⟨z, hz, ?_, ?_⟩
  ·rw [ysa]
   simp only [impl_EulerProduct_b1, show ((i : Int) < (a.length : Int)) from by omega, decide_true, if_true, idxO_lt hlt, Option.bind_some, e1, impl_EulerProduct_k2, w64_nat (show i < 9223372036854775807 by omega)]
   exact e3
  ·rw [ysa]
   simp only [spec_EulerProduct_b1, show ((i : Int) < (a.length : Int)) from by omega, decide_true, if_true, idxO_lt hlt, Option.bind_some, e2, spec_EulerProduct_k2, w64_nat (show i < 9223372036854775807 by omega)]
   exact e4
theorem yre (a : List Int) (hl : a.length ≤ 4611686018427387904) : ∃ r, r.1.length ≤ 9 ∧ spec_EulerProduct a = some r ∧ impl_EulerProduct a = some r := by
 have pre1 : spec_EulerProduct a = if epAsk a = true then (loopO (spec_EulerProduct_b1 a) ((List.replicate (a.length + 1) (0 : Int)).set 0 1, 0)).bind fun y11 => spec_EulerProduct_k1 y11 else some ([], false) := by
  unfold spec_EulerProduct epAsk
  rw [yhb, Option.bind_some]
  cases h1 : inB 1 8 (a.length : Int)
  ·rfl
  ·have := inB_iff.1 h1
   simp only [Bool.not_true, Bool.false_eq_true, if_false, ylb a _ _ hl, Option.bind_some, Bool.true_and]
   cases a.all (inB 0 100)
   ·rfl
   ·simp only [Bool.not_true, Bool.false_eq_true, if_false, if_true, w64_id (n := (a.length : Int) + 1) (by omega) (by omega)]
    rw [yda (by omega), show (a.length : Int) + 1 = ((a.length + 1 : Nat) : Int) by omega, Int.toNat_natCast, rep_tab, show (0 : Int) = ((0 : Nat) : Int) from rfl, yga (by omega)]
    rfl
 have pre2 : impl_EulerProduct a = if epAsk a = true then (loopO (impl_EulerProduct_b1 a) ((List.replicate (a.length + 1) (0 : Int)).set 0 1, 0)).bind fun y11 => impl_EulerProduct_k1 y11 else some ([], false) := by
  unfold impl_EulerProduct epAsk
  rw [yha, Option.bind_some]
  cases h1 : inB 1 8 (a.length : Int)
  ·rfl
  ·have := inB_iff.1 h1
   have hc := yfa a (fun x0 => impl_EulerProduct_1 x0) (fun x => !inB 0 100 x) (fun x => by simp [impl_EulerProduct_1, yha]) hl
   simp only [Bool.not_true, Bool.false_eq_true, if_false, hc, List.any_eq_not_all_not, Bool.not_not, Option.bind_some, Bool.true_and]
   cases a.all (inB 0 100)
   ·rfl
   ·simp only [Bool.not_true, Bool.false_eq_true, if_false, if_true, w64_id (n := (a.length : Int) + 1) (by omega) (by omega)]
    rw [yda (by omega), show (a.length : Int) + 1 = ((a.length + 1 : Nat) : Int) by omega, Int.toNat_natCast, rep_tab, show (0 : Int) = ((0 : Nat) : Int) from rfl, yga (by omega)]
    rfl
 rw [pre1, pre2]
 cases ha : epAsk a
 ·exact ⟨([], false), by simp, rfl, rfl⟩
 ·obtain ⟨y, hy, e1, e2⟩ := ep_all ha a.length 0 (by omega) ((List.replicate (a.length + 1) (0 : Int)).set 0 1) (by simp)
  have h8 : a.length ≤ 8 := by
   simp only [epAsk, Bool.and_eq_true, inB_iff] at ha; omega
  have e1' : loopO (impl_EulerProduct_b1 a) ((List.replicate (a.length + 1) (0 : Int)).set 0 1, 0) = some y := e1
  have e2' : loopO (spec_EulerProduct_b1 a) ((List.replicate (a.length + 1) (0 : Int)).set 0 1, 0) = some y := e2
  have hc := yfa y (fun x0 => impl_EulerProduct_2 x0) (fun x => !inB (-1000000) 1000000 x) (fun x => by simp [impl_EulerProduct_2, yha]) (by omega)
  simp only [if_true, e1', e2', Option.bind_some, spec_EulerProduct_k1, impl_EulerProduct_k1, ylb y _ _ (by omega), hc, List.any_eq_not_all_not, Bool.not_not]
  cases y.all (inB (-1000000) 1000000)
  ·exact ⟨([], false), by simp, rfl, rfl⟩
  ·exact ⟨(y, true), by show y.length ≤ 9; omega, rfl, rfl⟩
end Go.PV

/-
 Plain laws: numbers of cycles divide; Euler products and power sums, and what they are.
 Conditions: none.
-/
set_option linter.all false
namespace Go.PV
open Ser
section
variable {n : Nat} {A : Nat → Nat → Int}
def cN (n : Nat) (A : Nat → Nat → Int) (d : Nat) : Nat := (Int.tdiv (cyN (cw n A) d) (d : Int)).toNat
theorem euP_cw {m j : Nat} (hG : ∀ d, 1 ≤ d → d ≤ m → (d : Int) * (cN n A d : Int) = cyN (cw n A) d) (h1 : 1 ≤ j) (h2 : j ≤ 12) : (j ≤ m → (euP (cN n A) m).at' j = cw n A j) ∧ (j = m + 1 → (euP (cN n A) m).at' j = cw n A j - cyN (cw n A) j) := by
 have hinv := cy_inv (cw n A) h1 h2
 have hsum : ∀ q, q ≤ m + 1 → (sm q fun d => if j % d = 0 then (d : Int) * (cN n A d : Int) else 0) = sm q fun e => if j % e = 0 then cyN (cw n A) e else 0 := fun q hq => sm_ext fun d hd => by
  by_cases h0 : d = 0
  ·subst h0
   rw [Nat.mod_zero, if_neg (by omega), if_neg (by omega)]
  ·split
   ·exact hG d (by omega) (by omega)
   ·rfl
 refine ⟨fun hjm => ?_, fun hjm => ?_⟩
 ·rw [euP_at _ h1, hsum (m + 1) (Nat.le_refl _)]
  have : ∀ q, (sm (j + 1 + q) fun e => if j % e = 0 then cyN (cw n A) e else 0) = sm (j + 1) fun e => if j % e = 0 then cyN (cw n A) e else 0 := by
   intro q
   induction q with
   | zero => rfl
   | succ q ih =>
    rw [← Nat.add_assoc, sm_succ, ih, Nat.mod_eq_of_lt (show j < j + 1 + q by omega), if_neg (by omega)]
    omega
  have e : m + 1 = j + 1 + (m - j) := by omega
  rw [e, this, sm_succ, Nat.mod_self, if_pos rfl]
  exact hinv
 ·rw [euP_at _ h1, hsum (m + 1) (Nat.le_refl _), ← hjm]
  omega
theorem cyc_all (hA : ∀ i j, i < n → j < n → 0 ≤ A i j) : ∀ m : Nat, m ≤ 12 → ∀ d : Nat, 1 ≤ d → d ≤ m → (d : Int) * (cN n A d : Int) = cyN (cw n A) d
 | 0, _, d, h1, h2 => by omega
 | m + 1, hm, d, h1, h2 => by
  have ih := cyc_all hA m (by omega)
  by_cases hd : d ≤ m
  ·exact ih d h1 hd
  ·obtain rfl : d = m + 1 := by omega
   have a := eu_sum (cN n A) m (m + 1)
   have b := yyd (n := n) (A := A) (m + 1)
   have hag : ∀ k, k ≤ m → (eu (cN n A) m).at' k = ec n A k := eu_ec fun j j1 j2 => (euP_cw ih j1 (by omega)).1 j2
   rw [yig] at a b
   rw [sm_ext (g := fun j => ec n A (j + 1) * cw n A (m + 1 - (j + 1))) fun j hj => by rw [hag (j + 1) (by omega), (euP_cw ih (show 1 ≤ m + 1 - (j + 1) by omega) (by omega)).1 (by omega)], eu_zero, Nat.sub_zero, (euP_cw ih (show 1 ≤ m + 1 by omega) hm).2 rfl] at a
   rw [ec_zero, Nat.sub_zero] at b
   have hdv : ((m + 1 : Nat) : Int) ∣ cyN (cw n A) (m + 1) := ⟨(eu (cN n A) m).at' (m + 1) - ec n A (m + 1), by rw [Int.mul_sub]; omega⟩
   have h0 := yae hA h1 hm
   unfold cN
   rw [Int.toNat_of_nonneg (Int.tdiv_nonneg h0 (by omega)), Int.mul_tdiv_cancel' hdv]
theorem cyc_sum (hA : ∀ i j, i < n → j < n → 0 ≤ A i j) {j : Nat} (h1 : 1 ≤ j) (h2 : j ≤ 12) : (sm (j + 1) fun d => if j % d = 0 then (d : Int) * (cN n A d : Int) else 0) = cw n A j := by
 rw [← euP_at _ h1]
 exact (euP_cw (fun d d1 d2 => cyc_all hA 12 (Nat.le_refl _) d d1 (by omega)) h1 h2).1 (Nat.le_refl j)
theorem euler (hA : ∀ i j, i < n → j < n → 0 ≤ A i j) {m : Nat} (hm : m ≤ 12) : ∀ k, k ≤ m → (eu (cN n A) m).at' k = ec n A k :=
 eu_ec fun j j1 j2 => (euP_cw (fun d d1 d2 => cyc_all hA 12 (Nat.le_refl _) d d1 (by omega)) j1 (by omega)).1 j2
theorem mm_pw (d : Nat) {i j : Nat} (hi : i < n) (hj : j < n) : mmN n A (pw n A d) i j = pw n A (d + 1) i j := by
 rw [Nat.add_comm d 1, pw_add 1 hi d j hj]
 exact sm_ext fun l _ => by rw [pw_one hi]
theorem fa_ec : ∀ k, (faM n A k).1 = ec n A k ∧ ∀ i j, i < n → j < n → (faM n A k).2 i j = sm k fun m => ec n A m * pw n A (k - m) i j
 | 0 => ⟨by rw [ec_zero]; rfl, fun i j _ _ => rfl⟩
 | k + 1 => by
  obtain ⟨ih1, ih2⟩ := fa_ec k
  have h2 : ∀ i j, i < n → j < n → (faM n A (k + 1)).2 i j = sm (k + 1) fun m => ec n A m * pw n A (k + 1 - m) i j := by
   intro i j hi hj
   show mmN n A (addI (faM n A k).2 (faM n A k).1) i j = _
   have e1 : mmN n A (addI (faM n A k).2 (faM n A k).1) i j = mmN n A (fun l j => sm (k + 1) fun m => ec n A m * pw n A (k - m) l j) i j := mmN_ext fun l hl => by
    simp only [addI]
    rw [ih1, ih2 l j hl hj, sm_succ, Nat.sub_self]
    congr 1
    show _ = ec n A k * (if l = j then 1 else 0)
    split <;> simp
   rw [e1]
   unfold mmN
   rw [sm_ext (g := fun l => sm (k + 1) fun m => ec n A m * (A i l * pw n A (k - m) l j)) fun l _ => by rw [← sm_mul]; exact sm_ext fun m _ => by rw [Int.mul_left_comm], sm_swap]
   refine sm_ext fun m hm => ?_
   rw [sm_mul]
   congr 1
   have := mm_pw (n := n) (A := A) (k - m) hi hj
   rw [show k + 1 - m = k - m + 1 by omega]
   exact this
  refine ⟨?_, h2⟩
  have ht : tr n (faM n A (k + 1)).2 = sm (k + 1) fun m => ec n A m * cw n A (k + 1 - m) := by
   unfold tr
   rw [sm_ext fun i hi => h2 i i hi hi, sm_swap]
   exact sm_ext fun m _ => by rw [sm_mul]; rfl
  have hn := yyd (n := n) (A := A) (k + 1)
  show Int.tdiv (0 - tr n (faM n A (k + 1)).2) ((k + 1 : Nat) : Int) = _
  rw [ht, show (0 - sm (k + 1) fun m => ec n A m * cw n A (k + 1 - m)) = ((k + 1 : Nat) : Int) * ec n A (k + 1) by omega, Int.mul_tdiv_cancel_left _ (by omega)]
theorem ch_ec (h1 : 1 ≤ n) (hn : n ≤ 8) (hA : ∀ i j, i < n → j < n → 0 ≤ A i j ∧ A i j ≤ 9) : tab (n + 1) (chN n A n).1 = tab (n + 1) fun i => ec n A (n - i) := by
 rw [ch_fa h1 hn hA]
 exact tab_ext fun i _ => (fa_ec _).1
end
theorem w64_sub' (a b : Int) : w64 (a - w64 b) = w64 (a - b) := by
 obtain ⟨k, e⟩ := ydi b
 rw [e, show a - (b + 18446744073709551616 * k) = a - b + 18446744073709551616 * (-k) by omega, w64_per]
theorem w64_mul (a b : Int) : w64 (a * w64 b) = w64 (a * b) := by
 obtain ⟨k, e⟩ := ydi b
 rw [e, Int.mul_add, show a * (18446744073709551616 * k) = 18446744073709551616 * (a * k) by rw [Int.mul_left_comm], w64_per]
section
variable {m : Nat} (hm : m ≤ 8)
include hm
theorem ep_fac {i : Nat} (hi : i < m) (a x1 : List Int) (ha : a.length = m) (X : Ser) : loopO (impl_EulerProduct_b3 (x1, (i : Int))) (tab (m + 1) (fun j => w64 (X.at' j)), (a.length : Int)) = some (tab (m + 1) fun j => w64 ((fac (i + 1) X).at' j)) := by
 have hx := yia (body := impl_EulerProduct_b3 (x1, (i : Int))) (m - i) (fun k => (tab (m + 1) (fun j => if m - k < j then w64 ((fac (i + 1) X).at' j) else w64 (X.at' j)), ((m - k : Nat) : Int))) (tab (m + 1) fun j => w64 ((fac (i + 1) X).at' j)) (fun k hk => by
  have e1 : w64 (w64 (((m - k : Nat) : Int) - (i : Int)) - 1) = ((m - k - i - 1 : Nat) : Int) := by rw [w64_id (n := ((m - k : Nat) : Int) - (i : Int)) (by omega) (by omega), w64_id (by omega) (by omega)]; omega
  have e2 : w64 (((m - k : Nat) : Int) - 1) = ((m - (k + 1) : Nat) : Int) := by rw [w64_id (by omega) (by omega)]; omega
  simp only [impl_EulerProduct_b3, show (((m - k : Nat) : Int) > (i : Int)) from by omega, decide_true, if_true, yga (show m - k < m + 1 by omega), e1, yga (show m - k - i - 1 < m + 1 by omega), Option.bind_some, e2, Int.toNat_natCast, tab_set (show m - k < m + 1 by omega), Nat.lt_irrefl, if_false, show ¬ (m - k < m - k - i - 1) from by omega]
  congr 3
  refine tab_ext fun j hj => ?_
  rw [w64_sub, w64_sub']
  by_cases h : j = m - k
  ·subst h
   rw [if_pos rfl, if_pos (by omega), fac_at, if_pos (by omega), show m - k - i - 1 = m - k - (i + 1) by omega]
  ·rw [if_neg h]
   by_cases h2 : m - k < j
   ·rw [if_pos h2, if_pos (by omega)]
   ·rw [if_neg h2, if_neg (by omega)]) (by
  simp only [impl_EulerProduct_b3, show ¬ (((m - (m - i) : Nat) : Int) > (i : Int)) from by omega, decide_false, Bool.false_eq_true, if_false]
  congr 2
  refine tab_ext fun j hj => ?_
  by_cases h : m - (m - i) < j
  ·rw [if_pos h]
  ·rw [if_neg h, fac_at, if_neg (by omega), Int.sub_zero])
 have e0 : (tab (m + 1) (fun j => if m - 0 < j then w64 ((fac (i + 1) X).at' j) else w64 (X.at' j)), ((m - 0 : Nat) : Int)) = (tab (m + 1) (fun j => w64 (X.at' j)), (a.length : Int)) := by
  rw [ha]
  congr 1
  exact tab_ext fun j hj => by rw [if_neg (by omega)]
 rw [← e0]
 exact hx
theorem ep_facs {i : Nat} (hi : i < m) (a x1 : List Int) (ha : a.length = m) (v : Nat) (v1 : v ≤ 100) : ∀ (c : Nat) (X : Ser), c ≤ v → loopO (impl_EulerProduct_b2 a (x1, (i : Int)) (v : Int)) (tab (m + 1) (fun j => w64 (X.at' j)), ((v - c : Nat) : Int)) = some (tab (m + 1) fun j => w64 ((facs (i + 1) c X).at' j))
 | 0, X, _ => by
  rw [ysa]
  have : ¬ (((v - 0 : Nat) : Int) < (v : Int)) := by omega
  simp only [impl_EulerProduct_b2, this, decide_false, Bool.false_eq_true, if_false]
  rfl
 | c + 1, X, hc => by
  rw [ysa]
  have hw : w64 (((v - (c + 1) : Nat) : Int) + 1) = ((v - c : Nat) : Int) := by rw [w64_id (by omega) (by omega)]; omega
  simp only [impl_EulerProduct_b2, show (((v - (c + 1) : Nat) : Int) < (v : Int)) from by omega, decide_true, if_true, ep_fac hm hi a x1 ha, Option.bind_some, impl_EulerProduct_k3, hw]
  exact ep_facs hi a x1 ha v v1 c (fac (i + 1) X) (by omega)
theorem ep_eu {c : Nat → Nat} (hc : ∀ d, 1 ≤ d → d ≤ m → c d ≤ 100) : loopO (impl_EulerProduct_b1 (tab m fun i => (c (i + 1) : Int))) (tab (m + 1) (fun j => w64 ((Ser.C 1).at' j)), 0) = some (tab (m + 1) fun j => w64 ((eu c m).at' j)) := by
 have hx := yia (body := impl_EulerProduct_b1 (tab m fun i => (c (i + 1) : Int))) m (fun i => (tab (m + 1) (fun j => w64 ((eu c i).at' j)), (i : Int))) (tab (m + 1) fun j => w64 ((eu c m).at' j)) (fun i hi => by
  have := ep_facs hm hi (tab m fun i => (c (i + 1) : Int)) (tab (m + 1) (fun j => w64 ((eu c i).at' j))) (tab_len _ _) (c (i + 1)) (hc _ (by omega) (by omega)) (c (i + 1)) (eu c i) (Nat.le_refl _)
  rw [Nat.sub_self] at this
  have h' : loopO (impl_EulerProduct_b2 (tab m fun i => (c (i + 1) : Int)) (tab (m + 1) (fun j => w64 ((eu c i).at' j)), (i : Int)) (c (i + 1) : Int)) (tab (m + 1) (fun j => w64 ((eu c i).at' j)), 0) = some (tab (m + 1) fun j => w64 ((facs (i + 1) (c (i + 1)) (eu c i)).at' j)) := this
  simp only [impl_EulerProduct_b1, tab_len, show ((i : Int) < (m : Int)) from by omega, decide_true, if_true, yga hi, Option.bind_some, h', impl_EulerProduct_k2, w64_nat (show i < 9223372036854775807 by omega)]
  rfl) (by
  simp only [impl_EulerProduct_b1, tab_len, Int.lt_irrefl, decide_false, Bool.false_eq_true, if_false])
 exact hx
theorem ep_val (h1 : 1 ≤ m) (c : Nat → Nat) : ∃ r, r.1.length ≤ 9 ∧ spec_EulerProduct (tab m fun i => (c (i + 1) : Int)) = some r ∧ impl_EulerProduct (tab m fun i => (c (i + 1) : Int)) = some r ∧ (r.2 = true → r.1 = tab (m + 1) fun j => w64 ((eu c m).at' j)) := by
 obtain ⟨r, e0, e1, e2⟩ := yre (tab m fun i => (c (i + 1) : Int)) (by rw [tab_len]; omega)
 refine ⟨r, e0, e1, e2, fun hr => ?_⟩
 unfold impl_EulerProduct at e2
 have hc := yfa (tab m fun i => (c (i + 1) : Int)) (fun x0 => impl_EulerProduct_1 x0) (fun x => !inB 0 100 x) (fun x => by simp [impl_EulerProduct_1, yha]) (by rw [tab_len]; omega)
 have hin : inB 1 8 ((tab m fun i => (c (i + 1) : Int)).length : Int) = true := inB_iff.2 (by rw [tab_len]; omega)
 rw [yha, Option.bind_some, hin] at e2
 simp only [Bool.not_true, Bool.false_eq_true, if_false, hc, List.any_eq_not_all_not, Bool.not_not, Option.bind_some] at e2
 cases ha : (tab m fun i => (c (i + 1) : Int)).all (inB 0 100)
 ·rw [ha] at e2
  simp at e2
  rw [← e2] at hr; cases hr
 ·rw [ha] at e2
  have hall : ∀ d, 1 ≤ d → d ≤ m → c d ≤ 100 := fun d d1 d2 => by
   have := List.all_eq_true.1 ha (c d : Int) (List.mem_of_getElem? (i := d - 1) (by rw [tab_get (by omega), Nat.sub_add_cancel d1]))
   have := inB_iff.1 this
   omega
  simp only [Bool.not_true, Bool.false_eq_true, if_false, tab_len, w64_id (n := (m : Int) + 1) (by omega) (by omega)] at e2
  have e9 := ep_eu hm hall
  rw [yda (by omega), show (m : Int) + 1 = ((m + 1 : Nat) : Int) by omega, Int.toNat_natCast, rep_tab, show (0 : Int) = ((0 : Nat) : Int) from rfl, yga (by omega), Option.bind_some, Int.toNat_natCast, tab_set (by omega)] at e2
  have e8 : tab (m + 1) (fun j => if j = 0 then (1 : Int) else ((0 : Nat) : Int)) = tab (m + 1) (fun j => w64 ((Ser.C 1).at' j)) := tab_ext fun j _ => by
   cases j with
   | zero => rfl
   | succ j => rfl
  rw [e8] at e2
  have e9' : loopO (impl_EulerProduct_b1 (tab m fun i => (c (i + 1) : Int))) (tab (m + 1) (fun j => w64 ((Ser.C 1).at' j)), ((0 : Nat) : Int)) = some (tab (m + 1) fun j => w64 ((eu c m).at' j)) := e9
  rw [e9', Option.bind_some] at e2
  have hc2 := yfa (tab (m + 1) fun j => w64 ((eu c m).at' j)) (fun x0 => impl_EulerProduct_2 x0) (fun x => !inB (-1000000) 1000000 x) (fun x => by simp [impl_EulerProduct_2, yha]) (by rw [tab_len]; omega)
  unfold impl_EulerProduct_k1 at e2
  rw [hc2, Option.bind_some] at e2
  cases hy : (tab (m + 1) fun j => w64 ((eu c m).at' j)).any (fun x => !inB (-1000000) 1000000 x)
  ·rw [hy] at e2
   simp at e2
   rw [← e2]
  ·rw [hy] at e2
   simp at e2
   rw [← e2] at hr; cases hr
end
end Go.PV

/-
 Plain laws: what draws polynomials and counts always comes to an end.
 Conditions: none.
-/
set_option linter.all false
namespace Go.PV
theorem yse {l : List Int} (h : Bytes l) : Tot (spec_DrawCycleCount l) fun r => Sm r.1 := by
 unfold spec_DrawCycleCount
 refine (yvf (by omega) (ck0 h)).bind fun v ⟨a, h1⟩ => ?_
 refine (yld h1 (by omega) _ (by simp)).bind fun v9 ⟨_, h9⟩ => ?_
 exact (yld h9 (by omega) _ (by simp)).bind fun v10 ⟨_, h10⟩ => Tot.ret a
end Go.PV

/-
 Plain law: the product of a graph and a vector.
 Conditions: none.
-/
set_option linter.all false
namespace Go.PV
end Go.PV

set_option linter.all false
namespace Go.PV
end Go.PV

/-
 Plain laws: maps of the interval.
 Conditions: none.
-/
set_option linter.all false
namespace Go.PV
section
variable {α β : Type}
end
def isMapT (n : Nat) (p : Nat → Pt) : Prop := (∀ i, i < n → coord (p i).1 = true ∧ coord (p i).2 = true) ∧ (∀ i, 0 < i → i < n → less (p (i - 1)).1 (p i).1 = true) ∧ (p 0).1 = (0, 1) ∧ (p (n - 1)).1 = (1, 1)
theorem yui {α : Type} {n : Nat} {p : Nat → α} (h : 0 < n) : idxO (tab n p) 0 = some (p 0) := yga (n := n) (f := p) (i := 0) h
end Go.PV

/-
 Plain laws: the variation of a map.
 Conditions: none.
-/
set_option linter.all false
namespace Go.PV
def sumD (r : Nat → Rt) : Nat → Option Rt
 | 0 => some (0, 1)
 | k + 1 => (sumD r k).bind fun s => (distQ (r k) (r (k + 1))).bind fun d => addQ s d
end Go.PV

/-
 Plain laws: slopes and laps of a map.
 Conditions: none.
-/
set_option linter.all false
namespace Go.PV
structure LowOk (n d : Int) (r : Rt) : Prop where
 eq : lowQ n d = some r
 rat : isRat r = true
 num : r.1.natAbs ≤ n.natAbs
 den : 1 ≤ r.2 ∧ r.2 ≤ d
 pos : 0 < n → 0 < r.1
 neg : n < 0 → r.1 < 0
 zer : n = 0 → r.1 = 0
def small (r : Rt) : Prop := isRat r = true ∧ -500 ≤ r.1 ∧ r.1 ≤ 500 ∧ 1 ≤ r.2 ∧ r.2 ≤ 100
def slopeQ (p q : Pt) : Rt := (((subQ q.2 p.2).bind fun u => (subQ q.1 p.1).bind fun v => divQ u v)).getD (0, 0)
structure SlopeOk (p q : Pt) (u v : Rt) : Prop where
 up : subQ q.2 p.2 = some u
 far : subQ q.1 p.1 = some v
 ru : isRat u = true
 rv : isRat v = true
 div : divQ u v = some (slopeQ p q)
 rs : isRat (slopeQ p q) = true
 ub : u.1.natAbs ≤ 100000 ∧ u.2 ≤ 10000
 vb : v.1.natAbs ≤ 10000 ∧ v.2 ≤ 10000
 vp : 0 < v.1
 sg : (0 < (slopeQ p q).1 ↔ 0 < u.1) ∧ ((slopeQ p q).1 < 0 ↔ u.1 < 0)
section
variable {n : Nat} {p : Nat → Pt}
def slopesT (n : Nat) (p : Nat → Pt) : List Rt := tab (n - 1) fun i => slopeQ (p i) (p (i + 1))
def strictB (n : Nat) (p : Nat → Pt) : Bool := (slopesT n p).all fun s => !(s.1 == 0)
end
end Go.PV

/-
 Plain laws: values of maps and lifts.
 Conditions: none.
-/
set_option linter.all false
namespace Go.PV
structure Curve (n : Nat) (p : Nat → Pt) : Prop where
 lo : 2 ≤ n
 hi : n ≤ 12
 x : ∀ i, i < n → coord (p i).1 = true
 y : ∀ i, i < n → small (p i).2
 up : ∀ i, 0 < i → i < n → less (p (i - 1)).1 (p i).1 = true
 fst : (p 0).1 = (0, 1)
 lst : (p (n - 1)).1 = (1, 1)
def CR (bad : Bool) (o : Option Rt) (v : Rt × Bool) : Prop := isRat v.1 = true ∧ match o with
 | some r => v = (r, bad)
 | none => v.2 = true
section
variable {n : Nat} {p : Nat → Pt}
structure AtJ (n : Nat) (p : Nat → Pt) (x : Rt) (j : Nat) : Prop where
 lt : j < n
 bef : ∀ k, k < j → less (p k).1 x = true
 at' : less (p j).1 x = false
def onQ (p q : Pt) (x : Rt) : Option Rt := (subQ x p.1).bind fun far => (mulQ (slopeQ p q) far).bind fun up => addQ p.2 up
end
end Go.PV

/-
 Plain laws: values of lifts.
 Conditions: none.
-/
set_option linter.all false
namespace Go.PV
structure LiftT (n : Nat) (p : Nat → Pt) : Prop where
 cur : Curve n p
 mono : ∀ i, 0 < i → i < n → less (p i).2 (p (i - 1)).2 = false
 lstY : (p (n - 1)).2 = ((p 0).2.1 + (p 0).2.2, (p 0).2.2)
 by5 : ∀ i, i < n → -5 * (p i).2.2 ≤ (p i).2.1 ∧ (p i).2.1 ≤ 5 * (p i).2.2
def flr (x : Rt) : Int := floorDiv x.1 x.2
def part (x : Rt) : Rt := (x.1 - flr x * x.2, x.2)
structure PartOk (x : Rt) : Prop where
 rat : isRat (part x) = true
 lo : 0 ≤ (part x).1
 hi : (part x).1 < (part x).2
 spec : spec_raFloor x = some (flr x)
 impl : impl_floor x = some (flr x)
 bd : flr x * x.2 ≤ x.1 ∧ x.1 < flr x * x.2 + x.2
section
variable {n : Nat} {p : Nat → Pt}
open Classical in
noncomputable def atQ (n : Nat) (p : Nat → Pt) (x : Rt) : Option Rt := if h : ∃ j, AtJ n p x j then onQ (p (Classical.choose h - 1)) (p (Classical.choose h - 1 + 1)) x else none
noncomputable def liftQ (n : Nat) (p : Nat → Pt) (x : Rt) : Option Rt := (atQ n p (part x)).bind fun y => addQ y (flr x, 1)
end
end Go.PV

/-
 Plain laws: where a lift comes from.
 Conditions: none.
-/
set_option linter.all false
namespace Go.PV
def turnK (y x : Rt) : Int := if less (part x) (part y) = true then flr x - flr y - 1 else flr x - flr y
section
variable {n : Nat} {p : Nat → Pt}
def backQ (q r : Pt) (z : Rt) : Option Rt := (subQ z q.2).bind fun u => (divQ u (slopeQ q r)).bind fun v => addQ q.1 v
structure UpJ (n : Nat) (p : Nat → Pt) (z : Rt) (j : Nat) : Prop where
 pos : 0 < j
 lt : j < n
 bef : ∀ k, k < j → less (p k).2 z = true
 at' : less (p j).2 z = false
structure FlatJ (n : Nat) (p : Nat → Pt) (j : Nat) : Prop where
 pos : 0 < j
 lt : j < n
 same : ∀ k, j < k → k < n → (p (k - 1)).2 = (p k).2
 step : (p (j - 1)).2 ≠ (p j).2
section
variable (h : Curve n p) {z : Rt} (hz : isRat z = true)
include h hz
end
end
end Go.PV

/-
 Plain laws: what fractions stand for.
 Conditions: none.
-/
set_option linter.all false
namespace Go.PV
def val (r : Rt) : Rat := (r.1 : Rat) / (r.2 : Rat)
section
variable {a b r : Rt} (ha : isRat a = true) (hb : isRat b = true)
include ha hb
end
end Go.PV

/-
 Plain law: more steps give bounds that are no worse.
 Conditions: none.
-/
set_option linter.all false
namespace Go.PV
section
variable {n : Nat} {G : Nat → Nat → Int}
def lbd (G : Nat → Nat → Int) (n : Nat) (p q : Int) (v : Nat → Int) : Prop := ∀ i, i < n → p * v i ≤ q * dotN (G i) v n
def ubd (G : Nat → Nat → Int) (n : Nat) (p q : Int) (v : Nat → Int) : Prop := ∀ i, i < n → q * dotN (G i) v n ≤ p * v i
section
variable {v : Nat → Int}
end
end
end Go.PV

/-
 Plain law: growth of drawn graphs.
 Conditions: none.
-/
set_option linter.all false
namespace Go.PV
section
variable {n : Nat} {G : Nat → Nat → Int} {v : Nat → Int}
end
end Go.PV

/-
 Plain law: companion graphs and nilpotent graphs.
 Conditions: none.
-/
set_option linter.all false
namespace Go.PV
theorem yja (xs : List Int) (hl : xs.length ≤ 4611686018427387904) : laws_sameInts xs xs = some true := yjf xs hl
def cgAsk (a : List Int) : Bool := isPol a && (isMon a && (decide (2 ≤ (a.length : Int)) && (a.take (a.length - 1)).all (inB (-9) 0)))
section
variable {n : Nat} {p : Nat → Int}
end
theorem yce (c : List Int) (hc : c.length ≤ 9) : impl_polynomial c = some (if isPoly (trimZ c) = true then (trimZ c, true) else ([], false)) ∧ spec_poIf c = some (if isPoly (trimZ c) = true then (trimZ c, true) else ([], false)) := by
 have l1 := yjg (body := spec_poTrim_b1) (fun x => rfl) c.length c rfl (by omega)
 have l2 := yjg (body := impl_polynomial_b1) (fun x => rfl) c.length c rfl (by omega)
 have hT := yqm c
 have hp : isPol (trimZ c) = isPoly (trimZ c) := by
  unfold isPol
  by_cases h : trimZ c = []
  ·rw [h]; rfl
  ·obtain ⟨x, h1, h2⟩ := yvk c h
   have : (trimZ c).getLastD 0 = x := by rw [List.getLastD_eq_getLast?, h1]; rfl
   rw [this]
   have : (x != 0) = true := by simpa using h2
   rw [this]; simp
 generalize trimZ c = d at l1 l2 hT hp
 have hcl : slices_Clone_Lint_int d = some d := by
  unfold slices_Clone_Lint_int
  rw [yda (by omega)]
 constructor
 ·unfold impl_polynomial
  rw [l2]
  simp only [Option.bind_some, impl_polynomial_k1, hcl, ytb d (by omega), hp]
  cases isPoly d <;> rfl
 ·unfold spec_poIf spec_poTrim
  rw [l1]
  simp only [Option.bind_some, spec_poTrim_k1, spec_l1Own]
  rw [yda (by omega)]
  simp only [Option.bind_some, ybe d (by omega), hp]
  cases isPoly d <;> rfl
theorem yal {n : Nat} {G : Nat → Nat → Int} (h1 : 1 ≤ n) (hn : n ≤ 8) (hG : ∀ i j, i < n → j < n → 0 ≤ G i j ∧ G i j ≤ 9) (hs : sized (mat n n G)) (hg : isGraph (mat n n G) = true) :
  impl_TraceOf (mat n n G) = some (tr n G, true) ∧ 0 ≤ tr n G ∧ tr n G ≤ 72 := by
 have hb := trW_eq hn (M := G) (B := 9) (by decide) (fun i j hi hj => by have := hG i j hi hj; omega) h1
 have h0 : 0 ≤ tr n G := ycd fun i hi => (hG i i hi hi).1
 refine ⟨?_, h0, by omega⟩
 unfold impl_TraceOf
 rw [yka _ hs, hg]
 have e := ync hn hG 1 (by omega)
 rw [cw_one, if_neg (by omega)] at e
 have e' : impl_closedWalks (mat n n G) 1 = some (tr n G, true) := e
 simp only [Option.bind_some, Bool.not_true, Bool.false_eq_true, if_false, e']
end Go.PV

/-
 Plain law: closed walks, characteristic polynomials, numbers of cycles, Euler products.
 Conditions: none.
-/
set_option linter.all false
namespace Go.PV
open Ser
section
variable {n : Nat} {G : Nat → Nat → Int}
theorem sm_cut {f : Nat → Int} {a : Nat} : ∀ q, (∀ i, a ≤ i → f i = 0) → sm (a + q) f = sm a f
 | 0, _ => rfl
 | q + 1, h => by rw [← Nat.add_assoc, sm_succ, sm_cut q h, h (a + q) (by omega)]; omega
theorem ps_in (h1 : 1 ≤ n) (hn : n ≤ 8) {k : Nat} (hk : k < 6) : loopO (impl_PowerSums_b2 (tab (n + 1) fun i => ec n G (n - i)) (tab k (fun j => w64 (cw n G (j + 1))), ((k + 1 : Nat) : Int))) (0, 1) = some (w64 (0 - sm (min k n) fun t => ec n G (t + 1) * cw n G (k - t))) := by
 have ew : w64 (((n + 1 : Nat) : Int) - 1) = (n : Int) := by rw [w64_id (by omega) (by omega)]; omega
 have hx := yia (body := impl_PowerSums_b2 (tab (n + 1) fun i => ec n G (n - i)) (tab k (fun j => w64 (cw n G (j + 1))), ((k + 1 : Nat) : Int))) (min k n) (fun t => (w64 (0 - sm t fun t => ec n G (t + 1) * cw n G (k - t)), ((t + 1 : Nat) : Int))) (w64 (0 - sm (min k n) fun t => ec n G (t + 1) * cw n G (k - t))) (fun t ht => by
  have e1 : w64 ((n : Int) - ((t + 1 : Nat) : Int)) = ((n - (t + 1) : Nat) : Int) := by rw [w64_id (by omega) (by omega)]; omega
  have e2 : w64 (w64 (((k + 1 : Nat) : Int) - ((t + 1 : Nat) : Int)) - 1) = ((k - t - 1 : Nat) : Int) := by rw [w64_id (n := ((k + 1 : Nat) : Int) - ((t + 1 : Nat) : Int)) (by omega) (by omega), w64_id (by omega) (by omega)]; omega
  simp only [impl_PowerSums_b2, tab_len, ew, show (((t + 1 : Nat) : Int) < ((k + 1 : Nat) : Int)) from by omega, show (((t + 1 : Nat) : Int) ≤ (n : Int)) from by omega, decide_true, Bool.and_self, if_true, e1, e2, yga (show n - (t + 1) < n + 1 by omega), yga (show k - t - 1 < k by omega), Option.bind_some, w64_nat (show t + 1 < 9223372036854775807 by omega)]
  rw [w64_mul, w64_sub, w64_sub', sm_succ, show n - (n - (t + 1)) = t + 1 by omega, show k - t - 1 + 1 = k - t by omega]
  congr 4
  omega) (by
  have : ¬ (((min k n + 1 : Nat) : Int) < ((k + 1 : Nat) : Int) ∧ ((min k n + 1 : Nat) : Int) ≤ (n : Int)) := by omega
  have hb : (decide (((min k n + 1 : Nat) : Int) < ((k + 1 : Nat) : Int)) && decide (((min k n + 1 : Nat) : Int) ≤ (n : Int))) = false := by
   rw [← Bool.decide_and]
   exact decide_eq_false this
  simp only [impl_PowerSums_b2, tab_len, ew, hb, Bool.false_eq_true, if_false])
 exact hx
theorem ps_loop (h1 : 1 ≤ n) (hn : n ≤ 8) : Tot (loopO (impl_PowerSums_b1 (tab (n + 1) fun i => ec n G (n - i)) 6) ([], 1)) fun y => match y with | .inl r => r.1 = [] | .inr l => l = tab 6 fun j => w64 (cw n G (j + 1)) := by
 have ew : w64 (((n + 1 : Nat) : Int) - 1) = (n : Int) := by rw [w64_id (by omega) (by omega)]; omega
 refine Tot.loop (fun x => ∃ k : Nat, k ≤ 6 ∧ x = (tab k (fun j => w64 (cw n G (j + 1))), ((k + 1 : Nat) : Int))) (fun x => (14 - x.2).toNat) (fun x ⟨k, hk, hx⟩ => ?_) _ ⟨0, by omega, rfl⟩
 subst hx
 unfold impl_PowerSums_b1
 refine Tot.ite (fun hj => ?_) (fun hj => Tot.inr ?_)
 ·have hj' : ((k + 1 : Nat) : Int) ≤ 6 := of_decide_eq_true hj
  rw [ps_in h1 hn (by omega), Option.bind_some]
  have hN := yyd (n := n) (A := G) (k + 1)
  rw [yig, ec_zero, Nat.sub_zero] at hN
  simp only [Nat.add_sub_add_right] at hN
  have k4 : ∀ z : Int, z = w64 (cw n G (k + 1)) → Tot (impl_PowerSums_k4 (tab k (fun j => w64 (cw n G (j + 1))), ((k + 1 : Nat) : Int)) z) (Lp (fun x' : List Int × Int => (∃ k : Nat, k ≤ 6 ∧ x' = (tab k (fun j => w64 (cw n G (j + 1))), ((k + 1 : Nat) : Int))) ∧ (14 - x'.2).toNat < (14 - ((k + 1 : Nat) : Int)).toNat) (fun y : (List Int × Bool) ⊕ List Int => match y with | .inl r => r.1 = [] | .inr l => l = tab 6 fun j => w64 (cw n G (j + 1)))) := by
   intro z hz
   subst hz
   unfold impl_PowerSums_k4
   rw [yha, Option.bind_some]
   refine Tot.ite (fun _ => Tot.inr rfl) (fun _ => Tot.guard (by simp [tab_len]; omega) ?_)
   unfold impl_PowerSums_k2
   have e3 : w64 (((k + 1 : Nat) : Int) + 1) = ((k + 1 + 1 : Nat) : Int) := w64_nat (by omega)
   rw [e3]
   refine Tot.inl ⟨⟨k + 1, by omega, ?_⟩, by show (14 - ((k + 1 + 1 : Nat) : Int)).toNat < _; omega⟩
   rw [← yac]
  unfold impl_PowerSums_k3
  refine Tot.ite (fun hc => ?_) (fun hc => k4 _ ?_)
  ·have hc' := of_decide_eq_true hc
   rw [tab_len, ew] at hc'
   have hkn : k + 1 ≤ n := by simp only at hc'; omega
   have e1 : w64 ((n : Int) - ((k + 1 : Nat) : Int)) = ((n - (k + 1) : Nat) : Int) := by rw [w64_id (by omega) (by omega)]; omega
   simp only [tab_len, ew, e1, yga (show n - (k + 1) < n + 1 by omega), Option.bind_some]
   refine k4 _ ?_
   rw [w64_sub, w64_sub', show n - (n - (k + 1)) = k + 1 by omega, show min k n = k by omega]
   congr 1
   omega
  ·have hkn : n < k + 1 := by
    rw [tab_len, ew] at hc
    have : ¬ (((k + 1 : Nat) : Int) ≤ (n : Int)) := of_decide_eq_false hc
    omega
   rw [ec_end hkn, Int.mul_zero] at hN
   have hcut : sm k (fun t => ec n G (t + 1) * cw n G (k - t)) = sm (min k n) fun t => ec n G (t + 1) * cw n G (k - t) := by
    have := sm_cut (f := fun t => ec n G (t + 1) * cw n G (k - t)) (a := n) (k - n) fun i hi => by rw [ec_end (by omega), Int.zero_mul]
    rw [show min k n = n by omega, ← this, show n + (k - n) = k by omega]
   rw [← hcut]
   congr 1
   omega
 ·have hj' : ¬ (((k + 1 : Nat) : Int) ≤ 6) := of_decide_eq_false hj
  obtain rfl : k = 6 := by omega
  rfl
theorem ps_val (h1 : 1 ≤ n) (hn : n ≤ 8) : ∃ r, r.1.length ≤ 12 ∧ spec_PowerSums (tab (n + 1) fun i => ec n G (n - i)) 6 = some r ∧ impl_PowerSums (tab (n + 1) fun i => ec n G (n - i)) 6 = some r ∧ (r.1 = [] ∨ r.1 = tab 6 fun j => w64 (cw n G (j + 1))) := by
 obtain ⟨r, e0, e1, e2⟩ := ylg (tab (n + 1) fun i => ec n G (n - i)) 6 (by rw [tab_len]; omega)
 refine ⟨r, e0, e1, e2, ?_⟩
 obtain ⟨y, l1, l2⟩ := ps_loop (G := G) h1 hn
 unfold impl_PowerSums at e2
 rw [l1] at e2
 obtain ⟨v, _, e2⟩ := Option.bind_eq_some_iff.1 e2
 obtain ⟨w, _, e2⟩ := Option.bind_eq_some_iff.1 e2
 cases w
 ·simp only [Bool.false_eq_true, if_false, Option.bind_some] at e2
  cases y with
  | inl p => simp only [Sum.elim_inl, Option.some.injEq] at e2; subst e2; exact .inl l2
  | inr p => simp only [Sum.elim_inr, impl_PowerSums_k1, Option.some.injEq] at e2; subst e2; exact .inr l2
 ·simp only [if_true, Option.some.injEq] at e2
  subst e2; exact .inl rfl
theorem yvi (q : Int → Bool) (h0 : q 0 = true) : ∀ l : List Int, (l.dropWhile (· == 0)).all q = l.all q
 | [] => rfl
 | x :: l => by
  rw [List.dropWhile_cons]
  split
  ·rename_i h
   have : x = 0 := by simpa using h
   subst this
   rw [yvi q h0 l, List.all_cons, h0, Bool.true_and]
  ·rfl
theorem ywi (i : Nat) : ∀ l : List Int, (l.dropWhile (· == 0)).reverse.getD i 0 = l.reverse.getD i 0
 | [] => rfl
 | x :: l => by
  rw [List.dropWhile_cons]
  split
  ·rename_i h
   have : x = 0 := by simpa using h
   subst this
   rw [ywi i l, List.reverse_cons]
   simp only [List.getD_eq_getElem?_getD]
   by_cases hi : i < l.reverse.length
   ·rw [List.getElem?_append_left hi]
   ·rw [List.getElem?_eq_none (by omega), List.getElem?_append_right (by omega)]
    cases hq : i - l.reverse.length with
    | zero => rfl
    | succ q => simp
  ·rfl
theorem ysm (l : List Int) : (l.dropWhile (· == 0)).length ≤ l.length := List.Sublist.length_le (List.dropWhile_sublist _)
def zp (n : Nat) (G : Nat → Nat → Int) : List Int := ((tab (n + 1) fun i => ec n G (n - i)).dropWhile (· == 0)).reverse
theorem zp_get (i : Nat) : (zp n G).getD i 0 = ec n G i := by
 unfold zp
 rw [ywi]
 by_cases hi : i < n + 1
 ·rw [List.getD_eq_getElem?_getD, List.getElem?_reverse (by rw [tab_len]; exact hi), tab_len, tab_get (by omega)]
  show ec n G (n - (n + 1 - 1 - i)) = ec n G i
  congr 1; omega
 ·rw [List.getD_eq_getElem?_getD, List.getElem?_eq_none (by rw [List.length_reverse, tab_len]; omega), ec_end (by omega)]
  rfl
theorem zp_len : (zp n G).length ≤ n + 1 := by
 unfold zp
 rw [List.length_reverse]
 have := ysm (tab (n + 1) fun i => ec n G (n - i))
 rw [tab_len] at this
 exact this
theorem zp_ne : 0 < (zp n G).length := by
 have h := zp_get (n := n) (G := G) 0
 rw [ec_zero] at h
 cases hz : zp n G with
 | nil => rw [hz] at h; cases h
 | cons x t => simp
theorem zp_idx {i : Nat} (hi : i < (zp n G).length) : idxO (zp n G) (i : Int) = some (ec n G i) := by
 rw [yzb, ← zp_get (G := G) i, List.getElem?_eq_getElem hi]
 simp [hi]
theorem zp_trim : trimZ (tab (n + 1) fun i => ec n G (n - i)).reverse = zp n G := by
 unfold trimZ zp
 rw [List.reverse_reverse]
theorem zp_poly (hn : n ≤ 8) : isPoly (zp n G) = isPoly (tab (n + 1) fun i => ec n G (n - i)) := by
 have h1 : ((zp n G).length : Int) ≤ 9 := by have := zp_len (n := n) (G := G); omega
 have h2 : ((tab (n + 1) fun i => ec n G (n - i)).length : Int) ≤ 9 := by rw [tab_len]; omega
 unfold isPoly
 rw [decide_eq_true h1, decide_eq_true h2]
 unfold zp
 rw [List.all_reverse, yvi _ (by decide)]
variable (h1 : 1 ≤ n) (hn : n ≤ 8) (hG : ∀ i j, i < n → j < n → 0 ≤ G i j ∧ G i j ≤ 9)
include h1 hn hG
theorem yto (hs : sized (mat n n G)) (hg : isGraph (mat n n G) = true) : spec_CharacteristicOf (mat n n G) = some (if isPoly (tab (n + 1) fun i => ec n G (n - i)) = true then (tab (n + 1) fun i => ec n G (n - i), true) else ([], false)) ∧ impl_CharacteristicOf (mat n n G) = some (if isPoly (tab (n + 1) fun i => ec n G (n - i)) = true then (tab (n + 1) fun i => ec n G (n - i), true) else ([], false)) := by
 obtain ⟨e1, e2⟩ := yom (n := n) (c := (chN n G n).1) hn (chN_top n (Nat.le_refl n))
 rw [ch_ec h1 hn hG] at e1 e2
 constructor
 ·unfold spec_CharacteristicOf
  rw [yma _ hs, hg]
  simp only [Option.bind_some, Bool.not_true, Bool.false_eq_true, if_false, ykd h1 hn, ch_ec h1 hn hG, e1]
 ·unfold impl_CharacteristicOf
  rw [yka _ hs, hg]
  simp only [Option.bind_some, Bool.not_true, Bool.false_eq_true, if_false, yjd h1 hn, ch_ec h1 hn hG, e2]
theorem ybl (hs : sized (mat n n G)) (hg : isGraph (mat n n G) = true) : spec_ZetaDenominator (mat n n G) = some (if isPoly (tab (n + 1) fun i => ec n G (n - i)) = true then (zp n G, true) else ([], false)) ∧ impl_ZetaDenominator (mat n n G) = some (if isPoly (tab (n + 1) fun i => ec n G (n - i)) = true then (zp n G, true) else ([], false)) := by
 have hl : (tab (n + 1) fun i => ec n G (n - i)).reverse.length ≤ 9 := by rw [List.length_reverse, tab_len]; omega
 obtain ⟨e2, e1⟩ := yce (tab (n + 1) fun i => ec n G (n - i)).reverse hl
 rw [zp_trim, zp_poly hn] at e1 e2
 constructor
 ·unfold spec_ZetaDenominator
  rw [yma _ hs, hg]
  simp only [Option.bind_some, Bool.not_true, Bool.false_eq_true, if_false, ykd h1 hn, ch_ec h1 hn hG, ykg _ (by rw [tab_len]; omega : (tab (n + 1) fun i => ec n G (n - i)).length ≤ 1048576), e1]
 ·unfold impl_ZetaDenominator
  rw [yka _ hs, hg]
  simp only [Option.bind_some, Bool.not_true, Bool.false_eq_true, if_false, yjd h1 hn, ch_ec h1 hn hG, ydd _ (by rw [tab_len]; omega : (tab (n + 1) fun i => ec n G (n - i)).length ≤ 4611686018427387904), e2]
def detV (n : Nat) (G : Nat → Nat → Int) : Int := if (Int.tmod (n : Int) 2 == 1) = true then w64 (0 - ec n G n) else ec n G n
theorem det_val (hs : sized (mat n n G)) (hg : isGraph (mat n n G) = true) : spec_DeterminantOf (mat n n G) = some (detV n G, true) ∧ impl_DeterminantOf (mat n n G) = some (detV n G, true) := by
 have e0 : idxO (tab (n + 1) fun i => ec n G (n - i)) 0 = some (ec n G n) := yui (by omega)
 constructor
 ·unfold spec_DeterminantOf detV
  rw [yma _ hs, hg]
  simp only [Option.bind_some, Bool.not_true, Bool.false_eq_true, if_false, ykd h1 hn, ch_ec h1 hn hG, e0, mat_len]
  split <;> rfl
 ·unfold impl_DeterminantOf detV
  rw [yka _ hs, hg]
  simp only [Option.bind_some, Bool.not_true, Bool.false_eq_true, if_false, yjd h1 hn, ch_ec h1 hn hG, e0, mat_len]
  split <;> rfl
theorem yxi (hs : sized (mat n n G)) (hg : isGraph (mat n n G) = true) : spec_TraceOf (mat n n G) = some (tr n G, true) ∧ impl_TraceOf (mat n n G) = some (tr n G, true) ∧ 0 ≤ tr n G ∧ tr n G ≤ 72 := by
 obtain ⟨e1, e2, e3⟩ := yal h1 hn hG hs hg
 have hb := trW_eq hn (M := G) (B := 9) (by decide) (fun i j hi hj => by have := hG i j hi hj; omega) h1
 refine ⟨?_, e1, e2, e3⟩
 unfold spec_TraceOf
 rw [yma _ hs, hg]
 simp only [Option.bind_some, Bool.not_true, Bool.false_eq_true, if_false, yed hn, hb.1]
theorem yyi (hs : sized (mat n n G)) (hg : isGraph (mat n n G) = true) {k : Nat} (hk : k ≤ 12) : spec_ClosedWalks (mat n n G) (k : Int) = some (if 1000000000 < cw n G k then (0, false) else (cw n G k, true)) ∧ impl_ClosedWalks (mat n n G) (k : Int) = some (if 1000000000 < cw n G k then (0, false) else (cw n G k, true)) := by
 have hin : inB 0 12 (k : Int) = true := inB_iff.2 (by omega)
 constructor
 ·unfold spec_ClosedWalks
  rw [yma _ hs, hg]
  simp only [Option.bind_some, Bool.not_true, Bool.false_eq_true, if_false, spec_grSteps, yhb, hin, ymc hn hG k (show k ≤ 1048576 by omega)]
  by_cases h : 1000000000 < cw n G k
  ·have : capAt (cw n G k) > 1000000000 := by unfold capAt; split <;> omega
   simp [h, this]
  ·have e : capAt (cw n G k) = cw n G k := by unfold capAt; rw [if_neg (by omega)]
   rw [e]
   simp [h]
 ·unfold impl_ClosedWalks impl_isWalk
  rw [yka _ hs, hg]
  simp only [Option.bind_some, if_true, yha, hin, Bool.not_true, Bool.false_eq_true, if_false, ync hn hG k (show k ≤ 1048576 by omega)]
end
end Go.PV

/-
 Plain law: FnZeta.
 Conditions: none.
-/
set_option linter.all false
namespace Go.PV
open Ser
theorem yuo {α : Type} (f : Nat → α) {m k : Nat} (h : m ≤ k) : (tab k f).take m = tab m f := by
 apply List.ext_getElem?
 intro i
 rw [List.getElem?_take]
 by_cases hi : i < m
 ·rw [if_pos hi, tab_get (by omega), tab_get hi]
 ·rw [if_neg hi, List.getElem?_eq_none (by rw [tab_len]; omega)]
theorem ylf {body : Int → Option (Int ⊕ (Bool ⊕ Unit))} (N : Nat) (h1 : ∀ i : Nat, i < N → body (i : Int) = some (.inl ((i + 1 : Nat) : Int))) (h2 : body (N : Int) = some (.inr (.inr ()))) : loopO body 0 = some (.inr ()) :=
 yia (body := body) N (fun i => (i : Int)) (.inr ()) h1 h2
theorem ytm {body : Int → Option (Int ⊕ (Bool ⊕ Unit))} (N : Nat) (h1 : ∀ i : Nat, i < N → body ((i + 1 : Nat) : Int) = some (.inl ((i + 1 + 1 : Nat) : Int))) (h2 : body ((N + 1 : Nat) : Int) = some (.inr (.inr ()))) : loopO body 1 = some (.inr ()) :=
 yia (body := body) N (fun i => ((i + 1 : Nat) : Int)) (.inr ()) h1 h2
section
variable {n : Nat} {G : Nat → Nat → Int} (h1 : 1 ≤ n) (hn : n ≤ 8) (hG : ∀ i j, i < n → j < n → 0 ≤ G i j ∧ G i j ≤ 9) (hs : sized (mat n n G)) (hg : isGraph (mat n n G) = true)
include h1 hn hG hs hg
theorem zT_cN {i : Nat} (hi : i + 1 ≤ 12) : zT n G i = (cN n G (i + 1) : Int) := by
 unfold zT cN
 rw [Int.toNat_of_nonneg (Int.tdiv_nonneg (yae (fun i j hi hj => (hG i j hi hj).1) (by omega) hi) (by omega))]
theorem yvo {q k : Nat} (hk : k < q) (hq : q ≤ 12) (hc : cw n G (k + 1) ≤ 1000000000) (b : Bool) : loopO (laws_FnZeta_b3 (tab q (zT n G), b) ((k + 1 : Nat) : Int)) (0, 1) = some (cw n G (k + 1)) := by
 have hx := yia (body := laws_FnZeta_b3 (tab q (zT n G), b) ((k + 1 : Nat) : Int)) (k + 1) (fun t => (w64 (sm (t + 1) fun d => if (k + 1) % d = 0 then (d : Int) * (cN n G d : Int) else 0), ((t + 1 : Nat) : Int))) (cw n G (k + 1)) (fun t ht => by
  have e1 : w64 (((t + 1 : Nat) : Int) - 1) = (t : Int) := by rw [w64_id (by omega) (by omega)]; omega
  have e2 : Int.tmod ((k + 1 : Nat) : Int) ((t + 1 : Nat) : Int) = (((k + 1) % (t + 1) : Nat) : Int) := rfl
  simp only [laws_FnZeta_b3, show (((t + 1 : Nat) : Int) ≤ ((k + 1 : Nat) : Int)) from by omega, decide_true, if_true, e1, e2, yga (show t < q by omega), Option.bind_some, w64_nat (show t + 1 < 9223372036854775807 by omega)]
  rw [yda (by omega), zT_cN h1 hn hG hs hg (by omega), sm_succ (t + 1) (fun d => if (k + 1) % d = 0 then (d : Int) * (cN n G d : Int) else 0)]
  by_cases hd : (k + 1) % (t + 1) = 0
  ·rw [if_pos (by rw [hd]; rfl), if_pos hd, w64_add, Int.add_comm, w64_add, Int.add_comm]
  ·have : ((((k + 1) % (t + 1) : Nat) : Int) == 0) = false := by rw [beq_eq_false_iff_ne]; exact fun h => hd (by exact_mod_cast h)
   rw [this, if_neg hd]
   simp only [Bool.false_eq_true, if_false, Int.add_zero]) (by
  have e := cyc_sum (n := n) (A := G) (fun i j hi hj => (hG i j hi hj).1) (show 1 ≤ k + 1 by omega) (show k + 1 ≤ 12 by omega)
  have e0 := cw_ge hn hG (k + 1)
  simp only [laws_FnZeta_b3, show ¬ (((k + 1 + 1 : Nat) : Int) ≤ ((k + 1 : Nat) : Int)) from by omega, decide_false, Bool.false_eq_true, if_false, e]
  rw [w64_id (by omega) (by omega)])
 have e0 : w64 (sm (0 + 1) fun d => if (k + 1) % d = 0 then (d : Int) * (cN n G d : Int) else 0) = 0 := by
  rw [sm_succ, sm_zero, Nat.mod_zero, if_neg (by omega)]; rfl
 rw [e0] at hx
 exact hx
theorem yum {k : Nat} (hk : k + 1 ≤ 12) (hc : cw n G (k + 1) ≤ 1000000000) : impl_CycleCount (mat n n G) ((k + 1 : Nat) : Int) = some (zT n G k, true) := by
 unfold impl_CycleCount impl_isLength
 have hin : inB 1 12 ((k + 1 : Nat) : Int) = true := inB_iff.2 (by omega)
 rw [yka _ hs, hg]
 simp only [Option.bind_some, if_true, yha, hin, Bool.not_true, Bool.false_eq_true, if_false, yib hn hG (show 1 ≤ k + 1 by omega) hk]
 rw [if_neg (by omega)]
 rfl
theorem zeta_k2 {m : Nat} (m1 : 1 ≤ m) (m8 : m ≤ 8) (q : Int) : laws_FnZeta_k4 (mat n n G, q) (tab m (zT n G)) = some true := by
 have et : tab m (zT n G) = tab m fun i => (cN n G (i + 1) : Int) := tab_ext fun i hi => zT_cN h1 hn hG hs hg (by omega)
 obtain ⟨r, r0, r1, r2, r3⟩ := ep_val m8 m1 (cN n G)
 obtain ⟨z1, z2⟩ := ybl h1 hn hG hs hg
 unfold laws_FnZeta_k4
 rw [et, r1, r2, z1, z2]
 simp only [Option.bind_some, beq_self_eq_true, Bool.not_true, Bool.false_eq_true, if_false, yja r.1 (by omega)]
 have hz9 : (if isPoly (tab (n + 1) fun i => ec n G (n - i)) = true then (zp n G, true) else ([], false)).1.length ≤ 9 := by
  split
  ·have := zp_len (n := n) (G := G); show (zp n G).length ≤ 9; omega
  ·simp
 rw [yja _ (by omega)]
 simp only [Option.bind_some, Bool.not_true, Bool.false_eq_true, if_false]
 have hloop : loopO (laws_FnZeta_b1 r (if isPoly (tab (n + 1) fun i => ec n G (n - i)) = true then (zp n G, true) else ([], false))) 0 = some (.inr ()) := by
  cases hr : r.2
  ·refine ylf 0 (fun i hi => by omega) ?_
   simp only [laws_FnZeta_b1, hr, Bool.false_and, Bool.false_eq_true, if_false]
  ·cases hp : isPoly (tab (n + 1) fun i => ec n G (n - i))
   ·refine ylf 0 (fun i hi => by omega) ?_
    simp only [laws_FnZeta_b1, hr, Bool.false_and, Bool.and_false, Bool.false_eq_true, if_false]
   ·simp only [if_true]
    have er := r3 hr
    have hlen : r.1.length = m + 1 := by rw [er, tab_len]
    have heu := euler (n := n) (A := G) (fun i j hi hj => (hG i j hi hj).1) (show m ≤ 12 by omega)
    have hz : ∀ i, i < (zp n G).length → -1000000 ≤ ec n G i ∧ ec n G i ≤ 1000000 := fun i hi => by
     have hp2 := zp_poly (G := G) hn
     rw [hp] at hp2
     simp only [isPoly, Bool.and_eq_true, List.all_eq_true] at hp2
     have h3 := zp_idx (n := n) (G := G) hi
     rw [yzb] at h3
     exact inB_iff.1 (hp2.2 _ (List.mem_of_getElem? h3))
    refine ylf (m + 1) (fun i hi => ?_) ?_
    ·have ew : w64 (ec n G i) = (if (i : Int) < ((zp n G).length : Int) then ec n G i else 0) := by
      split
      ·have := hz i (by omega)
       exact w64_id (by omega) (by omega)
      ·rename_i h
       have := zp_get (n := n) (G := G) i
       rw [List.getD_eq_getElem?_getD, List.getElem?_eq_none (by omega)] at this
       rw [← this]; rfl
     have ei : idxO r.1 (i : Int) = some (w64 (ec n G i)) := by rw [er, yga hi, heu i (by omega)]
     simp only [laws_FnZeta_b1, hr, hlen, show ((i : Int) < ((m + 1 : Nat) : Int)) from by omega, decide_true, Bool.and_self, if_true, laws_FnZeta_k5, ei, Option.bind_some]
     by_cases hi2 : (i : Int) < ((zp n G).length : Int)
     ·rw [if_pos hi2] at ew
      simp only [hi2, decide_true, if_true, zp_idx (n := n) (G := G) (show i < (zp n G).length by omega), Option.bind_some, ew, bne_self_eq_false, Bool.false_eq_true, if_false, w64_nat (show i < 9223372036854775807 by omega)]
     ·rw [if_neg hi2] at ew
      simp only [hi2, decide_false, Bool.false_eq_true, if_false, ew, bne_self_eq_false, w64_nat (show i < 9223372036854775807 by omega)]
    ·simp only [laws_FnZeta_b1, hr, hlen, Int.lt_irrefl, decide_false, Bool.and_false, Bool.false_eq_true, if_false]
 rw [hloop]
 rfl
end
theorem zeta_k1 (a1 : List Int) (h : Bytes a1) : laws_FnZeta_k1 a1 () = some true := by
 unfold laws_FnZeta_k1
 obtain ⟨v, e1, hv⟩ := yse h
 unfold spec_DrawCycleTable
 rw [e1]
 simp only [Option.bind_some]
 rcases ynm v.1 v.2 hv.sized with ⟨e2, e3⟩ | ⟨n, G, k, h1, hn, eg, hG, hg, ek, k1, k12, hq, e2, e3⟩
 ·rw [e2, e3]
  simp only [Option.bind_some, beq_self_eq_true, Bool.not_true, Bool.false_eq_true, if_false, yja [] (by simp)]
  rfl
 ·rw [e2, e3]
  have hs : sized (mat n n G) := by rw [← eg]; exact hv.sized
  have hg' : isGraph (mat n n G) = true := by rw [← eg]; exact hg
  obtain ⟨g, q⟩ := v
  simp only at eg ek
  subst eg ek
  simp only [Option.bind_some, beq_self_eq_true, Bool.not_true, Bool.false_eq_true, if_false, if_true, yja (tab k (zT n G)) (by rw [tab_len]; omega)]
  have hloop : loopO (laws_FnZeta_b2 (mat n n G, (k : Int)) (tab k (zT n G), true)) 1 = some (.inr ()) := by
   refine ytm k (fun i hi => ?_) ?_
   ·have hc := hq (i + 1) (by omega) (by omega)
    obtain ⟨_, w2⟩ := yyi h1 hn hG hs hg' (show i + 1 ≤ 12 by omega)
    rw [if_neg (by omega)] at w2
    have ew : w64 (((i + 1 : Nat) : Int) - 1) = (i : Int) := by rw [w64_id (by omega) (by omega)]; omega
    simp only [laws_FnZeta_b2, show (((i + 1 : Nat) : Int) ≤ (k : Int)) from by omega, decide_true, if_true, yvo h1 hn hG hs hg' hi k12 hc true, Option.bind_some, laws_FnZeta_k7, w2, yum h1 hn hG hs hg' (show i + 1 ≤ 12 by omega) hc, Bool.not_true, Bool.false_eq_true, if_false, bne_self_eq_false, ew, yga hi, laws_FnZeta_k6, w64_nat (show i + 1 < 9223372036854775807 by omega)]
   ·simp only [laws_FnZeta_b2, show ¬ (((k + 1 : Nat) : Int) ≤ (k : Int)) from by omega, decide_false, Bool.false_eq_true, if_false]
  rw [hloop]
  simp only [Option.bind_some, Sum.elim_inr, laws_FnZeta_k3]
  by_cases h8 : (k : Int) > 8
  ·simp only [h8, decide_true, if_true]
   rw [yda (by rw [tab_len]; omega)]
   have : (tab k (zT n G)).take (Int.toNat 8) = tab 8 (zT n G) := yuo _ (by omega)
   rw [this]
   exact zeta_k2 h1 hn hG hs hg' (by omega) (by omega) _
  ·simp only [h8, decide_false, Bool.false_eq_true, if_false]
   exact zeta_k2 h1 hn hG hs hg' k1 (by omega) _
section
variable {n : Nat} {G : Nat → Nat → Int} (h1 : 1 ≤ n) (hn : n ≤ 8) (hG : ∀ i j, i < n → j < n → 0 ≤ G i j ∧ G i j ≤ 9) (hs : sized (mat n n G)) (hg : isGraph (mat n n G) = true)
include h1 hn hG hs hg
theorem zeta_k9 (a1 : List Int) (h : Bytes a1) : laws_FnZeta_k9 a1 (mat n n G) (tab (n + 1) fun i => ec n G (n - i), true) (tab (n + 1) fun i => ec n G (n - i), true) () = some true := by
 unfold laws_FnZeta_k9
 obtain ⟨r, r0, r1, r2, r3⟩ := ps_val (G := G) h1 hn
 rw [r1, r2]
 simp only [Option.bind_some, beq_self_eq_true, Bool.not_true, Bool.false_eq_true, if_false, yja r.1 (by omega)]
 have hloop : loopO (laws_FnZeta_b4 (mat n n G) r) 0 = some (.inr ()) := by
  refine ylf r.1.length (fun i hi => ?_) ?_
  ·rcases r3 with r3 | r3
   ·rw [r3] at hi; simp at hi
   ·have hlen : r.1.length = 6 := by rw [r3, tab_len]
    have ei : idxO r.1 (i : Int) = some (w64 (cw n G (i + 1))) := by rw [r3]; exact yga (by omega)
    obtain ⟨w1, w2⟩ := yyi h1 hn hG hs hg (show i + 1 ≤ 12 by omega)
    have e0 := cw_ge hn hG (i + 1)
    simp only [laws_FnZeta_b4, show ((i : Int) < (r.1.length : Int)) from by omega, decide_true, if_true, ei, Option.bind_some, w64_nat (show i < 9223372036854775807 by omega), w1, w2, beq_self_eq_true, Bool.not_true, bne_self_eq_false, Bool.false_or]
    by_cases hc : 1000000000 < cw n G (i + 1)
    ·rw [if_pos hc]
     simp only [Bool.false_and, Bool.false_eq_true, if_false]
    ·rw [if_neg hc]
     simp only [Bool.true_and, w64_id (n := cw n G (i + 1)) (by omega) (by omega), bne_self_eq_false, Bool.false_eq_true, if_false]
  ·simp only [laws_FnZeta_b4, Int.lt_irrefl, decide_false, Bool.false_eq_true, if_false]
 rw [hloop]
 simp only [Option.bind_some, Sum.elim_inr]
 exact zeta_k1 a1 h
theorem zeta_k8 (a1 : List Int) (h : Bytes a1) (hp : isPoly (tab (n + 1) fun i => ec n G (n - i)) = true) (x : Int) (hx : w64 (x * ec n G n) = detV n G) :
  laws_FnZeta_k8 a1 (mat n n G) (tab (n + 1) fun i => ec n G (n - i), true) (tab (n + 1) fun i => ec n G (n - i), true) (zp n G, true) (detV n G, true) (tr n G, true) x = some true := by
 obtain ⟨t1, t2, t3, t4⟩ := yxi h1 hn hG hs hg
 have ew : w64 ((n : Int) + 1) = ((n + 1 : Nat) : Int) := by rw [w64_id (by omega) (by omega)]; omega
 have ew2 : w64 ((n : Int) - 1) = ((n - 1 : Nat) : Int) := by rw [w64_id (by omega) (by omega)]; omega
 have ew3 : w64 (0 - tr n G) = -tr n G := by rw [w64_id (by omega) (by omega)]; omega
 have e1 : ec n G 1 = -tr n G := by
  have := yyd (n := n) (A := G) 1
  rw [sm_succ, sm_zero, ec_zero, Nat.sub_zero, cw_one] at this
  omega
 have i0 : idxO (tab (n + 1) fun i => ec n G (n - i)) 0 = some (ec n G n) := yui (by omega)
 have i1 : idxO (tab (n + 1) fun i => ec n G (n - i)) ((n - 1 : Nat) : Int) = some (ec n G 1) := by rw [yga (by omega), show n - (n - 1) = 1 by omega]
 have i2 : idxO (tab (n + 1) fun i => ec n G (n - i)) (n : Int) = some (ec n G 0) := by rw [yga (by omega), Nat.sub_self]
 have i3 : idxO (zp n G) 0 = some (ec n G 0) := zp_idx (i := 0) zp_ne
 have hl := zp_len (n := n) (G := G)
 have hgt : ¬ (((zp n G).length : Int) > ((n + 1 : Nat) : Int)) := by omega
 unfold laws_FnZeta_k8
 simp only [mat_len, tab_len, ew, ew2, ew3, i0, i1, i2, i3, Option.bind_some, bne_self_eq_false, Bool.false_eq_true, if_false, ec_zero, e1, hx, hgt, decide_false]
 have hloop : loopO (laws_FnZeta_b5 (mat n n G) (tab (n + 1) fun i => ec n G (n - i), true) (zp n G, true)) 0 = some (.inr ()) := by
  refine ylf (zp n G).length (fun i hi => ?_) ?_
  ·have e3 : w64 ((n : Int) - (i : Int)) = ((n - i : Nat) : Int) := by rw [w64_id (by omega) (by omega)]; omega
   simp only [laws_FnZeta_b5, show ((i : Int) < ((zp n G).length : Int)) from by omega, decide_true, if_true, zp_idx hi, Option.bind_some, mat_len, e3, yga (show n - i < n + 1 by omega), show n - (n - i) = i by omega, bne_self_eq_false, Bool.false_eq_true, if_false, w64_nat (show i < 9223372036854775807 by omega)]
  ·simp only [laws_FnZeta_b5, Int.lt_irrefl, decide_false, Bool.false_eq_true, if_false]
 rw [hloop]
 simp only [Option.bind_some, Sum.elim_inr]
 exact zeta_k9 h1 hn hG hs hg a1 h
end
theorem laws_FnZeta_eq (a0 a1 : List Int) (h0 : Bytes a0) (h : Bytes a1) : laws_FnZeta a0 a1 = some true := by
 unfold laws_FnZeta laws_big
 rw [Option.bind_some]
 by_cases hbig : (decide ((a0.length : Int) > 1048576) || decide ((a1.length : Int) > w64 (1048576 - (a0.length : Int)))) = true
 ·rw [if_pos hbig]
 rw [if_neg hbig]
 unfold spec_DrawCharacteristicOf spec_DrawIsGraph
 obtain ⟨v, e1, hv, _⟩ := yvf (by omega) (ck0 h0)
 rw [e1]
 simp only [Option.bind_some]
 have hsz := hv.sized
 generalize v.1 = g at hsz
 cases hg : isGraph g
 ·have c1 : impl_CharacteristicOf g = some ([], false) := by unfold impl_CharacteristicOf; rw [yka _ hsz, hg]; rfl
  have c2 : spec_CharacteristicOf g = some ([], false) := by unfold spec_CharacteristicOf; rw [yma _ hsz, hg]; rfl
  have c3 : impl_ZetaDenominator g = some ([], false) := by unfold impl_ZetaDenominator; rw [yka _ hsz, hg]; rfl
  have c4 : spec_ZetaDenominator g = some ([], false) := by unfold spec_ZetaDenominator; rw [yma _ hsz, hg]; rfl
  have c5 : impl_DeterminantOf g = some (0, false) := by unfold impl_DeterminantOf; rw [yka _ hsz, hg]; rfl
  have c6 : spec_DeterminantOf g = some (0, false) := by unfold spec_DeterminantOf; rw [yma _ hsz, hg]; rfl
  have c7 : impl_TraceOf g = some (0, false) := by unfold impl_TraceOf; rw [yka _ hsz, hg]; rfl
  have c8 : spec_TraceOf g = some (0, false) := by unfold spec_TraceOf; rw [yma _ hsz, hg]; rfl
  rw [c1, c2, c3, c4, c5, c6, c7, c8]
  simp only [Option.bind_some, beq_self_eq_true, Bool.not_true, Bool.false_eq_true, if_false, bne_self_eq_false, yja [] (by simp)]
  exact zeta_k1 a1 h
 ·obtain ⟨n, G, h1, hn, rfl, hG⟩ := yuf hg
  obtain ⟨c2, c1⟩ := yto h1 hn hG hsz hg
  obtain ⟨c4, c3⟩ := ybl h1 hn hG hsz hg
  obtain ⟨c6, c5⟩ := det_val h1 hn hG hsz hg
  obtain ⟨c8, c7, _, _⟩ := yxi h1 hn hG hsz hg
  rw [c1, c2, c3, c4, c5, c6, c7, c8]
  cases hp : isPoly (tab (n + 1) fun i => ec n G (n - i))
  ·simp only [Bool.false_eq_true, if_false, Option.bind_some, beq_self_eq_true, Bool.not_true, bne_self_eq_false, yja [] (by simp)]
   exact zeta_k1 a1 h
  ·have hl := zp_len (n := n) (G := G)
   simp only [Bool.false_eq_true, if_false, if_true, Option.bind_some, beq_self_eq_true, Bool.not_true, bne_self_eq_false, yja (tab (n + 1) fun i => ec n G (n - i)) (by rw [tab_len]; omega), yja (zp n G) (by omega), mat_len]
   have hen : -1000000 ≤ ec n G n ∧ ec n G n ≤ 1000000 := by
    simp only [isPoly, Bool.and_eq_true, List.all_eq_true] at hp
    have : (tab (n + 1) fun i => ec n G (n - i))[0]? = some (ec n G n) := tab_get (by omega)
    exact inB_iff.1 (hp.2 _ (List.mem_of_getElem? this))
   cases hodd : (Int.tmod (n : Int) 2 == 1)
   ·simp only [Bool.false_eq_true, if_false]
    refine zeta_k8 h1 hn hG hsz hg a1 h hp 1 ?_
    unfold detV
    rw [hodd, Int.one_mul, w64_id (by omega) (by omega)]
    rfl
   ·simp only [if_true]
    refine zeta_k8 h1 hn hG hsz hg a1 h hp (-1) ?_
    unfold detV
    rw [hodd, if_pos rfl]
    congr 1
    omega
end Go.PV

/-
 What comes in as bytes is bytes.
 Conditions: none.
-/
set_option linter.all false
namespace Go.PV
theorem ycl {l : List Int} (h : (Ty.sl (.int .u8)).ok l) : Bytes l := by
 refine ⟨Nat.le_trans h.1 (by decide), fun b hb => ?_⟩
 have h2 : (Lit.int .u8 b).wf = true := h.2 b hb
 simp only [Lit.wf, Bool.and_eq_true, decide_eq_true_eq] at h2
 have e1 : IntKind.u8.min = 0 := by decide
 have e2 : IntKind.u8.max = 255 := by decide
 omega
end Go.PV

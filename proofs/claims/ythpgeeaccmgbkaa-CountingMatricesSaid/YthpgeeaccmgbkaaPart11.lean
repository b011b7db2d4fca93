/- Contracts and plain laws of several functions, one after the other: PlainD, PsA, PlainP. -/
import Derived.Test.YthpgeeaccmgbkaaPart15
import Derived.Test.YthpgeeaccmgbkaaPart12
/- Sums; the paths to one state; plain. -/
namespace Go.Proofs.Ythpgeeaccmgbkaa
open Go.RowKit

theorem sum_zero' {α : Type} (l : List α) : (l.map fun _ => (0 : Int)).sum = 0 := by
  induction l with
  | nil => rfl
  | cons x l ih => simp [ih]
theorem sum_add' {α : Type} (l : List α) (f g : α → Int) : (l.map fun x => f x + g x).sum = (l.map f).sum + (l.map g).sum := by
  induction l with
  | nil => rfl
  | cons x l ih => simp only [List.map_cons, List.sum_cons, ih]; omega
theorem sum_swap {α β : Type} (l : List α) (m : List β) (f : α → β → Int) : (l.map fun x => (m.map fun y => f x y).sum).sum = (m.map fun y => (l.map fun x => f x y).sum).sum := by
  induction l with
  | nil => simp only [List.map_nil, List.sum_nil]; exact (sum_zero' m).symm
  | cons x l ih => simp only [List.map_cons, List.sum_cons, ih]; exact (sum_add' m _ _).symm
theorem sum_filter' {α : Type} (l : List α) (q : α → Bool) (f : α → Int) : ((l.filter q).map f).sum = (l.map fun x => if q x = true then f x else 0).sum := by
  induction l with
  | nil => rfl
  | cons x l ih =>
    cases h : q x with
    | true => simp [List.filter_cons, h, ih]
    | false => simp [List.filter_cons, h, ih]
def ind (t : Int) : Int → Bool := fun x => x == t
theorem cw_ind0 (es : List E3) (s t : Int) : cw es (ind t) 0 s = if s = t then 1 else 0 := by
  unfold ind; rw [cw]; simp
end Go.Proofs.Ythpgeeaccmgbkaa

/- Power series with integer coefficients, plain. -/
namespace Go.Proofs.Ythpgeeaccmgbkaa

abbrev PS := Nat → Int
def tlS (f : PS) : PS := fun n => f (n + 1)
/-- The product. -/
def pm (f g : PS) : Nat → Int
  | 0 => f 0 * g 0
  | n + 1 => f 0 * g (n + 1) + pm (tlS f) g n
def psa (f g : PS) : PS := fun n => f n + g n
def pss (c : Int) (f : PS) : PS := fun n => c * f n
def psz (f : PS) : PS
  | 0 => 0
  | n + 1 => f n
def psC (c : Int) : PS := fun n => if n = 0 then c else 0
def psth (f : PS) : PS := fun n => (n : Int) * f n
def psS {α : Type} (l : List α) (f : α → PS) : PS := fun n => (l.map fun x => f x n).sum

theorem pm_congr {f f' g g' : PS} (n : Nat) (hf : ∀ k, k ≤ n → f k = f' k) (hg : ∀ k, k ≤ n → g k = g' k) : pm f g n = pm f' g' n := by
  induction n generalizing f f' with
  | zero => simp only [pm]; rw [hf 0 (Nat.le_refl _), hg 0 (Nat.le_refl _)]
  | succ n ih =>
    simp only [pm]
    rw [hf 0 (Nat.zero_le _), hg (n + 1) (Nat.le_refl _), ih (f := tlS f) (f' := tlS f') (fun k hk => hf (k + 1) (by omega)) (fun k hk => hg k (by omega))]
theorem pm_addl (f f' g : PS) (n : Nat) : pm (fun k => f k + f' k) g n = pm f g n + pm f' g n := by
  induction n generalizing f f' with
  | zero => simp only [pm, Int.add_mul]
  | succ n ih =>
    simp only [pm, Int.add_mul]
    have : tlS (fun k => f k + f' k) = fun k => tlS f k + tlS f' k := rfl
    rw [this, ih]; omega
theorem pm_smull (c : Int) (f g : PS) (n : Nat) : pm (fun k => c * f k) g n = c * pm f g n := by
  induction n generalizing f with
  | zero => simp only [pm, Int.mul_assoc]
  | succ n ih =>
    simp only [pm]
    have : tlS (fun k => c * f k) = fun k => c * tlS f k := rfl
    rw [this, ih, Int.mul_add, Int.mul_assoc]
theorem pm_zerol (g : PS) (n : Nat) : pm (fun _ => 0) g n = 0 := by
  induction n with
  | zero => simp [pm]
  | succ n ih =>
    simp only [pm]
    have : tlS (fun _ => 0) = fun _ => 0 := rfl
    rw [this, ih]; simp
theorem pm_suml {α : Type} (l : List α) (f : α → PS) (g : PS) (n : Nat) : pm (fun k => (l.map fun x => f x k).sum) g n = (l.map fun x => pm (f x) g n).sum := by
  induction l with
  | nil => simp only [List.map_nil, List.sum_nil]; exact pm_zerol g n
  | cons x l ih => simp only [List.map_cons, List.sum_cons]; rw [pm_addl, ih]
theorem pm_constl (c : Int) (g : PS) (n : Nat) : pm (psC c) g n = c * g n := by
  cases n with
  | zero => simp [pm, psC]
  | succ n =>
    simp only [pm]
    have : tlS (psC c) = fun _ => 0 := by funext k; simp [tlS, psC]
    rw [this, pm_zerol]; simp [psC]
theorem pm_zl (f g : PS) : pm (psz f) g = psz (pm f g) := by
  funext n
  cases n with
  | zero => simp [pm, psz]
  | succ n =>
    simp only [pm]
    have : tlS (psz f) = f := rfl
    rw [this]; simp [psz]
theorem pm_right (f g : PS) (n : Nat) : pm f g (n + 1) = pm f (tlS g) n + f (n + 1) * g 0 := by
  induction n generalizing f with
  | zero => simp only [pm]; rfl
  | succ n ih =>
    have e1 : pm f g (n + 1 + 1) = f 0 * g (n + 1 + 1) + pm (tlS f) g (n + 1) := rfl
    have e2 : pm f (tlS g) (n + 1) = f 0 * tlS g (n + 1) + pm (tlS f) (tlS g) n := rfl
    rw [e1, e2, ih]
    have e3 : tlS g (n + 1) = g (n + 1 + 1) := rfl
    have e4 : tlS f (n + 1) = f (n + 1 + 1) := rfl
    rw [e3, e4]; omega
theorem pm_comm (f g : PS) : pm f g = pm g f := by
  funext n
  induction n generalizing f with
  | zero => simp only [pm, Int.mul_comm]
  | succ n ih =>
    have e1 : pm f g (n + 1) = f 0 * g (n + 1) + pm (tlS f) g n := rfl
    rw [pm_right g f, e1, ih, Int.mul_comm]; omega
theorem pm_assoc (f g h : PS) : pm (pm f g) h = pm f (pm g h) := by
  funext n
  induction n generalizing f with
  | zero => simp only [pm, Int.mul_assoc]
  | succ n ih =>
    have e1 : pm (pm f g) h (n + 1) = pm f g 0 * h (n + 1) + pm (tlS (pm f g)) h n := rfl
    have e2 : tlS (pm f g) = fun k => f 0 * tlS g k + pm (tlS f) g k := rfl
    have e3 : pm f (pm g h) (n + 1) = f 0 * pm g h (n + 1) + pm (tlS f) (pm g h) n := rfl
    have e4 : pm g h (n + 1) = g 0 * h (n + 1) + pm (tlS g) h n := rfl
    have e5 : pm f g 0 = f 0 * g 0 := rfl
    rw [e1, e2, pm_addl (fun k => f 0 * tlS g k) (pm (tlS f) g), pm_smull, ih, e3, e4, e5, Int.mul_add, Int.mul_assoc]; omega
theorem pm_addr (f g g' : PS) (n : Nat) : pm f (fun k => g k + g' k) n = pm f g n + pm f g' n := by
  rw [pm_comm, pm_addl, pm_comm g, pm_comm g']
theorem pm_smulr (c : Int) (f g : PS) (n : Nat) : pm f (fun k => c * g k) n = c * pm f g n := by
  rw [pm_comm, pm_smull, pm_comm]
theorem pm_sumr {α : Type} (l : List α) (f : PS) (g : α → PS) (n : Nat) : pm f (fun k => (l.map fun x => g x k).sum) n = (l.map fun x => pm f (g x) n).sum := by
  rw [pm_comm, pm_suml]
  congr 1
  refine List.map_congr_left fun x _ => ?_
  rw [pm_comm]
theorem pm_zr (f g : PS) : pm f (psz g) = psz (pm f g) := by rw [pm_comm, pm_zl, pm_comm]
theorem pm_one (f : PS) : pm f (psC 1) = f := by funext n; rw [pm_comm, pm_constl]; simp
/-- Leibniz' rule. -/
theorem pm_theta (f g : PS) (n : Nat) : (n : Int) * pm f g n = pm (psth f) g n + pm f (psth g) n := by
  induction n generalizing f with
  | zero => simp [pm, psth]
  | succ n ih =>
    have e0 : tlS (psth f) = fun k => tlS f k + psth (tlS f) k := by
      funext k
      show ((k + 1 : Nat) : Int) * f (k + 1) = f (k + 1) + (k : Int) * f (k + 1)
      rw [show ((k + 1 : Nat) : Int) = 1 + (k : Int) by omega, Int.add_mul, Int.one_mul]
    have e1 : pm (psth f) g (n + 1) = psth f 0 * g (n + 1) + pm (tlS (psth f)) g n := rfl
    have e2 : pm f (psth g) (n + 1) = f 0 * psth g (n + 1) + pm (tlS f) (psth g) n := rfl
    have e3 : pm f g (n + 1) = f 0 * g (n + 1) + pm (tlS f) g n := rfl
    have e4 : psth f 0 = 0 := by simp [psth]
    have e5 : psth g (n + 1) = ((n + 1 : Nat) : Int) * g (n + 1) := rfl
    have e6 := ih (tlS f)
    rw [e1, e0, pm_addl, e2, e3, e4, e5, Int.mul_add, show ((n + 1 : Nat) : Int) * pm (tlS f) g n = (n : Int) * pm (tlS f) g n + pm (tlS f) g n by rw [show ((n + 1 : Nat) : Int) = (n : Int) + 1 by omega, Int.add_mul, Int.one_mul], e6, Int.mul_left_comm]
    omega
/-- A product of series is a sum of products. -/
theorem pm_sum (f g : PS) (n : Nat) : pm f g n = ((List.range (n + 1)).map fun i => f i * g (n - i)).sum := by
  induction n generalizing f with
  | zero => simp [pm]
  | succ n ih =>
    rw [List.range_succ_eq_map, List.map_cons, List.sum_cons, List.map_map]
    have e1 : pm f g (n + 1) = f 0 * g (n + 1) + pm (tlS f) g n := rfl
    rw [e1, ih]
    congr 2
    refine List.map_congr_left fun i _ => ?_
    show f (i + 1) * g (n - i) = f (i + 1) * g (n + 1 - (i + 1))
    rw [show n + 1 - (i + 1) = n - i by omega]
/-- Coefficients from n on are 0. -/
def degB (n : Nat) (f : PS) : Prop := ∀ k, n ≤ k → f k = 0
theorem degB.mono {m n : Nat} {f : PS} (h : degB m f) (hmn : m ≤ n) : degB n f := fun k hk => h k (by omega)
theorem degB_z {n : Nat} {f : PS} (h : degB n f) : degB (n + 1) (psz f) := fun k hk => by
  cases k with
  | zero => omega
  | succ k => exact h k (by omega)
theorem degB_sum {α : Type} {n : Nat} (l : List α) (f : α → PS) (h : ∀ x ∈ l, degB n (f x)) : degB n (fun k => (l.map fun x => f x k).sum) := fun k hk => by
  induction l with
  | nil => rfl
  | cons x l ih =>
    simp only [List.map_cons, List.sum_cons]
    have e := ih (fun y hy => h y (by simp [hy]))
    dsimp only at e
    rw [h x (by simp) k hk, e]; rfl
/-- A series that begins with 1 and has the logarithmic derivative -T is the only one. -/
theorem ps_unique {f g T : PS} (hT : T 0 = 0) (hf0 : f 0 = g 0) (hf : ∀ n : Nat, (n : Int) * f n = - pm T f n) (hg : ∀ n : Nat, (n : Int) * g n = - pm T g n) : f = g := by
  funext n
  induction n using Nat.strongRecOn with
  | _ n ih =>
    cases n with
    | zero => exact hf0
    | succ n =>
      have h1 := hf (n + 1)
      have h2 := hg (n + 1)
      have e : pm T f (n + 1) = pm T g (n + 1) := by
        show T 0 * f (n + 1) + pm (tlS T) f n = T 0 * g (n + 1) + pm (tlS T) g n
        rw [hT, Int.zero_mul, Int.zero_mul, pm_congr n (fun k _ => rfl) (fun k hk => ih k (by omega))]
      rw [e, ← h2] at h1
      exact Int.eq_of_mul_eq_mul_left (by omega) h1
/-- A series that begins with 1 may be cancelled: multiplied by its inverse. -/
theorem ps_sum_const {α : Type} (l : List α) : ∀ (n : Nat) (f g : α → PS) (X : PS), (∀ p q, (l.map fun i => f i p * g i q).sum = X (p + q)) → (l.map fun i => pm (f i) (g i) n).sum = ((n : Int) + 1) * X n
  | 0, f, g, X, h => by
    have := h 0 0
    simp only [pm]
    rw [this]; simp
  | n + 1, f, g, X, h => by
    have h1 := ps_sum_const l n (fun i => tlS (f i)) g (tlS X) (fun p q => by
      have := h (p + 1) q
      rw [show p + 1 + q = p + q + 1 by omega] at this
      exact this)
    have h2 := h 0 (n + 1)
    rw [Nat.zero_add] at h2
    have e : (l.map fun i => pm (f i) (g i) (n + 1)).sum = (l.map fun i => f i 0 * g i (n + 1)).sum + (l.map fun i => pm (tlS (f i)) (g i) n).sum := by
      rw [← sum_add' l (fun i => f i 0 * g i (n + 1)) (fun i => pm (tlS (f i)) (g i) n)]
      rfl
    rw [e, h1, h2]
    show X (n + 1) + ((n : Int) + 1) * X (n + 1) = (((n + 1 : Nat) : Int) + 1) * X (n + 1)
    rw [show ((n + 1 : Nat) : Int) + 1 = 1 + ((n : Int) + 1) by omega, Int.add_mul 1, Int.one_mul]
end Go.Proofs.Ythpgeeaccmgbkaa

/- Paths to the states of a set add up to the words to it, in plain Lean. -/
namespace Go.Proofs.Ythpgeeaccmgbkaa
open Go.RowKit

/-- By the last edge. -/
theorem cw_last (es : List E3) : ∀ (n : Nat) (s t : Int), cw es (ind t) (n + 1) s = ((es.filter fun e => e.t == t).map fun e => cw es (ind e.f) n s).sum
  | 0, s, t => by
    rw [cw, sum_filter', sum_filter']
    congr 1
    apply List.map_congr_left
    intro e _
    rw [cw_ind0, cw_ind0]
    by_cases h1 : e.f = s
    · by_cases h2 : e.t = t
      · simp [h1, h2]
      · simp [h1, h2]
    · have h1' : ¬ s = e.f := fun h => h1 h.symm
      by_cases h2 : e.t = t
      · simp [h1, h1', h2]
      · simp [h1, h2]
  | n + 1, s, t => by
    rw [cw]
    rw [show (fun e : E3 => cw es (ind t) (n + 1) e.t) = fun e => ((es.filter fun e' => e'.t == t).map fun e' => cw es (ind e'.f) n e.t).sum from funext fun e => cw_last es n e.t t]
    rw [sum_swap]
    rfl
/-- Turned round, the paths lead back. -/
theorem cw_turn (es : List E3) : ∀ (n : Nat) (s t : Int), cw (es.map swp) (ind s) n t = cw es (ind t) n s
  | 0, s, t => by rw [cw_ind0, cw_ind0]; by_cases h : s = t <;> simp [h, eq_comm]
  | n + 1, s, t => by
    rw [cw_last es n s t, cw, List.filter_map, List.map_map]
    congr 1
    apply List.map_congr_left
    intro e _
    exact cw_turn es n s e.f
theorem pth_eq (es : List E3) (n : Nat) (s t : Int) : pth es n s t = cw es (ind t) n s := cw_turn es n s t
/-- To the states of a set. -/
theorem cw_set (es : List E3) {l : List Int} (hl : l.Pairwise (· < ·)) : ∀ (n : Nat) (s : Int), (l.map fun t => cw es (ind t) n s).sum = cw es (pin l) n s
  | 0, s => by
    rw [cw]
    induction l with
    | nil => simp [pin]
    | cons x l ih =>
      obtain ⟨h1, h2⟩ := List.pairwise_cons.1 hl
      rw [List.map_cons, List.sum_cons, ih h2, cw_ind0]
      unfold pin
      by_cases hx : s = x
      · have : s ∉ l := fun h => by have := h1 s h; omega
        simp [hx]
        rw [hx] at this
        simp [this]
      · simp [hx]
  | n + 1, s => by
    rw [cw]
    rw [show (fun t : Int => cw es (ind t) (n + 1) s) = fun t => ((es.filter fun e => e.f == s).map fun e => cw es (ind t) n e.t).sum from rfl]
    rw [sum_swap]
    congr 1
    apply List.map_congr_left
    intro e _
    exact cw_set es hl n e.t
theorem pth_set (es : List E3) {l : List Int} (hl : l.Pairwise (· < ·)) (n : Nat) (s : Int) : (l.map fun t => pth es n s t).sum = cw es (pin l) n s := by
  rw [← cw_set es hl]
  congr 1
  apply List.map_congr_left
  intro t _
  exact pth_eq es n s t
end Go.Proofs.Ythpgeeaccmgbkaa


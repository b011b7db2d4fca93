/- Contracts and plain laws of several functions, one after the other: PlainE, Mob, PlainD. -/
import Derived.Test.YthpgeeaccmgbkaaGreatCheck
/- Tables of numbers of words, in plain Lean: rows as the program adds them along the edges, and what they count. -/
namespace Go.Proofs.YthpgeeaccmgbkaaGreat
open Go.RowKit

/-- The number of words of k letters from s to states of p (paths, in general). -/
def cw (es : List E3) (p : Int → Bool) : Nat → Int → Int
  | 0, s => if p s = true then 1 else 0
  | k + 1, s => ((es.filter fun e => e.f == s).map fun e => cw es p k e.t).sum
/-- A row of the table. -/
def rowK (es : List E3) (S : Nat) (p : Int → Bool) (k : Nat) : List Int := (List.range S).map fun (s : Nat) => cw es p k (s : Int)
theorem rowK_length (es : List E3) (S : Nat) (p : Int → Bool) (k : Nat) : (rowK es S p k).length = S := by simp [rowK]
theorem rowK_get {es : List E3} {S : Nat} {p : Int → Bool} {k s : Nat} (h : s < S) : (rowK es S p k)[s]? = some (cw es p k (s : Int)) := by simp [rowK, h]
/-- The states of edges are told. -/
def InS (S : Nat) (es : List E3) : Prop := ∀ e ∈ es, 0 ≤ e.f ∧ e.f < S ∧ 0 ≤ e.t ∧ e.t < S
/-- A row under way: the first edges have been added. -/
def rowP (es : List E3) (S : Nat) (p : Int → Bool) (k : Nat) (j : Nat) : List Int := (List.range S).map fun (s : Nat) => (((es.take j).filter fun e => e.f == (s : Int)).map fun e => cw es p k e.t).sum
theorem rowP_length (es : List E3) (S : Nat) (p : Int → Bool) (k j : Nat) : (rowP es S p k j).length = S := by simp [rowP]
theorem rowP_zero (es : List E3) (S : Nat) (p : Int → Bool) (k : Nat) : rowP es S p k 0 = List.replicate S 0 := by
  apply List.ext_getElem? ; intro i
  by_cases h : i < S
  · simp [rowP, h]
  · rw [List.getElem?_eq_none (by rw [rowP_length]; omega), List.getElem?_eq_none (by simp; omega)]
theorem rowP_full (es : List E3) (S : Nat) (p : Int → Bool) (k : Nat) : rowP es S p k es.length = rowK es S p (k + 1) := by simp [rowP, rowK, cw]
theorem rowP_get {es : List E3} {S : Nat} {p : Int → Bool} {k j s : Nat} (h : s < S) : (rowP es S p k j)[s]? = some ((((es.take j).filter fun e => e.f == (s : Int)).map fun e => cw es p k e.t).sum) := by simp [rowP, h]
theorem sum_snoc (l : List Int) (x : Int) : (l ++ [x]).sum = l.sum + x := by
  induction l with
  | nil => simp
  | cons y l ih => simp [ih]; omega
/-- One edge more. -/
theorem rowP_succ {es : List E3} {S : Nat} {p : Int → Bool} {k j : Nat} {e : E3} {x y : Int} (he : es[j]? = some e) {f t : Nat} (hf : e.f = f) (ht : e.t = t) (hS : f < S) (hT : t < S)
    (hx : (rowP es S p k j)[f]? = some x) (hy : (rowK es S p k)[t]? = some y) : (rowP es S p k j).set f (x + y) = rowP es S p k (j + 1) := by
  have hj := (List.getElem?_eq_some_iff.1 he).1
  have het : es.take (j + 1) = es.take j ++ [e] := by
    rw [List.take_succ_eq_append_getElem hj, (List.getElem?_eq_some_iff.1 he).2]
  rw [rowP_get hS] at hx
  rw [rowK_get hT] at hy
  apply List.ext_getElem?
  intro i
  by_cases hi : i < S
  · rw [rowP_get hi, het, List.filter_append]
    by_cases e1 : i = f
    · subst e1
      rw [List.getElem?_set_self (by rw [rowP_length]; exact hS)]
      have hb : (e.f == (i : Int)) = true := by simp [hf]
      simp only [List.filter_cons, hb, if_true, List.filter_nil, List.map_append, List.map_cons, List.map_nil]
      rw [sum_snoc, ← Option.some.inj hx, ← Option.some.inj hy, ht]
    · rw [List.getElem?_set_ne (fun h => e1 h.symm), rowP_get hi]
      have hb : (e.f == (i : Int)) = false := by simp; omega
      simp [List.filter_cons, hb]
  · rw [List.getElem?_eq_none (by rw [List.length_set, rowP_length]; omega), List.getElem?_eq_none (by rw [rowP_length]; omega)]
/-- The first row under way. -/
def row0 (S : Nat) (p : Int → Bool) (j : Nat) : List Int := (List.range S).map fun (s : Nat) => if s < j ∧ p (s : Int) = true then 1 else 0
theorem row0_length (S : Nat) (p : Int → Bool) (j : Nat) : (row0 S p j).length = S := by simp [row0]
theorem row0_zero (S : Nat) (p : Int → Bool) : row0 S p 0 = List.replicate S 0 := by
  apply List.ext_getElem?; intro i
  by_cases h : i < S
  · simp [row0, h]
  · rw [List.getElem?_eq_none (by rw [row0_length]; omega), List.getElem?_eq_none (by simp; omega)]
theorem row0_full (es : List E3) (S : Nat) (p : Int → Bool) : row0 S p S = rowK es S p 0 := by
  unfold row0 rowK
  apply List.map_congr_left
  intro s hs
  have := List.mem_range.1 hs
  simp [cw, this]
theorem row0_yes {S : Nat} {p : Int → Bool} {j : Nat} (h : j < S) (hp : p (j : Int) = true) : (row0 S p j).set j 1 = row0 S p (j + 1) := by
  apply List.ext_getElem?; intro i
  by_cases hi : i < S
  · by_cases e : i = j
    · subst e; rw [List.getElem?_set_self (by rw [row0_length]; exact h)]; simp [row0, h, hp]
    · rw [List.getElem?_set_ne (fun h => e h.symm)]
      simp only [row0, List.getElem?_map, List.getElem?_range hi, Option.map_some]
      by_cases h1 : i < j
      · simp [h1, show i < j + 1 by omega]
      · simp [h1, show ¬ i < j + 1 by omega]
  · rw [List.getElem?_eq_none (by rw [List.length_set, row0_length]; omega), List.getElem?_eq_none (by rw [row0_length]; omega)]
theorem row0_no {S : Nat} {p : Int → Bool} {j : Nat} (hp : p (j : Int) = false) : row0 S p j = row0 S p (j + 1) := by
  unfold row0
  apply List.map_congr_left
  intro s _
  by_cases e : s = j
  · subst e; simp [hp]
  · by_cases h1 : s < j
    · simp [h1, show s < j + 1 by omega]
    · simp [h1, show ¬ s < j + 1 by omega]

/-! ### What the numbers are -/
theorem sum_nonneg : ∀ {l : List Int}, (∀ x ∈ l, 0 ≤ x) → 0 ≤ l.sum
  | [], _ => by simp
  | x :: l, h => by
    have h1 := h x (by simp)
    have h2 := sum_nonneg (l := l) fun y hy => h y (by simp [hy])
    simp; omega
theorem sum_le : ∀ {l : List Int} {M : Int}, (∀ x ∈ l, x ≤ M) → l.sum ≤ l.length * M
  | [], _, _ => by simp
  | x :: l, M, h => by
    have h1 := h x (by simp)
    have h2 := sum_le (l := l) (M := M) fun y hy => h y (by simp [hy])
    simp only [List.sum_cons, List.length_cons]
    have h3 : ((l.length + 1 : Nat) : Int) * M = l.length * M + M := by rw [Int.natCast_add, Int.add_mul]; simp
    rw [h3]; omega
theorem cw_nonneg (es : List E3) (p : Int → Bool) : ∀ (k : Nat) (s : Int), 0 ≤ cw es p k s
  | 0, s => by rw [cw]; split <;> omega
  | k + 1, s => by
    rw [cw]
    refine sum_nonneg fun x hx => ?_
    obtain ⟨e, _, rfl⟩ := List.mem_map.1 hx
    exact cw_nonneg es p k e.t
theorem cw_le (es : List E3) (p : Int → Bool) (D : Nat) (hD : ∀ s : Int, (es.filter fun e => e.f == s).length ≤ D) : ∀ (k : Nat) (s : Int), cw es p k s ≤ ((D ^ k : Nat) : Int)
  | 0, s => by rw [cw]; split <;> simp
  | k + 1, s => by
    rw [cw]
    have h := sum_le (l := (es.filter fun e => e.f == s).map fun e => cw es p k e.t) (M := ((D ^ k : Nat) : Int)) fun x hx => by
      obtain ⟨e, _, rfl⟩ := List.mem_map.1 hx
      exact cw_le es p D hD k e.t
    rw [List.length_map] at h
    refine Int.le_trans h ?_
    rw [Nat.pow_succ, Nat.mul_comm, Int.natCast_mul]
    exact Int.mul_le_mul_of_nonneg_right (by have := hD s; omega) (by omega)
theorem cw_le_len (es : List E3) (p : Int → Bool) (k : Nat) (s : Int) : cw es p k s ≤ ((es.length ^ k : Nat) : Int) := cw_le es p es.length (fun s => List.length_filter_le _ _) k s
theorem cw_mono {es : List E3} {p q : Int → Bool} (h : ∀ s, p s = true → q s = true) : ∀ (k : Nat) (s : Int), cw es p k s ≤ cw es q k s
  | 0, s => by
    rw [cw, cw]
    by_cases hp : p s = true
    · rw [if_pos hp, if_pos (h s hp)]; omega
    · rw [if_neg hp]; split <;> omega
  | k + 1, s => by
    rw [cw, cw]
    have : ∀ l : List E3, (l.map fun e => cw es p k e.t).sum ≤ (l.map fun e => cw es q k e.t).sum := by
      intro l
      induction l with
      | nil => simp
      | cons e l ih => have := cw_mono (es := es) h k e.t; simp only [List.map_cons, List.sum_cons]; omega
    exact this _
theorem cw_congr {es : List E3} {p q : Int → Bool} (h : ∀ s, p s = q s) (k : Nat) (s : Int) : cw es p k s = cw es q k s := by
  have : p = q := funext h
  rw [this]

/-! ### The greatest principal set -/
def pin (set : List Int) (s : Int) : Bool := decide (s ∈ set)
def keepS (es : List E3) (n : Nat) (m : Int) (set : List Int) : List Int := set.filter fun s => decide (m ≤ cw es (pin set) n s)
def prin (es : List E3) (n : Nat) (m : Int) (set : List Int) : List Int :=
  if h : (keepS es n m set).length = set.length then set else prin es n m (keepS es n m set)
termination_by set.length
decreasing_by
  have := List.length_filter_le (fun s => decide (m ≤ cw es (pin set) n s)) set
  unfold keepS at h ⊢
  omega
theorem prin_stop {es : List E3} {n : Nat} {m : Int} {set : List Int} (h : (keepS es n m set).length = set.length) : prin es n m set = set := by rw [prin, dif_pos h]
theorem prin_go {es : List E3} {n : Nat} {m : Int} {set : List Int} (h : ¬ (keepS es n m set).length = set.length) : prin es n m set = prin es n m (keepS es n m set) := by rw [prin, dif_neg h]
theorem keepS_sub (es : List E3) (n : Nat) (m : Int) (set : List Int) : (keepS es n m set).Sublist set := List.filter_sublist
theorem keepS_lt {es : List E3} {n : Nat} {m : Int} {set : List Int} (h : ¬ (keepS es n m set).length = set.length) : (keepS es n m set).length < set.length := by
  have := (keepS_sub es n m set).length_le; omega
theorem prin_sub (es : List E3) (n : Nat) (m : Int) (set : List Int) : (prin es n m set).Sublist set := by
  by_cases h : (keepS es n m set).length = set.length
  · rw [prin_stop h]; exact List.Sublist.refl _
  · rw [prin_go h]
    have := keepS_lt h
    exact (prin_sub es n m (keepS es n m set)).trans (keepS_sub es n m set)
termination_by set.length
/-- A set is principal. -/
def Prcp (es : List E3) (n : Nat) (m : Int) (Y : List Int) : Prop := ∀ s ∈ Y, m ≤ cw es (pin Y) n s
theorem prin_prcp (es : List E3) (n : Nat) (m : Int) (set : List Int) : Prcp es n m (prin es n m set) := by
  by_cases h : (keepS es n m set).length = set.length
  · rw [prin_stop h]
    intro s hs
    have := List.filter_eq_self.1 ((keepS_sub es n m set).eq_of_length h) s hs
    simpa using this
  · rw [prin_go h]
    have := keepS_lt h
    exact prin_prcp es n m (keepS es n m set)
termination_by set.length
theorem prin_great {es : List E3} {n : Nat} {m : Int} {Y : List Int} (hY : Prcp es n m Y) (set : List Int) (h : ∀ s ∈ Y, s ∈ set) : ∀ s ∈ Y, s ∈ prin es n m set := by
  by_cases hl : (keepS es n m set).length = set.length
  · rw [prin_stop hl]; exact h
  · rw [prin_go hl]
    have := keepS_lt hl
    refine prin_great hY (keepS es n m set) fun s hs => ?_
    refine List.mem_filter.2 ⟨h s hs, ?_⟩
    have h1 := hY s hs
    have h2 : cw es (pin Y) n s ≤ cw es (pin set) n s := cw_mono (fun t ht => by
      unfold pin at ht ⊢
      exact decide_eq_true (h t (of_decide_eq_true ht))) n s
    simp; omega
termination_by set.length
theorem prin_anti {es : List E3} {n : Nat} {m m' : Int} (h : m ≤ m') (set : List Int) : ∀ s ∈ prin es n m' set, s ∈ prin es n m set :=
  prin_great (fun s hs => Int.le_trans h (prin_prcp es n m' set s hs)) set fun _ hs => (prin_sub es n m' set).subset hs
theorem prin_empty {es : List E3} {n : Nat} {m : Int} {set : List Int} (h : ∀ p s, cw es p n s < m) : prin es n m set = [] := by
  apply List.eq_nil_iff_forall_not_mem.2
  intro s hs
  have h1 := prin_prcp es n m set s hs
  have h2 := h (pin (prin es n m set)) s
  omega
end Go.Proofs.YthpgeeaccmgbkaaGreat

/- Divisors, with the sign that counting.divisors gives them: plain. -/
namespace Go.Proofs.YthpgeeaccmgbkaaGreat

/-- The loop over the factors. -/
def mobL : Nat → Nat → Nat → Int → Int
  | 0, _, _, s => s
  | f + 1, m, p, s => if m ≤ 1 then s else if m % p ≠ 0 then mobL f m (p + 1) s else if (m / p) % p = 0 then 0 else mobL f (m / p) (p + 1) (-s)
def mu (k : Nat) : Int := mobL (k + 1) k 2 1
theorem mobL_end {f m p : Nat} {s : Int} (h : m ≤ 1) : mobL f m p s = s := by
  cases f with
  | zero => rfl
  | succ f => rw [mobL, if_pos h]
theorem mobL_next {f m p : Nat} {s : Int} (h : ¬ m ≤ 1) (h2 : m % p ≠ 0) : mobL (f + 1) m p s = mobL f m (p + 1) s := by rw [mobL, if_neg h, if_pos h2]
theorem mobL_sq {f m p : Nat} {s : Int} (h : ¬ m ≤ 1) (h2 : m % p = 0) (h3 : (m / p) % p = 0) : mobL (f + 1) m p s = 0 := by rw [mobL, if_neg h, if_neg (by omega), if_pos h3]
theorem mobL_div {f m p : Nat} {s : Int} (h : ¬ m ≤ 1) (h2 : m % p = 0) (h3 : (m / p) % p ≠ 0) : mobL (f + 1) m p s = mobL f (m / p) (p + 1) (-s) := by rw [mobL, if_neg h, if_neg (by omega), if_neg h3]
theorem mobL_le : ∀ (f m p : Nat) (s : Int), -1 ≤ s → s ≤ 1 → -1 ≤ mobL f m p s ∧ mobL f m p s ≤ 1
  | 0, _, _, s, h1, h2 => ⟨h1, h2⟩
  | f + 1, m, p, s, h1, h2 => by
    rw [mobL]
    split
    · exact ⟨h1, h2⟩
    · split
      · exact mobL_le f _ _ _ h1 h2
      · split
        · omega
        · exact mobL_le f _ _ _ (by omega) (by omega)
theorem mu_le (k : Nat) : -1 ≤ mu k ∧ mu k ≤ 1 := mobL_le _ _ _ _ (by omega) (by omega)
/-- No factor below p. -/
def NoFac (m p : Nat) : Prop := ∀ q, 2 ≤ q → q < p → m % q ≠ 0
theorem NoFac.le {m p : Nat} (h : NoFac m p) (hm : ¬ m ≤ 1) : p ≤ m := by
  refine Nat.le_of_not_lt fun hlt => h m (by omega) hlt (Nat.mod_self m)
theorem NoFac.two (m : Nat) : NoFac m 2 := fun q h1 h2 => by omega
theorem NoFac.next {m p : Nat} (h : NoFac m p) (hp : m % p ≠ 0) : NoFac m (p + 1) := fun q h1 h2 => by
  by_cases e : q = p
  · subst e; exact hp
  · exact h q h1 (by omega)
theorem NoFac.div {m p : Nat} (h : NoFac m p) (hd : m % p = 0) (hp : (m / p) % p ≠ 0) : NoFac (m / p) (p + 1) := fun q h1 h2 => by
  by_cases e : q = p
  · subst e; exact hp
  · intro e2
    refine h q h1 (by omega) ?_
    have h3 : q ∣ m / p := Nat.dvd_of_mod_eq_zero e2
    have h4 : m / p ∣ m := Nat.div_dvd_of_dvd (Nat.dvd_of_mod_eq_zero hd)
    exact Nat.mod_eq_zero_of_dvd (Nat.dvd_trans h3 h4)
/-- The divisors up to j, with their signs. -/
def divL (n j : Nat) : List (Nat × Int) := ((List.range j).filter fun i => n % (i + 1) == 0).map fun i => (i + 1, mu (n / (i + 1)))
theorem divL_zero (n : Nat) : divL n 0 = [] := rfl
theorem divL_yes {n j : Nat} (h : n % (j + 1) = 0) : divL n (j + 1) = divL n j ++ [(j + 1, mu (n / (j + 1)))] := by
  simp [divL, List.range_succ, h]
theorem divL_no {n j : Nat} (h : n % (j + 1) ≠ 0) : divL n (j + 1) = divL n j := by
  simp [divL, List.range_succ, h]
theorem divL_len_le (n : Nat) {i j : Nat} (h : i ≤ j) : (divL n i).length ≤ (divL n j).length := by
  induction j with
  | zero => have : i = 0 := by omega
            subst this; exact Nat.le_refl _
  | succ j ih =>
    by_cases e : i = j + 1
    · subst e; exact Nat.le_refl _
    · refine Nat.le_trans (ih (by omega)) ?_
      by_cases hj : n % (j + 1) = 0
      · rw [divL_yes hj]; simp
      · rw [divL_no hj]; exact Nat.le_refl _
theorem divL_pre (n : Nat) {i j : Nat} (h : i ≤ j) : ∃ r, divL n j = divL n i ++ r := by
  induction j with
  | zero => have : i = 0 := by omega
            subst this; exact ⟨[], by simp⟩
  | succ j ih =>
    by_cases e : i = j + 1
    · subst e; exact ⟨[], by simp⟩
    · obtain ⟨r, hr⟩ := ih (by omega)
      by_cases hj : n % (j + 1) = 0
      · rw [divL_yes hj, hr]; exact ⟨r ++ [(j + 1, mu (n / (j + 1)))], by simp⟩
      · rw [divL_no hj]; exact ⟨r, hr⟩
/-- A divisor's place in the list. -/
theorem divL_at {n j k : Nat} (h : n % (j + 1) = 0) (hj : j < k) : (divL n k)[(divL n j).length]? = some (j + 1, mu (n / (j + 1))) := by
  obtain ⟨r, hr⟩ := divL_pre n (i := j + 1) (j := k) (by omega)
  rw [hr, divL_yes h]
  simp
end Go.Proofs.YthpgeeaccmgbkaaGreat

/- Sums; the paths to one state; plain. -/
namespace Go.Proofs.YthpgeeaccmgbkaaGreat
open Go.RowKit

theorem sum_zero' {α : Type} (l : List α) : (l.map fun _ => (0 : Int)).sum = 0 := by
  induction l with
  | nil => rfl
  | cons x l ih => simp [ih]
theorem sum_add' {α : Type} (l : List α) (f g : α → Int) : (l.map fun x => f x + g x).sum = (l.map f).sum + (l.map g).sum := by
  induction l with
  | nil => rfl
  | cons x l ih => simp only [List.map_cons, List.sum_cons, ih]; omega
theorem sum_swap {α β : Type} (l : List α) (m : List β) (f : α → β → Int) : (l.map fun x => (m.map fun y => f x y).sum).sum = (m.map fun y => (l.map fun x => f x y).sum).sum := by
  induction l with
  | nil => simp only [List.map_nil, List.sum_nil]; exact (sum_zero' m).symm
  | cons x l ih => simp only [List.map_cons, List.sum_cons, ih]; exact (sum_add' m _ _).symm
theorem sum_filter' {α : Type} (l : List α) (q : α → Bool) (f : α → Int) : ((l.filter q).map f).sum = (l.map fun x => if q x = true then f x else 0).sum := by
  induction l with
  | nil => rfl
  | cons x l ih =>
    cases h : q x with
    | true => simp [List.filter_cons, h, ih]
    | false => simp [List.filter_cons, h, ih]
def ind (t : Int) : Int → Bool := fun x => x == t
theorem cw_ind0 (es : List E3) (s t : Int) : cw es (ind t) 0 s = if s = t then 1 else 0 := by
  unfold ind; rw [cw]; simp
end Go.Proofs.YthpgeeaccmgbkaaGreat


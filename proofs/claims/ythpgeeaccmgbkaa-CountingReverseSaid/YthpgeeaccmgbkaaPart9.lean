/- Contracts and plain laws of several functions, one after the other: PlainE, NeckA, NeckB, Mob. -/
import Derived.Test.YthpgeeaccmgbkaaCheck
/- Tables of numbers of words, in plain Lean: rows as the program adds them along the edges, and what they count. -/
namespace Go.Proofs.Ythpgeeaccmgbkaa
open Go.RowKit

/-- The number of words of k letters from s to states of p (paths, in general). -/
def cw (es : List E3) (p : Int → Bool) : Nat → Int → Int
  | 0, s => if p s = true then 1 else 0
  | k + 1, s => ((es.filter fun e => e.f == s).map fun e => cw es p k e.t).sum
/-- A row of the table. -/
def rowK (es : List E3) (S : Nat) (p : Int → Bool) (k : Nat) : List Int := (List.range S).map fun (s : Nat) => cw es p k (s : Int)
theorem rowK_length (es : List E3) (S : Nat) (p : Int → Bool) (k : Nat) : (rowK es S p k).length = S := by simp [rowK]
theorem rowK_get {es : List E3} {S : Nat} {p : Int → Bool} {k s : Nat} (h : s < S) : (rowK es S p k)[s]? = some (cw es p k (s : Int)) := by simp [rowK, h]
/-- The states of edges are told. -/
def InS (S : Nat) (es : List E3) : Prop := ∀ e ∈ es, 0 ≤ e.f ∧ e.f < S ∧ 0 ≤ e.t ∧ e.t < S
/-- A row under way: the first edges have been added. -/
def rowP (es : List E3) (S : Nat) (p : Int → Bool) (k : Nat) (j : Nat) : List Int := (List.range S).map fun (s : Nat) => (((es.take j).filter fun e => e.f == (s : Int)).map fun e => cw es p k e.t).sum
theorem rowP_length (es : List E3) (S : Nat) (p : Int → Bool) (k j : Nat) : (rowP es S p k j).length = S := by simp [rowP]
theorem rowP_zero (es : List E3) (S : Nat) (p : Int → Bool) (k : Nat) : rowP es S p k 0 = List.replicate S 0 := by
  apply List.ext_getElem? ; intro i
  by_cases h : i < S
  · simp [rowP, h]
  · rw [List.getElem?_eq_none (by rw [rowP_length]; omega), List.getElem?_eq_none (by simp; omega)]
theorem rowP_full (es : List E3) (S : Nat) (p : Int → Bool) (k : Nat) : rowP es S p k es.length = rowK es S p (k + 1) := by simp [rowP, rowK, cw]
theorem rowP_get {es : List E3} {S : Nat} {p : Int → Bool} {k j s : Nat} (h : s < S) : (rowP es S p k j)[s]? = some ((((es.take j).filter fun e => e.f == (s : Int)).map fun e => cw es p k e.t).sum) := by simp [rowP, h]
theorem sum_snoc (l : List Int) (x : Int) : (l ++ [x]).sum = l.sum + x := by
  induction l with
  | nil => simp
  | cons y l ih => simp [ih]; omega
/-- One edge more. -/
theorem rowP_succ {es : List E3} {S : Nat} {p : Int → Bool} {k j : Nat} {e : E3} {x y : Int} (he : es[j]? = some e) {f t : Nat} (hf : e.f = f) (ht : e.t = t) (hS : f < S) (hT : t < S)
    (hx : (rowP es S p k j)[f]? = some x) (hy : (rowK es S p k)[t]? = some y) : (rowP es S p k j).set f (x + y) = rowP es S p k (j + 1) := by
  have hj := (List.getElem?_eq_some_iff.1 he).1
  have het : es.take (j + 1) = es.take j ++ [e] := by
    rw [List.take_succ_eq_append_getElem hj, (List.getElem?_eq_some_iff.1 he).2]
  rw [rowP_get hS] at hx
  rw [rowK_get hT] at hy
  apply List.ext_getElem?
  intro i
  by_cases hi : i < S
  · rw [rowP_get hi, het, List.filter_append]
    by_cases e1 : i = f
    · subst e1
      rw [List.getElem?_set_self (by rw [rowP_length]; exact hS)]
      have hb : (e.f == (i : Int)) = true := by simp [hf]
      simp only [List.filter_cons, hb, if_true, List.filter_nil, List.map_append, List.map_cons, List.map_nil]
      rw [sum_snoc, ← Option.some.inj hx, ← Option.some.inj hy, ht]
    · rw [List.getElem?_set_ne (fun h => e1 h.symm), rowP_get hi]
      have hb : (e.f == (i : Int)) = false := by simp; omega
      simp [List.filter_cons, hb]
  · rw [List.getElem?_eq_none (by rw [List.length_set, rowP_length]; omega), List.getElem?_eq_none (by rw [rowP_length]; omega)]
/-- The first row under way. -/
def row0 (S : Nat) (p : Int → Bool) (j : Nat) : List Int := (List.range S).map fun (s : Nat) => if s < j ∧ p (s : Int) = true then 1 else 0
theorem row0_length (S : Nat) (p : Int → Bool) (j : Nat) : (row0 S p j).length = S := by simp [row0]
theorem row0_zero (S : Nat) (p : Int → Bool) : row0 S p 0 = List.replicate S 0 := by
  apply List.ext_getElem?; intro i
  by_cases h : i < S
  · simp [row0, h]
  · rw [List.getElem?_eq_none (by rw [row0_length]; omega), List.getElem?_eq_none (by simp; omega)]
theorem row0_full (es : List E3) (S : Nat) (p : Int → Bool) : row0 S p S = rowK es S p 0 := by
  unfold row0 rowK
  apply List.map_congr_left
  intro s hs
  have := List.mem_range.1 hs
  simp [cw, this]
theorem row0_yes {S : Nat} {p : Int → Bool} {j : Nat} (h : j < S) (hp : p (j : Int) = true) : (row0 S p j).set j 1 = row0 S p (j + 1) := by
  apply List.ext_getElem?; intro i
  by_cases hi : i < S
  · by_cases e : i = j
    · subst e; rw [List.getElem?_set_self (by rw [row0_length]; exact h)]; simp [row0, h, hp]
    · rw [List.getElem?_set_ne (fun h => e h.symm)]
      simp only [row0, List.getElem?_map, List.getElem?_range hi, Option.map_some]
      by_cases h1 : i < j
      · simp [h1, show i < j + 1 by omega]
      · simp [h1, show ¬ i < j + 1 by omega]
  · rw [List.getElem?_eq_none (by rw [List.length_set, row0_length]; omega), List.getElem?_eq_none (by rw [row0_length]; omega)]
theorem row0_no {S : Nat} {p : Int → Bool} {j : Nat} (hp : p (j : Int) = false) : row0 S p j = row0 S p (j + 1) := by
  unfold row0
  apply List.map_congr_left
  intro s _
  by_cases e : s = j
  · subst e; simp [hp]
  · by_cases h1 : s < j
    · simp [h1, show s < j + 1 by omega]
    · simp [h1, show ¬ s < j + 1 by omega]

/-! ### What the numbers are -/
theorem sum_nonneg : ∀ {l : List Int}, (∀ x ∈ l, 0 ≤ x) → 0 ≤ l.sum
  | [], _ => by simp
  | x :: l, h => by
    have h1 := h x (by simp)
    have h2 := sum_nonneg (l := l) fun y hy => h y (by simp [hy])
    simp; omega
theorem sum_le : ∀ {l : List Int} {M : Int}, (∀ x ∈ l, x ≤ M) → l.sum ≤ l.length * M
  | [], _, _ => by simp
  | x :: l, M, h => by
    have h1 := h x (by simp)
    have h2 := sum_le (l := l) (M := M) fun y hy => h y (by simp [hy])
    simp only [List.sum_cons, List.length_cons]
    have h3 : ((l.length + 1 : Nat) : Int) * M = l.length * M + M := by rw [Int.natCast_add, Int.add_mul]; simp
    rw [h3]; omega
theorem cw_nonneg (es : List E3) (p : Int → Bool) : ∀ (k : Nat) (s : Int), 0 ≤ cw es p k s
  | 0, s => by rw [cw]; split <;> omega
  | k + 1, s => by
    rw [cw]
    refine sum_nonneg fun x hx => ?_
    obtain ⟨e, _, rfl⟩ := List.mem_map.1 hx
    exact cw_nonneg es p k e.t
theorem cw_le (es : List E3) (p : Int → Bool) (D : Nat) (hD : ∀ s : Int, (es.filter fun e => e.f == s).length ≤ D) : ∀ (k : Nat) (s : Int), cw es p k s ≤ ((D ^ k : Nat) : Int)
  | 0, s => by rw [cw]; split <;> simp
  | k + 1, s => by
    rw [cw]
    have h := sum_le (l := (es.filter fun e => e.f == s).map fun e => cw es p k e.t) (M := ((D ^ k : Nat) : Int)) fun x hx => by
      obtain ⟨e, _, rfl⟩ := List.mem_map.1 hx
      exact cw_le es p D hD k e.t
    rw [List.length_map] at h
    refine Int.le_trans h ?_
    rw [Nat.pow_succ, Nat.mul_comm, Int.natCast_mul]
    exact Int.mul_le_mul_of_nonneg_right (by have := hD s; omega) (by omega)
theorem cw_le_len (es : List E3) (p : Int → Bool) (k : Nat) (s : Int) : cw es p k s ≤ ((es.length ^ k : Nat) : Int) := cw_le es p es.length (fun s => List.length_filter_le _ _) k s
theorem cw_mono {es : List E3} {p q : Int → Bool} (h : ∀ s, p s = true → q s = true) : ∀ (k : Nat) (s : Int), cw es p k s ≤ cw es q k s
  | 0, s => by
    rw [cw, cw]
    by_cases hp : p s = true
    · rw [if_pos hp, if_pos (h s hp)]; omega
    · rw [if_neg hp]; split <;> omega
  | k + 1, s => by
    rw [cw, cw]
    have : ∀ l : List E3, (l.map fun e => cw es p k e.t).sum ≤ (l.map fun e => cw es q k e.t).sum := by
      intro l
      induction l with
      | nil => simp
      | cons e l ih => have := cw_mono (es := es) h k e.t; simp only [List.map_cons, List.sum_cons]; omega
    exact this _
theorem cw_congr {es : List E3} {p q : Int → Bool} (h : ∀ s, p s = q s) (k : Nat) (s : Int) : cw es p k s = cw es q k s := by
  have : p = q := funext h
  rw [this]

/-! ### The greatest principal set -/
def pin (set : List Int) (s : Int) : Bool := decide (s ∈ set)
def keepS (es : List E3) (n : Nat) (m : Int) (set : List Int) : List Int := set.filter fun s => decide (m ≤ cw es (pin set) n s)
def prin (es : List E3) (n : Nat) (m : Int) (set : List Int) : List Int :=
  if h : (keepS es n m set).length = set.length then set else prin es n m (keepS es n m set)
termination_by set.length
decreasing_by
  have := List.length_filter_le (fun s => decide (m ≤ cw es (pin set) n s)) set
  unfold keepS at h ⊢
  omega
theorem prin_stop {es : List E3} {n : Nat} {m : Int} {set : List Int} (h : (keepS es n m set).length = set.length) : prin es n m set = set := by rw [prin, dif_pos h]
theorem prin_go {es : List E3} {n : Nat} {m : Int} {set : List Int} (h : ¬ (keepS es n m set).length = set.length) : prin es n m set = prin es n m (keepS es n m set) := by rw [prin, dif_neg h]
theorem keepS_sub (es : List E3) (n : Nat) (m : Int) (set : List Int) : (keepS es n m set).Sublist set := List.filter_sublist
theorem keepS_lt {es : List E3} {n : Nat} {m : Int} {set : List Int} (h : ¬ (keepS es n m set).length = set.length) : (keepS es n m set).length < set.length := by
  have := (keepS_sub es n m set).length_le; omega
theorem prin_sub (es : List E3) (n : Nat) (m : Int) (set : List Int) : (prin es n m set).Sublist set := by
  by_cases h : (keepS es n m set).length = set.length
  · rw [prin_stop h]; exact List.Sublist.refl _
  · rw [prin_go h]
    have := keepS_lt h
    exact (prin_sub es n m (keepS es n m set)).trans (keepS_sub es n m set)
termination_by set.length
/-- A set is principal. -/
def Prcp (es : List E3) (n : Nat) (m : Int) (Y : List Int) : Prop := ∀ s ∈ Y, m ≤ cw es (pin Y) n s
theorem prin_prcp (es : List E3) (n : Nat) (m : Int) (set : List Int) : Prcp es n m (prin es n m set) := by
  by_cases h : (keepS es n m set).length = set.length
  · rw [prin_stop h]
    intro s hs
    have := List.filter_eq_self.1 ((keepS_sub es n m set).eq_of_length h) s hs
    simpa using this
  · rw [prin_go h]
    have := keepS_lt h
    exact prin_prcp es n m (keepS es n m set)
termination_by set.length
theorem prin_great {es : List E3} {n : Nat} {m : Int} {Y : List Int} (hY : Prcp es n m Y) (set : List Int) (h : ∀ s ∈ Y, s ∈ set) : ∀ s ∈ Y, s ∈ prin es n m set := by
  by_cases hl : (keepS es n m set).length = set.length
  · rw [prin_stop hl]; exact h
  · rw [prin_go hl]
    have := keepS_lt hl
    refine prin_great hY (keepS es n m set) fun s hs => ?_
    refine List.mem_filter.2 ⟨h s hs, ?_⟩
    have h1 := hY s hs
    have h2 : cw es (pin Y) n s ≤ cw es (pin set) n s := cw_mono (fun t ht => by
      unfold pin at ht ⊢
      exact decide_eq_true (h t (of_decide_eq_true ht))) n s
    simp; omega
termination_by set.length
theorem prin_anti {es : List E3} {n : Nat} {m m' : Int} (h : m ≤ m') (set : List Int) : ∀ s ∈ prin es n m' set, s ∈ prin es n m set :=
  prin_great (fun s hs => Int.le_trans h (prin_prcp es n m' set s hs)) set fun _ hs => (prin_sub es n m' set).subset hs
theorem prin_empty {es : List E3} {n : Nat} {m : Int} {set : List Int} (h : ∀ p s, cw es p n s < m) : prin es n m set = [] := by
  apply List.eq_nil_iff_forall_not_mem.2
  intro s hs
  have h1 := prin_prcp es n m set s hs
  have h2 := h (pin (prin es n m set)) s
  omega
end Go.Proofs.Ythpgeeaccmgbkaa

/- A rotation without fixed points: n divides the number of words; plain. -/
namespace Go.Proofs.Ythpgeeaccmgbkaa
open Go.RowKit

/-- f, k times. -/
def itr {α : Type} (f : α → α) : Nat → α → α
  | 0, x => x
  | k + 1, x => itr f k (f x)
theorem itr_add {α : Type} (f : α → α) : ∀ (a b : Nat) (x : α), itr f (a + b) x = itr f b (itr f a x)
  | 0, b, x => by rw [Nat.zero_add]; rfl
  | a + 1, b, x => by rw [Nat.succ_add]; exact itr_add f a b (f x)
theorem itr_mul {α : Type} {f : α → α} {n : Nat} {x : α} (h : itr f n x = x) : ∀ k, itr f (n * k) x = x
  | 0 => rfl
  | k + 1 => by rw [Nat.mul_succ, itr_add, itr_mul h k, h]
theorem itr_mod {α : Type} {f : α → α} {n : Nat} {x : α} (h : itr f n x = x) (k : Nat) : itr f k x = itr f (k % n) x := by
  conv => lhs; rw [← Nat.div_add_mod k n]
  rw [itr_add, itr_mul h]
theorem itr_mem {α : Type} {f : α → α} {X : List α} (h : ∀ x ∈ X, f x ∈ X) : ∀ (k : Nat) (x : α), x ∈ X → itr f k x ∈ X
  | 0, _, hx => hx
  | k + 1, x, hx => itr_mem h k (f x) (h x hx)
theorem filter_out {α : Type} [DecidableEq α] {X O : List α} (hX : X.Nodup) (hO : O.Nodup) (hs : ∀ x ∈ O, x ∈ X) : X.length = O.length + (X.filter fun y => !decide (y ∈ O)).length := by
  have h1 : (X.filter fun y => decide (y ∈ O)).Perm O := by
    refine (List.perm_ext_iff_of_nodup (hX.filter _) hO).2 fun x => ?_
    rw [List.mem_filter, decide_eq_true_eq]
    exact ⟨fun h => h.2, fun h => ⟨hs x h, h⟩⟩
  rw [← h1.length_eq]
  clear h1 hs hX hO
  induction X with
  | nil => rfl
  | cons a X ih =>
    by_cases ha : a ∈ O
    · simp [List.filter_cons, ha]; omega
    · simp [List.filter_cons, ha]; omega
theorem orbit_dvd {α : Type} [DecidableEq α] (f : α → α) (n : Nat) (hn : 0 < n) : ∀ (m : Nat) (X : List α), X.length ≤ m → X.Nodup → (∀ x ∈ X, f x ∈ X) → (∀ x ∈ X, itr f n x = x) → (∀ x ∈ X, ∀ j, 0 < j → j < n → itr f j x ≠ x) → n ∣ X.length
  | 0, X, hm, _, _, _, _ => by rw [Nat.le_zero.1 hm]; exact Nat.dvd_zero n
  | m + 1, [], _, _, _, _, _ => Nat.dvd_zero n
  | m + 1, x :: X, hm, hX, hf, hp, hq => by
    obtain ⟨Y, hY⟩ : ∃ Y, Y = x :: X := ⟨_, rfl⟩
    rw [← hY] at hm hX hf hp hq ⊢
    have hx : x ∈ Y := by rw [hY]; simp
    have hxn := hp x hx
    obtain ⟨O, hOd⟩ : ∃ O, O = (List.range n).map fun j => itr f j x := ⟨_, rfl⟩
    have hOm : ∀ k, itr f k x ∈ O := fun k => by
      rw [hOd, List.mem_map]
      exact ⟨k % n, List.mem_range.2 (Nat.mod_lt _ hn), (itr_mod hxn k).symm⟩
    have key : ∀ i j, i < j → j < n → itr f i x ≠ itr f j x := fun i j hij hj e => by
      have e2 : itr f (n - i) (itr f i x) = itr f (n - i) (itr f j x) := by rw [e]
      rw [← itr_add, ← itr_add, show i + (n - i) = n by omega, hxn, show j + (n - i) = n + (j - i) by omega, itr_add, hxn] at e2
      exact hq x hx (j - i) (by omega) (by omega) e2.symm
    have hOn : O.Nodup := by
      rw [hOd]
      refine List.pairwise_map.2 (List.Pairwise.imp_of_mem (R := fun a b : Nat => a < b) (fun {a b} _ hb hab => ?_) List.pairwise_lt_range)
      exact key a b hab (List.mem_range.1 hb)
    have hOs : ∀ y ∈ O, y ∈ Y := fun y hy => by
      rw [hOd] at hy
      obtain ⟨k, -, rfl⟩ := List.mem_map.1 hy
      exact itr_mem hf k x hx
    have hcount := filter_out hX hOn hOs
    have hOl : O.length = n := by rw [hOd]; simp
    have hmem : ∀ y, y ∈ (Y.filter fun y => !decide (y ∈ O)) ↔ y ∈ Y ∧ y ∉ O := fun y => by
      rw [List.mem_filter]; simp
    have hfc : ∀ y ∈ (Y.filter fun y => !decide (y ∈ O)), f y ∈ (Y.filter fun y => !decide (y ∈ O)) := fun y hy => by
      obtain ⟨h1, h2⟩ := (hmem y).1 hy
      refine (hmem _).2 ⟨hf y h1, fun h3 => h2 ?_⟩
      rw [hOd] at h3
      obtain ⟨k, -, hk⟩ := List.mem_map.1 h3
      have e1 : itr f (n - 1) (f y) = y := by
        have := hp y h1
        rw [show n = 1 + (n - 1) by omega, itr_add] at this
        exact this
      rw [← e1, ← hk, ← itr_add]
      exact hOm _
    have ih := orbit_dvd f n hn m (Y.filter fun y => !decide (y ∈ O)) (by omega) (hX.filter _) hfc (fun y hy => hp y ((hmem y).1 hy).1) (fun y hy => hq y ((hmem y).1 hy).1)
    rw [hcount, hOl]
    exact (Nat.dvd_add_iff_right (Nat.dvd_refl n)).1 ih
end Go.Proofs.Ythpgeeaccmgbkaa

/- Closed words under rotation: those of length n are those of least period d, for each divisor d of n; plain. -/
namespace Go.Proofs.Ythpgeeaccmgbkaa
open Go.RowKit

def rotL : List Nat → List Nat
  | [] => []
  | a :: t => t ++ [a]
theorem rotL_length (l : List Nat) : (rotL l).length = l.length := by cases l <;> simp [rotL]
theorem itr_rot_length : ∀ (k : Nat) (l : List Nat), (itr rotL k l).length = l.length
  | 0, _ => rfl
  | k + 1, l => by rw [itr, itr_rot_length k, rotL_length]
theorem getD_get (l : List Nat) {j : Nat} (h : j < l.length) : l.getD j 0 = l[j] := by simp [List.getD_eq_getElem?_getD, h]
theorem ext_getD {l l' : List Nat} (h : l.length = l'.length) (hj : ∀ j, j < l.length → l.getD j 0 = l'.getD j 0) : l = l' := by
  refine List.ext_getElem h fun j h1 h2 => ?_
  have := hj j h1
  rwa [getD_get l h1, getD_get l' h2] at this
theorem rotL_get (l : List Nat) {j : Nat} (h : j < l.length) : (rotL l).getD j 0 = l.getD ((j + 1) % l.length) 0 := by
  cases l with
  | nil => simp at h
  | cons a t =>
    simp only [List.length_cons] at h ⊢
    rw [rotL]
    by_cases hj : j < t.length
    · rw [Nat.mod_eq_of_lt (by omega), List.getD_cons_succ, List.getD_eq_getElem?_getD, List.getElem?_append_left hj, ← List.getD_eq_getElem?_getD]
    · obtain rfl : j = t.length := by omega
      rw [Nat.mod_self, List.getD_cons_zero, List.getD_eq_getElem?_getD, List.getElem?_append_right (Nat.le_refl _), Nat.sub_self]; rfl
theorem itr_rot_get : ∀ (k : Nat) (l : List Nat) (j : Nat), j < l.length → (itr rotL k l).getD j 0 = l.getD ((j + k) % l.length) 0
  | 0, l, j, h => by rw [itr, Nat.add_zero, Nat.mod_eq_of_lt h]
  | k + 1, l, j, h => by
    rw [itr, itr_rot_get k (rotL l) j (by rw [rotL_length]; exact h), rotL_length, rotL_get l (Nat.mod_lt _ (by omega))]
    congr 1
    rw [Nat.mod_add_mod]; rfl
theorem itr_rot_len (l : List Nat) : itr rotL l.length l = l := by
  refine ext_getD (itr_rot_length _ _) fun j hj => ?_
  rw [itr_rot_length] at hj
  rw [itr_rot_get _ _ _ hj, Nat.add_mod_right, Nat.mod_eq_of_lt hj]
/-- Closed words of n letters below m, neighbours in R. -/
def Cyc (R : Nat → Nat → Bool) (m n : Nat) (l : List Nat) : Prop := l.length = n ∧ ∀ j, j < n → l.getD j 0 < m ∧ R (l.getD j 0) (l.getD ((j + 1) % n) 0) = true
theorem cyc_rot {R : Nat → Nat → Bool} {m n : Nat} {l : List Nat} (h : Cyc R m n l) : Cyc R m n (rotL l) := by
  obtain ⟨rfl, h2⟩ := h
  refine ⟨rotL_length l, fun j hj => ?_⟩
  have hp : 0 < l.length := by omega
  rw [rotL_get l hj, rotL_get l (Nat.mod_lt _ hp)]
  exact h2 _ (Nat.mod_lt _ hp)
/-- The least period is d. -/
def perB (d : Nat) (l : List Nat) : Bool := decide (0 < d) && decide (itr rotL d l = l) && (List.range d).all fun j => decide (j = 0) || !decide (itr rotL j l = l)
theorem perB_iff {d : Nat} {l : List Nat} : perB d l = true ↔ 0 < d ∧ itr rotL d l = l ∧ ∀ j, 0 < j → j < d → itr rotL j l ≠ l := by
  unfold perB
  rw [Bool.and_eq_true, Bool.and_eq_true, decide_eq_true_eq, decide_eq_true_eq, List.all_eq_true, and_assoc]
  constructor
  · rintro ⟨h1, h2, h3⟩
    refine ⟨h1, h2, fun j hj hd e => ?_⟩
    have := h3 j (List.mem_range.2 hd)
    simp only [Bool.or_eq_true, decide_eq_true_eq, Bool.not_eq_true', decide_eq_false_iff_not] at this
    rcases this with h | h
    · omega
    · exact h e
  · rintro ⟨h1, h2, h3⟩
    refine ⟨h1, h2, fun j hj => ?_⟩
    have hd := List.mem_range.1 hj
    by_cases h0 : j = 0
    · simp [h0]
    · simp [h0, h3 j (by omega) hd]
theorem per_unique {d e : Nat} {l : List Nat} (h : perB d l = true) (h' : perB e l = true) : d = e := by
  obtain ⟨h1, h2, h3⟩ := perB_iff.1 h
  obtain ⟨k1, k2, k3⟩ := perB_iff.1 h'
  rcases Nat.lt_trichotomy d e with hlt | he | hlt
  · exact absurd h2 (k3 d h1 hlt)
  · exact he
  · exact absurd k2 (h3 e k1 hlt)
theorem per_ex {l : List Nat} : ∀ (n : Nat), 0 < n → itr rotL n l = l → ∃ d, d ≤ n ∧ perB d l = true := by
  intro n
  induction n using Nat.strongRecOn with
  | _ n ih =>
    intro h0 h
    rcases Classical.em (∃ j, 0 < j ∧ j < n ∧ itr rotL j l = l) with ⟨j, hj, hjn, e⟩ | hne
    · obtain ⟨d, hd, hp⟩ := ih j hjn hj e
      exact ⟨d, by omega, hp⟩
    · exact ⟨n, Nat.le_refl _, perB_iff.2 ⟨h0, h, fun j hj hjn e => hne ⟨j, hj, hjn, e⟩⟩⟩
theorem per_dvd {d : Nat} {l : List Nat} (h : perB d l = true) : d ∣ l.length := by
  obtain ⟨h1, h2, h3⟩ := perB_iff.1 h
  have e := itr_mod h2 l.length
  rw [itr_rot_len] at e
  rcases Nat.eq_zero_or_pos (l.length % d) with h0 | h0
  · exact Nat.dvd_of_mod_eq_zero h0
  · exact absurd e.symm (h3 _ h0 (Nat.mod_lt _ h1))
/-- A word of period d goes on as it begins. -/
theorem per_get {d : Nat} {l : List Nat} (hd : 0 < d) (h : itr rotL d l = l) (hdl : d ∣ l.length) : ∀ (j : Nat), j < l.length → l.getD j 0 = l.getD (j % d) 0 := by
  intro j
  induction j using Nat.strongRecOn with
  | _ j ih =>
    intro hj
    rcases Nat.lt_or_ge j d with hlt | hge
    · rw [Nat.mod_eq_of_lt hlt]
    · have h1 := itr_rot_get d l (j - d) (by omega)
      rw [h, show j - d + d = j by omega, Nat.mod_eq_of_lt hj] at h1
      rw [← h1, ih (j - d) (by omega) (by omega), Nat.mod_eq_sub_mod hge]
theorem take_getD (l : List Nat) {d j : Nat} (h : j < d) : (l.take d).getD j 0 = l.getD j 0 := by
  rw [List.getD_eq_getElem?_getD, List.getD_eq_getElem?_getD, List.getElem?_take, if_pos h]
/-- A word, repeated to n letters. -/
def repL (n : Nat) (u : List Nat) : List Nat := (List.range n).map fun i => u.getD (i % u.length) 0
theorem repL_length (n : Nat) (u : List Nat) : (repL n u).length = n := by simp [repL]
theorem repL_get {n j : Nat} (u : List Nat) (h : j < n) : (repL n u).getD j 0 = u.getD (j % u.length) 0 := by
  rw [getD_get _ (by rw [repL_length]; exact h)]
  simp [repL]
section
variable {R : Nat → Nat → Bool} {m n d : Nat}
theorem cyc_take {l : List Nat} (hn : 0 < n) (h : Cyc R m n l) (hp : perB d l = true) : Cyc R m d (l.take d) ∧ perB d (l.take d) = true := by
  obtain ⟨rfl, hc⟩ := h
  obtain ⟨h1, h2, h3⟩ := perB_iff.1 hp
  have hdl := per_dvd hp
  have hz : 0 < l.length := hn
  have hle := Nat.le_of_dvd hz hdl
  have hul : (l.take d).length = d := by rw [List.length_take]; omega
  have hper := per_get h1 h2 hdl
  have hu : ∀ j, j < l.length → (l.take d).getD (j % d) 0 = l.getD j 0 := fun j hj => by
    rw [take_getD l (Nat.mod_lt _ h1), ← hper j hj]
  refine ⟨⟨hul, fun j hj => ?_⟩, perB_iff.2 ⟨h1, ?_, fun j hj hjd e => h3 j hj hjd ?_⟩⟩
  · have hcj := hc j (by omega)
    rw [take_getD l hj]
    refine ⟨hcj.1, ?_⟩
    have e1 : (l.take d).getD ((j + 1) % d) 0 = l.getD ((j + 1) % l.length) 0 := by
      rw [← hu _ (Nat.mod_lt _ hz), Nat.mod_mod_of_dvd _ hdl]
    rw [e1]; exact hcj.2
  · have := itr_rot_len (l.take d)
    rwa [hul] at this
  · refine ext_getD (itr_rot_length _ _) fun i hi => ?_
    rw [itr_rot_length] at hi
    rw [itr_rot_get _ _ _ hi, ← hu _ (Nat.mod_lt _ hz), Nat.mod_mod_of_dvd _ hdl, ← hu _ hi]
    have h5 := itr_rot_get j (l.take d) (i % d) (by rw [hul]; exact Nat.mod_lt _ h1)
    rw [e, hul, Nat.mod_add_mod] at h5
    exact h5.symm
theorem cyc_rep {u : List Nat} (hn : 0 < n) (h : Cyc R m d u) (hp : perB d u = true) (hdn : d ∣ n) : Cyc R m n (repL n u) ∧ perB d (repL n u) = true ∧ (repL n u).take d = u := by
  obtain ⟨rfl, hc⟩ := h
  obtain ⟨h1, h2, h3⟩ := perB_iff.1 hp
  have hle := Nat.le_of_dvd hn hdn
  have hg := fun j (hj : j < n) => repL_get (n := n) u hj
  refine ⟨⟨repL_length n u, fun j hj => ?_⟩, perB_iff.2 ⟨h1, ?_, fun j hj hjd e => h3 j hj hjd ?_⟩, ?_⟩
  · rw [hg j hj, hg _ (Nat.mod_lt _ hn), Nat.mod_mod_of_dvd _ hdn]
    have hcj := hc (j % u.length) (Nat.mod_lt _ h1)
    rw [Nat.mod_add_mod] at hcj
    exact hcj
  · refine ext_getD (itr_rot_length _ _) fun i hi => ?_
    rw [itr_rot_length, repL_length] at hi
    rw [itr_rot_get _ _ _ (by rw [repL_length]; exact hi), repL_length, hg _ (Nat.mod_lt _ hn), hg _ hi, Nat.mod_mod_of_dvd _ hdn, Nat.add_mod_right]
  · refine ext_getD (itr_rot_length _ _) fun i hi => ?_
    rw [itr_rot_length] at hi
    rw [itr_rot_get _ _ _ hi]
    have h5 := itr_rot_get j (repL n u) i (by rw [repL_length]; omega)
    rw [e, repL_length, hg i (by omega), hg _ (Nat.mod_lt _ hn), Nat.mod_mod_of_dvd _ hdn, Nat.mod_eq_of_lt hi] at h5
    exact h5.symm
  · refine ext_getD (by rw [List.length_take, repL_length]; omega) fun i hi => ?_
    rw [List.length_take, repL_length] at hi
    rw [take_getD _ (by omega), hg i (by omega), Nat.mod_eq_of_lt (by omega)]
/-- X n: all closed words of n letters, each once. -/
theorem per_count {X : Nat → List (List Nat)} (hX : ∀ n, 0 < n → (X n).Nodup) (hm : ∀ n, 0 < n → ∀ l, l ∈ X n ↔ Cyc R m n l) (hn : 0 < n) (hd : 0 < d) (hdn : d ∣ n) : ((X n).filter (perB d)).length = ((X d).filter (perB d)).length := by
  have h1 : (((X n).filter (perB d)).map (List.take d)).Perm ((X d).filter (perB d)) := by
    refine (List.perm_ext_iff_of_nodup ?_ ((hX d hd).filter _)).2 fun u => ?_
    · refine List.pairwise_map.2 (((hX n hn).filter _).imp_of_mem fun {a b} ha hb hne e => hne ?_)
      obtain ⟨ha1, ha2⟩ := List.mem_filter.1 ha
      obtain ⟨hb1, hb2⟩ := List.mem_filter.1 hb
      have ca := (hm n hn a).1 ha1
      have cb := (hm n hn b).1 hb1
      have pa := per_get hd (perB_iff.1 ha2).2.1 (per_dvd ha2)
      have pb := per_get hd (perB_iff.1 hb2).2.1 (per_dvd hb2)
      refine ext_getD (ca.1.trans cb.1.symm) fun j hj => ?_
      rw [pa j hj, pb j (by rw [cb.1]; rw [ca.1] at hj; exact hj), ← take_getD a (Nat.mod_lt j hd), ← take_getD b (Nat.mod_lt j hd), e]
    · rw [List.mem_map, List.mem_filter]
      constructor
      · rintro ⟨l, hl, rfl⟩
        obtain ⟨hl1, hl2⟩ := List.mem_filter.1 hl
        have := cyc_take hn ((hm n hn l).1 hl1) hl2
        exact ⟨(hm d hd _).2 this.1, this.2⟩
      · rintro ⟨hu1, hu2⟩
        have := cyc_rep hn ((hm d hd u).1 hu1) hu2 hdn
        exact ⟨repL n u, List.mem_filter.2 ⟨(hm n hn _).2 this.1, this.2.1⟩, this.2.2⟩
  have h2 := h1.length_eq
  rwa [List.length_map] at h2
theorem part_count {α : Type} (q : Nat → α → Bool) : ∀ (X : List α) (N : Nat), (∀ x ∈ X, ∃ d, d < N ∧ q d x = true) → (∀ x ∈ X, ∀ d e, q d x = true → q e x = true → d = e) → X.length = ((List.range N).map fun d => (X.filter (q d)).length).sum
  | [], N, _, _ => by
    have : ∀ l : List Nat, (l.map fun d => (([] : List α).filter (q d)).length).sum = 0 := fun l => by
      induction l with
      | nil => rfl
      | cons a l ih => simpa using ih
    rw [this]; rfl
  | x :: X, N, h1, h2 => by
    have ih := part_count q X N (fun y hy => h1 y (by simp [hy])) (fun y hy => h2 y (by simp [hy]))
    obtain ⟨d0, hd0, hq0⟩ := h1 x (by simp)
    have hq : ∀ d, q d x = decide (d = d0) := fun d => by
      by_cases e : d = d0
      · rw [e, hq0]; simp
      · cases hqd : q d x with
        | false => simp [e]
        | true => exact absurd (h2 x (by simp) d d0 hqd hq0) e
    have hone : ∀ (g : Nat → Nat) (M : Nat), ((List.range M).map fun d => g d + if d = d0 then 1 else 0).sum = ((List.range M).map g).sum + if d0 < M then 1 else 0 := fun g M => by
      induction M with
      | zero => simp
      | succ M ih2 =>
        rw [List.range_succ, List.map_append, List.map_append, List.sum_append, List.sum_append, ih2]
        simp only [List.map_cons, List.map_nil, List.sum_cons, List.sum_nil]
        by_cases e : M = d0
        · subst e; simp; omega
        · have : (d0 < M + 1) ↔ (d0 < M) := by omega
          simp only [this, e, if_false]
          omega
    have hf : ∀ d, ((x :: X).filter (q d)).length = (X.filter (q d)).length + if d = d0 then 1 else 0 := fun d => by
      rw [List.filter_cons, hq d]
      by_cases e : d = d0 <;> simp [e]
    rw [List.length_cons, ih]
    simp only [hf]
    rw [hone, if_pos hd0]
/-- The words of length n, by least periods. -/
theorem closed_parts {X : Nat → List (List Nat)} (hX : ∀ n, 0 < n → (X n).Nodup) (hm : ∀ n, 0 < n → ∀ l, l ∈ X n ↔ Cyc R m n l) (hn : 0 < n) :
    (X n).length = ((List.range (n + 1)).map fun d => if 0 < d ∧ n % d = 0 then ((X d).filter (perB d)).length else 0).sum := by
  rw [part_count perB (X n) (n + 1) (fun l hl => ?_) (fun l _ d e h1 h2 => per_unique h1 h2)]
  · congr 1
    refine List.map_congr_left fun d hd => ?_
    split
    · rename_i h
      exact per_count hX hm hn h.1 (Nat.dvd_of_mod_eq_zero h.2)
    · rename_i h
      have : ∀ l ∈ X n, ¬ perB d l = true := fun l hl hp => h ⟨(perB_iff.1 hp).1, by
        have h2 := per_dvd hp
        rw [((hm n hn l).1 hl).1] at h2
        exact Nat.mod_eq_zero_of_dvd h2⟩
      rw [List.filter_eq_nil_iff.2 this]; rfl
  · have hc := ((hm n hn l).1 hl).1
    obtain ⟨d, h1, h2⟩ := per_ex n hn (l := l) (by rw [← hc]; exact itr_rot_len l)
    exact ⟨d, by omega, h2⟩
/-- n divides the number of those of least period n. -/
theorem prim_dvd {X : Nat → List (List Nat)} (hX : ∀ n, 0 < n → (X n).Nodup) (hm : ∀ n, 0 < n → ∀ l, l ∈ X n ↔ Cyc R m n l) (hn : 0 < n) : n ∣ ((X n).filter (perB n)).length := by
  have hc : ∀ l, l ∈ (X n).filter (perB n) ↔ Cyc R m n l ∧ perB n l = true := fun l => by rw [List.mem_filter, hm n hn]
  refine orbit_dvd rotL n hn _ _ (Nat.le_refl _) ((hX n hn).filter _) (fun l hl => ?_) (fun l hl => ?_) (fun l hl => ?_)
  · obtain ⟨h1, h2⟩ := (hc l).1 hl
    obtain ⟨p1, p2, p3⟩ := perB_iff.1 h2
    refine (hc _).2 ⟨cyc_rot h1, perB_iff.2 ⟨p1, ?_, fun j hj hjn e => p3 j hj hjn ?_⟩⟩
    · show itr rotL (n) (itr rotL 1 l) = itr rotL 1 l
      rw [← itr_add, Nat.add_comm, itr_add, p2]
    · have e2 : itr rotL (n - 1) (itr rotL j (itr rotL 1 l)) = itr rotL (n - 1) (itr rotL 1 l) := by
        have e' : itr rotL j (itr rotL 1 l) = itr rotL 1 l := e
        rw [e']
      rw [← itr_add, ← itr_add, ← itr_add, show 1 + (j + (n - 1)) = n + j by omega, show 1 + (n - 1) = n by omega, itr_add, p2] at e2
      exact e2
  · have := ((hc l).1 hl).1.1
    have h := itr_rot_len l
    rwa [this] at h
  · exact (perB_iff.1 ((hc l).1 hl).2).2.2
end
end Go.Proofs.Ythpgeeaccmgbkaa

/- Divisors, with the sign that counting.divisors gives them: plain. -/
namespace Go.Proofs.Ythpgeeaccmgbkaa

/-- The loop over the factors. -/
def mobL : Nat → Nat → Nat → Int → Int
  | 0, _, _, s => s
  | f + 1, m, p, s => if m ≤ 1 then s else if m % p ≠ 0 then mobL f m (p + 1) s else if (m / p) % p = 0 then 0 else mobL f (m / p) (p + 1) (-s)
def mu (k : Nat) : Int := mobL (k + 1) k 2 1
theorem mobL_end {f m p : Nat} {s : Int} (h : m ≤ 1) : mobL f m p s = s := by
  cases f with
  | zero => rfl
  | succ f => rw [mobL, if_pos h]
theorem mobL_next {f m p : Nat} {s : Int} (h : ¬ m ≤ 1) (h2 : m % p ≠ 0) : mobL (f + 1) m p s = mobL f m (p + 1) s := by rw [mobL, if_neg h, if_pos h2]
theorem mobL_sq {f m p : Nat} {s : Int} (h : ¬ m ≤ 1) (h2 : m % p = 0) (h3 : (m / p) % p = 0) : mobL (f + 1) m p s = 0 := by rw [mobL, if_neg h, if_neg (by omega), if_pos h3]
theorem mobL_div {f m p : Nat} {s : Int} (h : ¬ m ≤ 1) (h2 : m % p = 0) (h3 : (m / p) % p ≠ 0) : mobL (f + 1) m p s = mobL f (m / p) (p + 1) (-s) := by rw [mobL, if_neg h, if_neg (by omega), if_neg h3]
theorem mobL_le : ∀ (f m p : Nat) (s : Int), -1 ≤ s → s ≤ 1 → -1 ≤ mobL f m p s ∧ mobL f m p s ≤ 1
  | 0, _, _, s, h1, h2 => ⟨h1, h2⟩
  | f + 1, m, p, s, h1, h2 => by
    rw [mobL]
    split
    · exact ⟨h1, h2⟩
    · split
      · exact mobL_le f _ _ _ h1 h2
      · split
        · omega
        · exact mobL_le f _ _ _ (by omega) (by omega)
theorem mu_le (k : Nat) : -1 ≤ mu k ∧ mu k ≤ 1 := mobL_le _ _ _ _ (by omega) (by omega)
/-- No factor below p. -/
def NoFac (m p : Nat) : Prop := ∀ q, 2 ≤ q → q < p → m % q ≠ 0
theorem NoFac.le {m p : Nat} (h : NoFac m p) (hm : ¬ m ≤ 1) : p ≤ m := by
  refine Nat.le_of_not_lt fun hlt => h m (by omega) hlt (Nat.mod_self m)
theorem NoFac.two (m : Nat) : NoFac m 2 := fun q h1 h2 => by omega
theorem NoFac.next {m p : Nat} (h : NoFac m p) (hp : m % p ≠ 0) : NoFac m (p + 1) := fun q h1 h2 => by
  by_cases e : q = p
  · subst e; exact hp
  · exact h q h1 (by omega)
theorem NoFac.div {m p : Nat} (h : NoFac m p) (hd : m % p = 0) (hp : (m / p) % p ≠ 0) : NoFac (m / p) (p + 1) := fun q h1 h2 => by
  by_cases e : q = p
  · subst e; exact hp
  · intro e2
    refine h q h1 (by omega) ?_
    have h3 : q ∣ m / p := Nat.dvd_of_mod_eq_zero e2
    have h4 : m / p ∣ m := Nat.div_dvd_of_dvd (Nat.dvd_of_mod_eq_zero hd)
    exact Nat.mod_eq_zero_of_dvd (Nat.dvd_trans h3 h4)
/-- The divisors up to j, with their signs. -/
def divL (n j : Nat) : List (Nat × Int) := ((List.range j).filter fun i => n % (i + 1) == 0).map fun i => (i + 1, mu (n / (i + 1)))
theorem divL_zero (n : Nat) : divL n 0 = [] := rfl
theorem divL_yes {n j : Nat} (h : n % (j + 1) = 0) : divL n (j + 1) = divL n j ++ [(j + 1, mu (n / (j + 1)))] := by
  simp [divL, List.range_succ, h]
theorem divL_no {n j : Nat} (h : n % (j + 1) ≠ 0) : divL n (j + 1) = divL n j := by
  simp [divL, List.range_succ, h]
theorem divL_len_le (n : Nat) {i j : Nat} (h : i ≤ j) : (divL n i).length ≤ (divL n j).length := by
  induction j with
  | zero => have : i = 0 := by omega
            subst this; exact Nat.le_refl _
  | succ j ih =>
    by_cases e : i = j + 1
    · subst e; exact Nat.le_refl _
    · refine Nat.le_trans (ih (by omega)) ?_
      by_cases hj : n % (j + 1) = 0
      · rw [divL_yes hj]; simp
      · rw [divL_no hj]; exact Nat.le_refl _
theorem divL_pre (n : Nat) {i j : Nat} (h : i ≤ j) : ∃ r, divL n j = divL n i ++ r := by
  induction j with
  | zero => have : i = 0 := by omega
            subst this; exact ⟨[], by simp⟩
  | succ j ih =>
    by_cases e : i = j + 1
    · subst e; exact ⟨[], by simp⟩
    · obtain ⟨r, hr⟩ := ih (by omega)
      by_cases hj : n % (j + 1) = 0
      · rw [divL_yes hj, hr]; exact ⟨r ++ [(j + 1, mu (n / (j + 1)))], by simp⟩
      · rw [divL_no hj]; exact ⟨r, hr⟩
/-- A divisor's place in the list. -/
theorem divL_at {n j k : Nat} (h : n % (j + 1) = 0) (hj : j < k) : (divL n k)[(divL n j).length]? = some (j + 1, mu (n / (j + 1))) := by
  obtain ⟨r, hr⟩ := divL_pre n (i := j + 1) (j := k) (by omega)
  rw [hr, divL_yes h]
  simp
end Go.Proofs.Ythpgeeaccmgbkaa


/- Contracts and plain laws of several functions, one after the other: OrbC, PlainOr, OrbQ, AwkP22, AwkC22. -/
import Derived.Test.YthpgeeaccmgbkaaGreatOrb
import Derived.Test.YthpgeeaccmgbkaaGreatPart8
import Derived.Test.YthpgeeaccmgbkaaGreatPart10
import Derived.Test.YthpgeeaccmgbkaaGreatPart11
import Derived.Test.YthpgeeaccmgbkaaGreatDivM
import Derived.Test.YthpgeeaccmgbkaaGreatPart5
import Derived.Test.YthpgeeaccmgbkaaGreatSer
import Derived.Test.YthpgeeaccmgbkaaGreatDivN
/- counting.Orbits as a call. -/
namespace Go.Proofs.YthpgeeaccmgbkaaGreat
open Go.RowKit

theorem orbits_any (L : Int) (S N : Nat) (es : List E3) (v : Value) (q r : Int) (w : World) (hr : Row w v es.length (ce es)) (hok : okEs es) (hc : chk L (S : Int) es = 0) (hS : S ≤ 32) (hN1 : 1 ≤ N) (hN : N ≤ 4096)
    (hdiv : ∀ w', Calls Tryz.prog 46 #[IntV (oS (clN es S) (fun x : Nat × Int => x) (divL N N)), IntV (N : Int)] w' (Ret w' (.tuple #[IntV q, IntV r, .int .i64 0]))) :
    Calls Tryz.prog 16 #[.agg #[.int .i64 L, .int .i64 (S : Int), v], .int .i64 (N : Int)] w (Ret w (.tuple #[IntV q, .int .i64 0])) :=
  (callsIn_wide (n := 8)).1 (orbits_in L S N es v q r w hr hok hc hS hN1 hN hdiv)
end Go.Proofs.YthpgeeaccmgbkaaGreat

/- Moebius' inversion up to 40, plain: the sum that counting.Orbits computes. -/
namespace Go.Proofs.YthpgeeaccmgbkaaGreat

/-- How often the closed paths of the least period e are counted. -/
def muK (n e : Nat) : Int := ((divL n n).map fun x => if 0 < e ∧ x.1 % e = 0 then x.2 else 0).sum
theorem muK_one : ∀ n ∈ List.range 41, 0 < n → ∀ e ∈ List.range 41, muK n e = if e = n then 1 else 0 := by decide +kernel
/-- The sum over the divisors of d below M. -/
def dS (P : Nat → Nat) (d M : Nat) : Int := ((List.range M).map fun e => if 0 < e ∧ d % e = 0 then (P e : Int) else 0).sum
theorem dS_succ (P : Nat → Nat) (d M : Nat) : dS P d (M + 1) = dS P d M + if 0 < M ∧ d % M = 0 then (P M : Int) else 0 := by
  simp [dS, List.range_succ]
theorem dS_ext (P : Nat → Nat) {d : Nat} (hd : 0 < d) (k : Nat) : dS P d (d + 1 + k) = dS P d (d + 1) := by
  induction k with
  | zero => rfl
  | succ k ih =>
    rw [← Nat.add_assoc, dS_succ, ih, if_neg]
    · simp
    · rw [Nat.mod_eq_of_lt (by omega)]; omega
theorem dS_cast (P : Nat → Nat) (d M : Nat) : ((((List.range M).map fun e => if 0 < e ∧ d % e = 0 then P e else 0).sum : Nat) : Int) = dS P d M := by
  induction M with
  | zero => rfl
  | succ M ih =>
    rw [dS_succ, ← ih, List.range_succ]
    simp only [List.map_append, List.sum_append, List.map_cons, List.map_nil, List.sum_cons, List.sum_nil, Nat.add_zero, Int.natCast_add]
    split <;> simp
theorem mul_sum' {α : Type} (c : Int) (l : List α) (f : α → Int) : c * (l.map f).sum = (l.map fun x => c * f x).sum := by
  induction l with
  | nil => simp
  | cons x l ih => simp only [List.map_cons, List.sum_cons, Int.mul_add, ih]
theorem sum_mul' {α : Type} (c : Int) (l : List α) (f : α → Int) : (l.map fun x => f x * c).sum = (l.map f).sum * c := by
  induction l with
  | nil => simp
  | cons x l ih => simp only [List.map_cons, List.sum_cons, Int.add_mul, ih]
theorem pick_sum (n : Nat) (f : Nat → Int) : ∀ M, n < M → ((List.range M).map fun e => if e = n then f e else 0).sum = f n := by
  have h0 : ∀ M, M ≤ n → ((List.range M).map fun e => if e = n then f e else 0).sum = 0 := fun M => by
    induction M with
    | zero => intro; rfl
    | succ M ih =>
      intro h
      rw [List.range_succ]
      simp only [List.map_append, List.sum_append, List.map_cons, List.map_nil, List.sum_cons, List.sum_nil]
      rw [ih (by omega), if_neg (by omega)]; rfl
  intro M
  induction M with
  | zero => intro h; omega
  | succ M ih =>
    intro h
    rw [List.range_succ]
    simp only [List.map_append, List.sum_append, List.map_cons, List.map_nil, List.sum_cons, List.sum_nil]
    by_cases e : n = M
    · subst e; rw [h0 n (Nat.le_refl _), if_pos rfl]; simp
    · rw [ih (by omega), if_neg (by omega)]; simp
theorem divL_range {n : Nat} {x : Nat × Int} (h : x ∈ divL n n) : 0 < x.1 ∧ x.1 ≤ n := by
  obtain ⟨i, hi, rfl⟩ := List.mem_map.1 h
  have := List.mem_range.1 (List.mem_filter.1 hi).1
  exact ⟨Nat.succ_pos _, this⟩
theorem mobius {P : Nat → Nat} {F : Nat → Int} (hF : ∀ d, 0 < d → d ≤ 40 → F d = dS P d (d + 1)) {n : Nat} (hn : 0 < n) (hn40 : n ≤ 40) : oS F (fun x : Nat × Int => x) (divL n n) = P n := by
  have h1 : ∀ x ∈ divL n n, x.2 * F x.1 = ((List.range 41).map fun e => (if 0 < e ∧ x.1 % e = 0 then x.2 else 0) * (P e : Int)).sum := fun x hx => by
    have hr := divL_range hx
    rw [hF x.1 hr.1 (by omega), ← dS_ext P hr.1 (40 - x.1), show x.1 + 1 + (40 - x.1) = 41 by omega, dS, mul_sum']
    congr 1
    refine List.map_congr_left fun e _ => ?_
    split <;> simp
  unfold oS
  rw [List.map_congr_left h1, sum_swap]
  have h2 : ∀ e ∈ List.range 41, ((divL n n).map fun x => (if 0 < e ∧ x.1 % e = 0 then x.2 else 0) * (P e : Int)).sum = if e = n then (P e : Int) else 0 := fun e he => by
    rw [sum_mul']
    have := muK_one n (List.mem_range.2 (by omega)) hn e he
    unfold muK at this
    rw [this]
    split <;> simp
  rw [List.map_congr_left h2]
  exact pick_sum n (fun e => (P e : Int)) 41 (by omega)
/-- The orbits of a graph: the closed paths of the least period d are d times as many as orbits. -/
theorem orbits_ex {es : List E3} {S : Nat} (hin : InS S es) : ∃ P : Nat → Nat, (∀ d, 0 < d → d ∣ P d) ∧ (∀ n, 0 < n → clN es S n = dS P n (n + 1)) ∧ (∀ n, 0 < n → n ≤ 40 → oS (clN es S) (fun x : Nat × Int => x) (divL n n) = P n) := by
  obtain ⟨P, h1, h2⟩ := necklace hin
  have h3 : ∀ n, 0 < n → clN es S n = dS P n (n + 1) := fun n hn => by rw [h2 n hn, dS_cast]
  exact ⟨P, h1, h3, fun n hn h40 => mobius (fun d hd _ => h3 d hd) hn h40⟩
end Go.Proofs.YthpgeeaccmgbkaaGreat

/- counting.Orbits at any valid graph, up to 40: the orbits. -/
namespace Go.Proofs.YthpgeeaccmgbkaaGreat
open Go.RowKit

theorem dS_nonneg (P : Nat → Nat) (d M : Nat) : 0 ≤ dS P d M := by
  induction M with
  | zero => exact Int.le_refl _
  | succ M ih => rw [dS_succ]; split <;> omega
theorem orb_le {es : List E3} {S : Nat} {P : Nat → Nat} (h : ∀ n, 0 < n → clN es S n = dS P n (n + 1)) {n : Nat} (hn : 0 < n) : (P n : Int) ≤ clN es S n := by
  rw [h n hn, dS_succ, if_pos ⟨hn, Nat.mod_self n⟩]
  have := dS_nonneg P n n
  omega
theorem dS_sm {es : List E3} {S : Nat} {P : Nat → Nat} (h : ∀ n, 0 < n → clN es S n = dS P n (n + 1)) (hl : es.length ≤ 1024) (hS : S ≤ 32) {n : Nat} (hn : 0 < n) : ∀ M, M ≤ n + 1 → sm (2 * n + 2) (dS P n M) := fun M hM => by
  have hmono : ∀ j, dS P n M ≤ dS P n (M + j) := fun j => by
    induction j with
    | zero => exact Int.le_refl _
    | succ j ih => rw [← Nat.add_assoc, dS_succ]; split <;> omega
  have h1 : dS P n M ≤ dS P n (n + 1) := by
    have := hmono (n + 1 - M)
    rwa [show M + (n + 1 - M) = n + 1 by omega] at this
  have h2 := clN_sm hl hS (Nat.le_refl n)
  rw [h n hn] at h2
  have h3 := dS_nonneg P n M
  unfold sm at h2 ⊢
  omega
theorem orbits_q (L : Int) (S N : Nat) (es : List E3) (v : Value) (P : Nat → Nat) (w : World) (hr : Row w v es.length (ce es)) (hok : okEs es) (hc : chk L (S : Int) es = 0) (hS : S ≤ 32) (hN1 : 1 ≤ N) (hN : N ≤ 40)
    (h2 : ∀ n, 0 < n → clN es S n = dS P n (n + 1)) (h3 : ∀ n, 0 < n → n ≤ 40 → oS (clN es S) (fun x : Nat × Int => x) (divL n n) = P n) :
    Calls Tryz.prog 16 #[.agg #[.int .i64 L, .int .i64 (S : Int), v], .int .i64 (N : Int)] w (Ret w (.tuple #[IntV ((P N / N : Nat) : Int), .int .i64 0])) := by
  have hca := chk_all hc
  have hle := orb_le h2 (n := N) (by omega)
  have hsm := clN_sm (es := es) hca.2.2.2.1 hS (Nat.le_refl N)
  have hX : P N < 4294967296 ^ (2 * N + 2) := by
    have h4 : (256 : Nat) ^ (2 * N + 2) ≤ 4294967296 ^ (2 * N + 2) := Nat.pow_le_pow_left (by decide) _
    unfold sm at hsm
    omega
  refine orbits_any L S N es v _ ((P N % N : Nat) : Int) w hr hok hc hS hN1 (by omega) (fun w' => ?_)
  rw [h3 N (by omega) hN]
  exact div_any (P N) N w' (2 * N + 2) hX (by omega) (by omega) (by omega)
end Go.Proofs.YthpgeeaccmgbkaaGreat

/- The example of groovelaw22.awake, in numbers. -/
namespace Go.Proofs.YthpgeeaccmgbkaaGreat

def kE : List E3 := [⟨0, 0, 0⟩, ⟨0, 1, 1⟩, ⟨1, 0, 0⟩]
def kC (j : Nat) : Int := if j = 0 then 1 else if j ≤ 2 then -1 else 0
theorem k_chk : chk 2 ((2 : Nat) : Int) kE = 0 := by decide +kernel
theorem k_row : rowK kE 2 allP 3 = [5, 3] := by decide +kernel
theorem k_closed : clN kE 2 3 = 4 := by decide +kernel
theorem k_A : matF 2 2 (adjF kE) = [[1, 1], [1, 0]] := by decide +kernel
theorem k_ch0 : chM [[1, 1], [1, 0]] 2 kC 0 = [[1, 0], [0, 1]] := by decide +kernel
theorem k_ch1 : chM [[1, 1], [1, 0]] 2 kC 1 = [[0, 1], [1, -1]] := by decide +kernel
theorem k_tr0 : trM (nxM [[1, 1], [1, 0]] 2 kC 0) 2 = 1 := by decide +kernel
theorem k_tr1 : trM (nxM [[1, 1], [1, 0]] 2 kC 1) 2 = 2 := by decide +kernel
theorem k_den : tzI (pL kC 2 3).reverse = [1, -1, -1] := by decide +kernel
theorem k_num : tzI (numL (pL kC 2 3).reverse (bL kE 0 2) 2) = [1, 1] := by decide +kernel
theorem k_orb : oS (clN kE 2) (fun x : Nat × Int => x) (divL 3 3) = 3 := by decide +kernel
theorem sm2_of {z : Int} (h : z.natAbs < 65536) : sm 2 z := by
  unfold sm
  have h2 : (256 : Nat) ^ 2 = 65536 := by decide
  omega
theorem k_ok (M : List (List Int)) (h : M.length = 2 ∧ (∀ r ∈ M, r.length = 2) ∧ ∀ r ∈ M, ∀ z ∈ r, z.natAbs < 65536) : MatOk M 2 2 2 where
  len := h.1
  row := h.2.1
  sm := fun r hr z hz => sm2_of (h.2.2 r hr z hz)
theorem k_ch : ∀ j, j < 2 → MatOk (chM (matF 2 2 (adjF kE)) 2 kC j) 2 2 2 := by
  intro j hj
  rw [k_A]
  match j, hj with
  | 0, _ => rw [k_ch0]; exact k_ok _ (by decide)
  | 1, _ => rw [k_ch1]; exact k_ok _ (by decide)
theorem k_c : ∀ j, j ≤ 2 → sm 2 (kC j) := by
  intro j hj
  refine sm2_of ?_
  unfold kC
  split
  · decide
  · decide
end Go.Proofs.YthpgeeaccmgbkaaGreat

/- The calls of groovelaw22.awake at its example. -/
namespace Go.Proofs.YthpgeeaccmgbkaaGreat
open Go.RowKit

theorem k_okEs : okEs kE := by
  intro e he
  simp only [kE, List.mem_cons, List.not_mem_nil, or_false] at he
  rcases he with rfl | rfl | rfl <;> (unfold E3.ok Ints; decide)
theorem k_from (v : Value) (w : World) (hr : Row w v 3 (ce kE)) : Calls Tryz.prog 10 #[.agg #[.int .i64 2, .int .i64 2, v], .int .i64 3] w (FromRet 2 [5, 3] w) := by
  have h := cfrom_ok 2 2 3 kE v w hr k_okEs k_chk (by omega)
  rw [k_row] at h
  exact h
theorem k_closedC (v : Value) (w : World) (hr : Row w v 3 (ce kE)) : Calls Tryz.prog 14 #[.agg #[.int .i64 2, .int .i64 2, v], .int .i64 3] w (Ret w (.tuple #[IntV 4, .int .i64 0])) := by
  have h := Closed_ok 2 2 3 kE v w hr k_okEs k_chk (by omega) (by omega)
  rw [k_closed] at h
  exact h
theorem k_orbits (v : Value) (w : World) (hr : Row w v 3 (ce kE)) : Calls Tryz.prog 16 #[.agg #[.int .i64 2, .int .i64 2, v], .int .i64 3] w (Ret w (.tuple #[IntV 1, .int .i64 0])) := by
  refine orbits_any 2 2 3 kE v 1 0 w hr k_okEs k_chk (by omega) (by omega) (by omega) (fun w' => ?_)
  rw [k_orb]
  exact div_one 3 3 w' (by omega) (by omega) (by omega)
theorem k_series (v : Value) (w : World) (hr : Row w v 3 (ce kE)) : Calls Tryz.prog 20 #[.agg #[.int .i64 2, .int .i64 2, v], .int .i64 0] w
    (fun e w' => Below w.heap.size w w' ∧ ∃ a b, e = .returned (.tuple #[a, b, .int .i64 0]) ∧ Row w' a 2 (civ [1, 1]) ∧ Row w' b 3 (civ [1, -1, -1])) := by
  have h := series_any 2 2 0 2 kE v kC (fun _ => 0) w hr k_okEs k_chk (by omega) (by omega) (by omega) (by omega) k_ch k_c (fun j hj w' => by
    rw [k_A]
    match j, hj with
    | 0, _ =>
      rw [k_tr0]
      exact div_neg 1 1 w' (by omega) (by omega) (by omega) (by omega) (by omega)
    | 1, _ =>
      rw [k_tr1]
      exact div_neg 2 2 w' (by omega) (by omega) (by omega) (by omega) (by omega))
  refine h.mono ?_
  rintro e w' ⟨h1, a, b, h2, h3, h4⟩
  rw [k_num] at h3
  rw [k_den] at h4
  exact ⟨h1, a, b, h2, h3, h4⟩
end Go.Proofs.YthpgeeaccmgbkaaGreat


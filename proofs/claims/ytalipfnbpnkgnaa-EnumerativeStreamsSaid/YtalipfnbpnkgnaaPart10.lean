/- Contracts and plain laws of several functions, one after the other: PlainK, PlainK2. -/
import Derived.Test.YtalipfnbpnkgnaaGold
import Derived.Test.YtalipfnbpnkgnaaPart5
import Derived.Test.YtalipfnbpnkgnaaELeave
import Derived.Test.YtalipfnbpnkgnaaETab
/- What rank and unrank compute, in plain Lean. -/
namespace Go.Proofs.Ytalipfnbpnkgnaa
open Go.RowKit

/-- The edges that leave a state, in order. -/
def outE (es : List E3) (s : Int) : List E3 := es.filter fun e => e.f == s
/-- The letter of a label. -/
def letL (l : Int) : UInt8 := letters.getD l.toNat 0
/-- rank's inner loop: what is added until the edge with the letter is met. -/
def rkGo (es : List E3) (p : Int → Bool) (k : Nat) (c : UInt8) : List E3 → Int → Int × Option Int
  | [], sum => (sum, none)
  | e :: r, sum => if letL e.l = c then (sum, some e.t) else rkGo es p k c r (sum + cw es p k e.t)
/-- rank. -/
def rk (es : List E3) (p : Int → Bool) : List UInt8 → Int → Int → Option (Int × Int)
  | [], s, sum => some (sum, s)
  | c :: w, s, sum => match rkGo es p w.length c (outE es s) sum with
    | (sum', some t) => rk es p w t sum'
    | (_, none) => none
/-- unrank's inner loop: the first edge whose words are more than what is left. -/
def urGo (es : List E3) (p : Int → Bool) (k : Nat) : List E3 → Int → Option E3 × Int
  | [], a => (none, a)
  | e :: r, a => if a < cw es p k e.t then (some e, a) else urGo es p k r (a - cw es p k e.t)
/-- unrank: what is left of the word, and where it ends. -/
def ur (es : List E3) (p : Int → Bool) : Nat → Int → Int → List UInt8 × Int
  | 0, s, _ => ([], s)
  | n + 1, s, a => match urGo es p n (outE es s) a with
    | (some e, a') => (letL e.l :: (ur es p n e.t a').1, (ur es p n e.t a').2)
    | (none, a') => ur es p n s a'
theorem gold_rank : rk goldE (fun _ => true) [48, 49, 48] 0 0 = some (2, 0) := by decide
theorem gold_unrank : ur goldE (fun _ => true) 3 0 4 = ([49, 48, 49], 1) := by decide
end Go.Proofs.Ytalipfnbpnkgnaa

/- rank's and unrank's inner loops along a prefix, and bounds, in plain Lean. -/
namespace Go.Proofs.Ytalipfnbpnkgnaa
open Go.RowKit

theorem rkGo_append (es : List E3) (p : Int → Bool) (k : Nat) (c : UInt8) (r : List E3) : ∀ (l : List E3) (sum : Int),
    rkGo es p k c (l ++ r) sum = if (rkGo es p k c l sum).2 = none then rkGo es p k c r (rkGo es p k c l sum).1 else rkGo es p k c l sum
  | [], sum => by simp [rkGo]
  | e :: l, sum => by
    rw [List.cons_append, rkGo, rkGo]
    split
    · simp
    · exact rkGo_append es p k c r l _
def bigE : Nat := 4096
def bigM : Int := ((65536 ^ bigE : Nat) : Int)
theorem bigM_nonneg : 0 ≤ bigM := Int.natCast_nonneg _
theorem cw_bigM {es : List E3} (hl : es.length ≤ 65536) (p : Int → Bool) (k : Nat) (hk : k ≤ 4096) (s : Int) : 0 ≤ cw es p k s ∧ cw es p k s ≤ bigM := by
  refine ⟨cw_nonneg es p k s, Int.le_trans (cw_le_len es p k s) ?_⟩
  unfold bigM
  have h3 : es.length ^ k ≤ 65536 ^ k := Nat.pow_le_pow_left hl k
  have h4 : 65536 ^ k ≤ 65536 ^ bigE := Nat.pow_le_pow_right (by decide) hk
  exact Int.ofNat_le.2 (Nat.le_trans h3 h4)
/-- A sum of at most j numbers of words. -/
def SumOk (j : Nat) (x : Int) : Prop := 0 ≤ x ∧ x ≤ (j : Int) * bigM
theorem SumOk.add {j : Nat} {x y : Int} (h : SumOk j x) (hy : 0 ≤ y ∧ y ≤ bigM) : SumOk (j + 1) (x + y) := by
  refine ⟨by have := h.1; omega, ?_⟩
  have h2 := h.2
  rw [show ((j + 1 : Nat) : Int) * bigM = (j : Int) * bigM + bigM by rw [Int.natCast_succ, Int.add_mul, Int.one_mul]]
  omega
theorem SumOk.mono {i j : Nat} {x : Int} (h : SumOk i x) (hij : i ≤ j) : SumOk j x := by
  refine ⟨h.1, Int.le_trans h.2 ?_⟩
  exact Int.mul_le_mul_of_nonneg_right (Int.ofNat_le.2 hij) bigM_nonneg
theorem SumOk.small {j : Nat} {x : Int} (h : SumOk j x) (hj : j ≤ 16777216) : small x := by
  have h2 := h.2
  have h1 := h.1
  refine small_of (m := 3 + 2 * bigE + 1) ?_ (by unfold bigE; decide)
  obtain ⟨y, rfl⟩ : ∃ y : Nat, x = y := ⟨x.toNat, by omega⟩
  have h3 : y ≤ j * 65536 ^ bigE := by
    unfold bigM at h2
    exact Int.ofNat_le.1 (by rw [Int.natCast_mul]; exact h2)
  have h4 : j * 65536 ^ bigE ≤ 256 ^ 3 * 256 ^ (2 * bigE) := by
    have e1 : (65536 : Nat) ^ bigE = 256 ^ (2 * bigE) := by
      rw [show (65536 : Nat) = 256 ^ 2 by decide, ← Nat.pow_mul]
    rw [e1]
    exact Nat.mul_le_mul_right _ (Nat.le_trans hj (by decide))
  rw [← Nat.pow_add] at h4
  have h5 : 256 ^ (3 + 2 * bigE) < 256 ^ (3 + 2 * bigE + 1) := Nat.pow_lt_pow_right (by decide) (Nat.lt_succ_self _)
  rw [Int.natAbs_natCast]
  exact Nat.lt_of_le_of_lt (Nat.le_trans h3 h4) h5
theorem rkGo_ok {es : List E3} (hl : es.length ≤ 65536) (p : Int → Bool) (k : Nat) (hk : k ≤ 4096) (c : UInt8) : ∀ (l : List E3) (j : Nat) (sum : Int), SumOk j sum → SumOk (j + l.length) (rkGo es p k c l sum).1
  | [], _, _, h => h
  | e :: l, j, sum, h => by
    rw [rkGo]
    split
    · exact h.mono (by simp)
    · have := rkGo_ok hl p k hk c l (j + 1) _ (h.add (cw_bigM hl p k hk e.t))
      exact this.mono (by simp; omega)
/-- A walk that stopped in a prefix. -/
theorem rkGo_prefix {es : List E3} {p : Int → Bool} {k : Nat} {c : UInt8} {pre l : List E3} {sum t : Int} (h : pre <+: l) (ht : (rkGo es p k c pre sum).2 = some t) : rkGo es p k c l sum = ((rkGo es p k c pre sum).1, some t) := by
  obtain ⟨r, rfl⟩ := h
  rw [rkGo_append, if_neg (by rw [ht]; simp)]
  exact Prod.ext rfl ht
theorem rkGo_snoc_no {es : List E3} {p : Int → Bool} {k : Nat} {c : UInt8} {pre : List E3} {e : E3} {sum : Int} (h : (rkGo es p k c pre sum).2 = none) (hc : ¬ letL e.l = c) : rkGo es p k c (pre ++ [e]) sum = ((rkGo es p k c pre sum).1 + cw es p k e.t, none) := by
  rw [rkGo_append, if_pos h, rkGo, if_neg hc, rkGo]
theorem rkGo_snoc_yes {es : List E3} {p : Int → Bool} {k : Nat} {c : UInt8} {pre : List E3} {e : E3} {sum : Int} (h : (rkGo es p k c pre sum).2 = none) (hc : letL e.l = c) : rkGo es p k c (pre ++ [e]) sum = ((rkGo es p k c pre sum).1, some e.t) := by
  rw [rkGo_append, if_pos h, rkGo, if_pos hc]
theorem lvA_out (s : Int) (es : List E3) : (lvA s es es.length).map (fun e => e.1) = outE es s := by
  rw [lvA_map, List.take_length]; rfl
theorem rkGo_mem {es : List E3} {p : Int → Bool} {k : Nat} {c : UInt8} : ∀ {l : List E3} {sum t : Int}, (rkGo es p k c l sum).2 = some t → ∃ e ∈ l, e.t = t
  | [], _, _, h => by cases h
  | e :: l, sum, t, h => by
    rw [rkGo] at h
    split at h
    · exact ⟨e, by simp, by injection h⟩
    · obtain ⟨e', h1, h2⟩ := rkGo_mem h
      exact ⟨e', by simp [h1], h2⟩
end Go.Proofs.Ytalipfnbpnkgnaa

/- The reference's count: partial sums. -/
import Derived.Test.YtadibbbaegbljaaPlainC
namespace Go.Proofs.Ytadibbbaegbljaa
open Go.RowKit

/-- What the reference has added up when D .. z - 1 letters 0 are done, of M letters. -/
def gT (d k : Int) (D M : Nat) (z : Nat) : Int := if (k = -1 ∨ (z : Int) ≤ k) ∧ D ≤ z then BB d k (M - 1 - z) else 0
def pT (d k : Int) (D M z : Nat) : Int := (if k = -1 ∨ (M : Int) ≤ k then 1 else 0) + sm (gT d k D M) (min z M)
theorem BB_pos (d k : Int) (m : Nat) : 0 ≤ BB d k m := NN_pos d k m 0 true
theorem gT_pos (d k : Int) (D M z : Nat) : 0 ≤ gT d k D M z := by
  unfold gT; split
  · exact BB_pos _ _ _
  · exact Int.le_refl _
theorem sm_mono {f : Nat → Int} (h : ∀ z, 0 ≤ f z) : ∀ (a b : Nat), a ≤ b → sm f a ≤ sm f b
  | a, b, hab => by
    induction b with
    | zero => have : a = 0 := by omega
              subst this; exact Int.le_refl _
    | succ b ih =>
      by_cases e : a = b + 1
      · subst e; exact Int.le_refl _
      · have := ih (by omega)
        have := h b
        rw [sm]; omega
theorem sm_eq {f : Nat → Int} {a b : Nat} (hab : a ≤ b) (h : ∀ z, a ≤ z → z < b → f z = 0) : sm f b = sm f a := by
  induction b with
  | zero => have : a = 0 := by omega
            subst this; rfl
  | succ b ih =>
    by_cases e : a = b + 1
    · subst e; rfl
    · rw [sm, ih (by omega) (fun z h1 h2 => h z h1 (by omega)), h b (by omega) (by omega)]; omega
theorem pT_start (d k : Int) (D M : Nat) : pT d k D M D = if k = -1 ∨ (M : Int) ≤ k then 1 else 0 := by
  rw [pT, sm_zero fun z hz => by rw [gT, if_neg (by omega)]]; omega
theorem pT_step (d k : Int) (D M z : Nat) (hz : z < M) (hD : D ≤ z) (hk : k = -1 ∨ (z : Int) ≤ k) : pT d k D M (z + 1) = pT d k D M z + BB d k (M - 1 - z) := by
  rw [pT, pT, show min (z + 1) M = z + 1 by omega, show min z M = z by omega, sm, gT, if_pos (c := (k = -1 ∨ (z : Int) ≤ k) ∧ D ≤ z) ⟨hk, hD⟩]; omega
theorem pT_end (d k : Int) (D M z : Nat) (h : M ≤ z ∨ (k ≠ -1 ∧ k < (z : Int))) : pT d k D M z = pT d k D M M := by
  rw [pT, pT, Nat.min_self]
  rcases Nat.lt_or_ge z M with h1 | h1
  · rw [show min z M = z by omega, sm_eq (f := gT d k D M) (a := z) (b := M) (by omega) (fun j h2 h3 => by rw [gT, if_neg (by omega)])]
  · rw [show min z M = M by omega]
theorem pT_full_d (d k : Int) (hp : pairB d k = true) (M : Nat) : pT d k d.toNat M M = BB d k M := by
  have hp' : 0 ≤ d ∧ (k = -1 ∨ d ≤ k) := by simpa [pairB] using hp
  have h1 := NN_first d k hp true M 0 (by omega)
  simp only [Int.natCast_zero, Int.zero_add, true_implies, forall_const] at h1
  rw [pT, Nat.min_self, BB, show (0 : Int) = ((0 : Nat) : Int) from rfl]
  simp only [Int.natCast_zero]
  rw [h1]
  congr 1
  refine sm_congr fun z hz => ?_
  rw [gT]; congr 1; apply propext; omega
theorem pT_full_0 (d k : Int) (hp : pairB d k = true) (M : Nat) : pT d k 0 M M = countC d k M := by
  have hp' : 0 ≤ d ∧ (k = -1 ∨ d ≤ k) := by simpa [pairB] using hp
  rw [count_NN d k hp]
  have h1 := NN_first d k hp false M 0 (by omega)
  simp only [Int.natCast_zero, Int.zero_add] at h1
  rw [pT, Nat.min_self, h1]
  congr 1
  refine sm_congr fun z hz => ?_
  rw [gT]; congr 1; apply propext
  exact ⟨fun h => ⟨h.1, fun h => by cases h⟩, fun h => ⟨h.1, by omega⟩⟩
theorem pT_pos (d k : Int) (D M z : Nat) : 0 ≤ pT d k D M z := by
  have := sm_mono (gT_pos d k D M) 0 (min z M) (by omega)
  have h0 : sm (gT d k D M) 0 = 0 := rfl
  rw [pT]; split <;> omega
theorem pT_le (d k : Int) (D M z : Nat) : pT d k D M z ≤ pT d k D M M := by
  have := sm_mono (gT_pos d k D M) (min z M) M (by omega)
  rw [pT, pT, Nat.min_self]; omega
theorem small_le {x y : Int} (h0 : 0 ≤ x) (h : x ≤ y) {m : Nat} (hy : y ≤ 2 ^ m) (hm : m < 1099511627775) : small x := by
  refine small_of (m := m + 1) ?_ (by omega)
  have h3 : (2 : Int) ^ m = ((2 ^ m : Nat) : Int) := by simp
  rw [h3] at hy
  have h4 : 2 ^ m ≤ 256 ^ m := Nat.pow_le_pow_left (by decide) m
  have h6 : 256 ^ (m + 1) = 256 ^ m * 256 := Nat.pow_succ ..
  have h7 : 0 < 256 ^ m := Nat.pow_pos (by decide)
  omega
theorem BB_small (d k : Int) (m : Nat) (hm : m < 1099511627775) : small (BB d k m) := NN_small d k m hm 0 true
theorem pT_small_d (d k : Int) (hp : pairB d k = true) (M z : Nat) (hM : M < 1099511627775) : small (pT d k d.toNat M z) :=
  small_le (pT_pos _ _ _ _ _) (Int.le_trans (pT_le _ _ _ _ _) (by rw [pT_full_d d k hp]; exact Int.le_refl _)) (NN_le d k M 0 true) hM
theorem pT_small_0 (d k : Int) (hp : pairB d k = true) (M z : Nat) (hM : M < 1099511627775) : small (pT d k 0 M z) :=
  small_le (pT_pos _ _ _ _ _) (Int.le_trans (pT_le _ _ _ _ _) (by rw [pT_full_0 d k hp, count_NN d k hp]; exact Int.le_refl _)) (NN_le d k M 0 false) hM
/-- The list 'behind'. -/
def bL (d k : Int) (m : Nat) : List Int := (List.range m).map (BB d k)
theorem bL_length (d k : Int) (m : Nat) : (bL d k m).length = m := by simp [bL]
theorem bL_get (d k : Int) (m j : Nat) (h : j < m) : (bL d k m)[j]? = some (BB d k j) := by simp [bL, h]
theorem bL_succ (d k : Int) (m : Nat) : bL d k (m + 1) = bL d k m ++ [BB d k m] := by simp [bL, List.range_succ]
end Go.Proofs.Ytadibbbaegbljaa

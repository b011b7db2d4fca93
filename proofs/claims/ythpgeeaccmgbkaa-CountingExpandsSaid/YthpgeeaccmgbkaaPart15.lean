/- Contracts and plain laws of several functions, one after the other: ChkA, SerP. -/
import Derived.Test.YthpgeeaccmgbkaaCheck
import Derived.Test.YthpgeeaccmgbkaaPart11
import Derived.Test.YthpgeeaccmgbkaaProd
import Derived.Test.YthpgeeaccmgbkaaPart16
/- What a valid graph keeps to; plain. -/
namespace Go.Proofs.Ythpgeeaccmgbkaa
open Go.RowKit

theorem chkL_rng {L S : Int} : ∀ {es : List E3} {p : Option E3}, chkL L S p es = 0 → ∀ e ∈ es, ¬ edgeBad L S e
  | [], _, _ => fun e he => by cases he
  | e :: r, p, h => by
    by_cases hb : edgeBad L S e
    · rw [chk_bad hb] at h; cases h
    · have h2 : chkL L S (some e) r = 0 := by
        cases p with
        | none => rw [chkL, if_neg hb] at h; exact h
        | some q =>
          rw [chkL, if_neg hb] at h
          split at h
          · cases h
          · exact h
      intro e' he'
      rcases List.mem_cons.1 he' with rfl | he'
      · exact hb
      · exact chkL_rng h2 e' he'
/-- What a valid graph keeps to. -/
theorem chk_all {L S : Int} {es : List E3} (h : chk L S es = 0) : 1 ≤ L ∧ 0 ≤ S ∧ S ≤ 64 ∧ es.length ≤ 1024 ∧ ∀ e ∈ es, ¬ edgeBad L S e := by
  unfold chk at h
  split at h
  · cases h
  · split at h
    · cases h
    · split at h
      · cases h
      · exact ⟨by omega, by omega, by omega, by omega, chkL_rng h⟩
theorem chk_inS {L : Int} {S : Nat} {es : List E3} (h : chk L (S : Int) es = 0) : InS S es := fun e he => by
  have h1 := (chk_all h).2.2.2.2 e he
  unfold edgeBad at h1
  omega
def allP : Int → Bool := fun _ => true
end Go.Proofs.Ythpgeeaccmgbkaa

/- counting.Series: what it computes, plain. -/
namespace Go.Proofs.Ythpgeeaccmgbkaa
open Go.RowKit

/-- The first j terms of coefficient i of a product. -/
def cv (D B : List Int) (i j : Nat) : Int := ((List.range j).map fun t => D.getD t 0 * B.getD (i - t) 0).sum
theorem cv_zero (D B : List Int) (i : Nat) : cv D B i 0 = 0 := rfl
theorem cv_succ {D B : List Int} {i j : Nat} {x y : Int} (hx : D[j]? = some x) (hy : B[i - j]? = some y) : cv D B i (j + 1) = cv D B i j + x * y := by
  unfold cv
  rw [List.range_succ, List.map_append, List.sum_append]
  simp [List.getD_eq_getElem?_getD, hx, hy]
theorem getD_sm {p : Nat} {l : List Int} (h : ∀ z ∈ l, sm p z) (k : Nat) : sm p (l.getD k 0) := by
  rw [List.getD_eq_getElem?_getD]
  cases e : l[k]? with
  | none => unfold sm; exact Nat.pow_pos (by decide)
  | some z => exact h z (List.mem_of_getElem? e)
theorem cv_sm {D B : List Int} {p q : Nat} (hD : ∀ z ∈ D, sm p z) (hB : ∀ z ∈ B, sm q z) (i : Nat) {j : Nat} (hj : j ≤ 255) : sm (p + q + 1) (cv D B i j) := by
  refine sm_sum' (fun z hz => ?_) (by simpa using hj)
  obtain ⟨t, -, rfl⟩ := List.mem_map.1 hz
  exact (getD_sm hD t).mul (getD_sm hB _)
/-- The coefficients of which those before i are done, and j terms of this one. -/
def numP (D B : List Int) (S i j : Nat) : List Int := (List.range S).map fun q => if q < i then cv D B q (q + 1) else if q = i then cv D B i j else 0
def numL (D B : List Int) (S : Nat) : List Int := (List.range S).map fun q => cv D B q (q + 1)
theorem numP_length (D B : List Int) (S i j : Nat) : (numP D B S i j).length = S := by simp [numP]
theorem numP_start (D B : List Int) (S : Nat) : numP D B S 0 0 = List.replicate S 0 := by
  apply List.ext_getElem
  · simp [numP]
  · intro k h1 h2
    simp only [numP, List.getElem_map, List.getElem_range, List.getElem_replicate, cv_zero]
    simp
theorem numP_get {D B : List Int} {S i j : Nat} (h : i < S) : (numP D B S i j)[i]? = some (cv D B i j) := by simp [numP, h]
theorem numP_set (D B : List Int) (S i j : Nat) : (numP D B S i j).set i (cv D B i (j + 1)) = numP D B S i (j + 1) := by
  apply List.ext_getElem
  · simp [numP]
  · intro k h1 h2
    rw [List.getElem_set]
    simp only [numP, List.getElem_map, List.getElem_range]
    by_cases e : i = k
    · subst e; simp
    · have e2 : ¬ k = i := fun h => e h.symm
      simp [e, e2]
theorem numP_next (D B : List Int) (S i : Nat) : numP D B S i (i + 1) = numP D B S (i + 1) 0 := by
  apply List.ext_getElem
  · simp [numP]
  · intro k h1 h2
    simp only [numP, List.getElem_map, List.getElem_range, cv_zero]
    by_cases e : k < i
    · rw [if_pos e, if_pos (by omega)]
    · by_cases e2 : k = i
      · subst e2; simp
      · rw [if_neg e, if_neg e2, if_neg (by omega)]; simp
theorem numP_full (D B : List Int) (S : Nat) : numP D B S S 0 = numL D B S := by
  apply List.ext_getElem
  · simp [numP, numL]
  · intro k h1 h2
    have hk : k < S := by simpa [numP] using h1
    simp [numP, numL, hk]
/-- The numbers of paths of lengths up to S from s. -/
def bL (es : List E3) (s S : Nat) : List Int := (List.range S).map fun k => cw es allP k (s : Int)
theorem bL_length (es : List E3) (s S : Nat) : (bL es s S).length = S := by simp [bL]
theorem bL_succ (es : List E3) (s k : Nat) : bL es s (k + 1) = bL es s k ++ [cw es allP k (s : Int)] := by simp [bL, List.range_succ]
theorem cw_sm {es : List E3} (hl : es.length ≤ 1024) (p : Int → Bool) (k : Nat) (s : Int) : sm (2 * k + 1) (cw es p k s) := by
  have h1 := cw_nonneg es p k s
  have h2 := cw_le_len es p k s
  have h3 : es.length ^ k ≤ (256 ^ 2) ^ k := Nat.pow_le_pow_left (by omega) k
  rw [← Nat.pow_mul] at h3
  unfold sm
  have h4 : 256 ^ (2 * k) < 256 ^ (2 * k + 1) := Nat.pow_lt_pow_right (by decide) (by omega)
  omega
theorem bL_sm {es : List E3} (hl : es.length ≤ 1024) (s S : Nat) : ∀ z ∈ bL es s S, sm (2 * S + 1) z := fun z hz => by
  obtain ⟨k, hk, rfl⟩ := List.mem_map.1 hz
  rw [List.mem_range] at hk
  exact (cw_sm hl _ k _).mono (by omega)
end Go.Proofs.Ythpgeeaccmgbkaa


/- The number of valid words: the program's sums, and the words one by one. -/
import Derived.Test.YtadibbbaegbljaaPlainF
import Derived.Test.YtadibbbaegbljaaCount
namespace Go.Proofs.Ytadibbbaegbljaa
open Go.RowKit

def sm (f : Nat → Int) : Nat → Int
  | 0 => 0
  | n + 1 => sm f n + f n
theorem sm_head (f : Nat → Int) (n : Nat) : sm f (n + 1) = f 0 + sm (fun z => f (z + 1)) n := by
  induction n with
  | zero => simp [sm]
  | succ n ih => rw [sm, ih, sm]; omega
theorem sm_congr {f g : Nat → Int} {n : Nat} (h : ∀ z, z < n → f z = g z) : sm f n = sm g n := by
  induction n with
  | zero => rfl
  | succ n ih => rw [sm, sm, ih (fun z hz => h z (by omega)), h n (by omega)]
theorem sm_zero {f : Nat → Int} {n : Nat} (h : ∀ z, z < n → f z = 0) : sm f n = 0 := by
  induction n with
  | zero => rfl
  | succ n ih => rw [sm, ih (fun z hz => h z (by omega)), h n (by omega)]; rfl
theorem sm_rev (f : Nat → Int) (n : Nat) : sm f n = sm (fun z => f (n - 1 - z)) n := by
  induction n with
  | zero => rfl
  | succ n ih =>
    rw [sm_head (fun z => f (n + 1 - 1 - z)), sm, ih, Int.add_comm]
    congr 1
    exact sm_congr fun z hz => by congr 1; omega
theorem sm_part (f : Nat → Int) (a t N : Nat) (h : t ≤ N) : (if t ≤ a then 0 else sm f t - sm f a) = sm (fun j => if a ≤ j ∧ j < t then f j else 0) N := by
  induction N with
  | zero =>
    have : t = 0 := by omega
    subst this
    simp [sm]
  | succ N ih =>
    rw [sm]
    by_cases ht : t ≤ N
    · rw [← ih ht, if_neg (c := a ≤ N ∧ N < t) (by omega)]; omega
    · have e : t = N + 1 := by omega
      subst e
      have hb : sm (fun j => if a ≤ j ∧ j < N + 1 then f j else 0) N = if N ≤ a then 0 else sm f N - sm f a := by
        clear ih h ht
        induction N with
        | zero => simp [sm]
        | succ M ihM =>
          rw [sm]
          have e2 : sm (fun j => if a ≤ j ∧ j < M + 1 + 1 then f j else 0) M = sm (fun j => if a ≤ j ∧ j < M + 1 then f j else 0) M := sm_congr fun z hz => by
            by_cases h1 : a ≤ z
            · rw [if_pos (by omega), if_pos (by omega)]
            · rw [if_neg (by omega), if_neg (by omega)]
          rw [e2, ihM]
          by_cases h1 : a ≤ M
          · rw [if_pos (c := a ≤ M ∧ M < M + 1 + 1) (by omega), if_neg (c := M + 1 ≤ a) (by omega), sm]
            by_cases h2 : M ≤ a
            · have : a = M := by omega
              subst this
              rw [if_pos (by omega)]; omega
            · rw [if_neg h2]; omega
          · rw [if_neg (c := a ≤ M ∧ M < M + 1 + 1) (by omega), if_pos (c := M + 1 ≤ a) (by omega), if_pos (by omega)]; rfl
      rw [hb]
      by_cases h1 : a ≤ N
      · rw [if_neg (c := N + 1 ≤ a) (by omega), if_pos (c := a ≤ N ∧ N < N + 1) (by omega), sm]
        by_cases h2 : N ≤ a
        · have : a = N := by omega
          subst this
          rw [if_pos (by omega)]; omega
        · rw [if_neg h2]; omega
      · rw [if_pos (c := N + 1 ≤ a) (by omega), if_neg (c := a ≤ N ∧ N < N + 1) (by omega), if_pos (by omega)]; rfl

/-- How many words of m letters are valid behind a run of r letters 0 (bg: a letter 1 stands before it). -/
def NN (d k : Int) : Nat → Int → Bool → Int
  | 0, _, _ => 1
  | m + 1, r, bg => (if 0 ≤ k ∧ k < r + 1 then 0 else NN d k m (r + 1) bg) + (if bg = true ∧ r < d then 0 else NN d k m 0 true)
/-- The words that can follow a letter 1. -/
def BB (d k : Int) (m : Nat) : Int := NN d k m 0 true
theorem NN_first (d k : Int) (hp : pairB d k = true) (bg : Bool) : ∀ (m : Nat) (r : Nat), (k = -1 ∨ (r : Int) ≤ k) →
    NN d k m r bg = (if k = -1 ∨ (r : Int) + m ≤ k then 1 else 0) + sm (fun z => if (k = -1 ∨ (r : Int) + z ≤ k) ∧ (bg = true → d ≤ (r : Int) + z) then BB d k (m - 1 - z) else 0) m
  | 0, r, h => by
    rw [NN, sm, if_pos (by omega)]; rfl
  | m + 1, r, h => by
    have hp' : 0 ≤ d ∧ (k = -1 ∨ d ≤ k) := by simpa [pairB] using hp
    rw [NN, sm_head]
    have h0 : (if bg = true ∧ (r : Int) < d then 0 else NN d k m 0 true) = if (k = -1 ∨ (r : Int) + (0 : Nat) ≤ k) ∧ (bg = true → d ≤ (r : Int) + (0 : Nat)) then BB d k (m + 1 - 1 - 0) else 0 := by
      by_cases hb : bg = true ∧ (r : Int) < d
      · rw [if_pos hb, if_neg (fun h => by have := h.2 hb.1; omega)]
      · rw [if_neg hb, if_pos ⟨by omega, fun h => by
          have : ¬ (r : Int) < d := fun h' => hb ⟨h, h'⟩
          omega⟩]
        rfl
    rw [h0]
    by_cases hk : 0 ≤ k ∧ k < (r : Int) + 1
    · rw [if_pos hk, if_neg (c := k = -1 ∨ (r : Int) + ((m + 1 : Nat) : Int) ≤ k) (by omega), sm_zero (f := fun z => if (k = -1 ∨ (r : Int) + ((z + 1 : Nat) : Int) ≤ k) ∧ (bg = true → d ≤ (r : Int) + ((z + 1 : Nat) : Int)) then BB d k (m + 1 - 1 - (z + 1)) else 0) (fun z hz => by rw [if_neg (by omega)])]
      omega
    · rw [if_neg hk]
      have ih := NN_first d k hp bg m (r + 1) (by omega)
      rw [show ((r + 1 : Nat) : Int) = (r : Int) + 1 by omega] at ih
      rw [ih]
      have e1 : (if k = -1 ∨ (r : Int) + 1 + (m : Int) ≤ k then (1 : Int) else 0) = if k = -1 ∨ (r : Int) + ((m + 1 : Nat) : Int) ≤ k then 1 else 0 := by
        congr 1; apply propext; omega
      rw [e1]
      have e2 : sm (fun z => if (k = -1 ∨ (r : Int) + 1 + (z : Int) ≤ k) ∧ (bg = true → d ≤ (r : Int) + 1 + (z : Int)) then BB d k (m - 1 - z) else 0) m = sm (fun z => if (k = -1 ∨ (r : Int) + ((z + 1 : Nat) : Int) ≤ k) ∧ (bg = true → d ≤ (r : Int) + ((z + 1 : Nat) : Int)) then BB d k (m + 1 - 1 - (z + 1)) else 0) m := sm_congr fun z hz => by
        have e3 : (r : Int) + 1 + (z : Int) = (r : Int) + ((z + 1 : Nat) : Int) := by omega
        rw [e3, show m + 1 - 1 - (z + 1) = m - 1 - z by omega]
      rw [e2]; omega

/-- The words of i letters that end with 1, by the words behind a 1. -/
def XX (d k : Int) : Nat → Int
  | 0 => 0
  | i + 1 => BB d k i
theorem btw_sm (d k : Int) (L : List Int) (i : Nat) (hL : ∀ j, j ≤ i → L.getD j 0 = sm (XX d k) j) (F : Int) (t : Int) (ht : t ≤ i) :
    btw L F t = sm (fun j => if (max F 0).toNat ≤ j ∧ j < (max t 0).toNat then XX d k j else 0) i := by
  rw [← sm_part (XX d k) (max F 0).toNat (max t 0).toNat i (by omega), btw]
  by_cases h : max t 0 ≤ max F 0
  · rw [if_pos h, if_pos (by omega)]
  · rw [if_neg h, if_neg (by omega), hL _ (by omega), hL _ (by omega), show t.toNat = (max t 0).toNat by omega]
theorem btw_count (d k : Int) (hp : pairB d k = true) (L : List Int) (m i : Nat) (D : Int) (hm : m + 1 = i) (hD : 0 ≤ D) (hL : ∀ j, j ≤ i → L.getD j 0 = sm (XX d k) j) :
    btw L (bnd k m) ((m : Int) + 1 - D) = sm (fun z => if (k = -1 ∨ (z : Int) ≤ k) ∧ D ≤ (z : Int) then BB d k (m - 1 - z) else 0) m := by
  have hp' : 0 ≤ d ∧ (k = -1 ∨ d ≤ k) := by simpa [pairB] using hp
  rw [btw_sm d k L i hL _ _ (by omega), sm_rev]
  subst hm
  rw [sm, if_neg' (m := m), Int.add_zero]
  · refine sm_congr fun z hz => ?_
    have e1 : m + 1 - 1 - z = (m - 1 - z) + 1 := by omega
    rw [e1, XX]
    congr 1
    apply propext
    unfold bnd
    by_cases hk : k = -1
    · rw [if_pos hk]; omega
    · rw [if_neg hk]; omega
where
  if_neg' {m : Nat} {F t : Int} : (if (max F 0).toNat ≤ m + 1 - 1 - m ∧ m + 1 - 1 - m < (max t 0).toNat then XX d k (m + 1 - 1 - m) else 0) = 0 := by
    rw [show m + 1 - 1 - m = 0 by omega, XX]; split <;> rfl
theorem sums_get (d k : Int) (hp : pairB d k = true) : ∀ (i j : Nat), j ≤ i → (sumsN d k i).getD j 0 = sm (XX d k) j
  | 0, j, h => by
    have : j = 0 := by omega
    subst this; rfl
  | i + 1, j, h => by
    have hp' : 0 ≤ d ∧ (k = -1 ∨ d ≤ k) := by simpa [pairB] using hp
    have hl := sumsN_length d k i
    have ih := fun j => sums_get d k hp i j
    rw [sumsN]
    by_cases hj : j ≤ i
    · rw [List.getD_eq_getElem?_getD, List.getElem?_append_left (by omega), ← List.getD_eq_getElem?_getD]
      exact ih j hj
    · have : j = i + 1 := by omega
      subst this
      rw [List.getD_eq_getElem?_getD, List.getElem?_append_right (by omega), hl]
      simp only [Nat.sub_self, List.getElem?_cons_zero, Option.getD_some]
      rw [ih i (by omega), sm]
      congr 1
      unfold nextX
      cases i with
      | zero => rfl
      | succ m =>
        rw [if_neg (by omega), XX, show ((m + 1 : Nat) : Int) - 1 = (m : Int) by omega, show ((m + 1 : Nat) : Int) - d = (m : Int) + 1 - d by omega,
          btw_count d k hp _ m (m + 1) d rfl hp'.1 ih, BB]
        have h1 := NN_first d k hp true m 0 (by omega)
        simp only [Int.natCast_zero, Int.zero_add, true_implies, forall_const] at h1
        rw [show (0 : Int) = ((0 : Nat) : Int) from rfl]
        simp only [Int.natCast_zero]
        rw [h1]; omega
/-- The program's count is the number of words. -/
theorem count_NN (d k : Int) (hp : pairB d k = true) (n : Nat) : countC d k n = NN d k n 0 false := by
  have hp' : 0 ≤ d ∧ (k = -1 ∨ d ≤ k) := by simpa [pairB] using hp
  have hb := btw_count d k hp (sumsN d k (n + 1)) n (n + 1) 0 rfl (by omega) (fun j hj => sums_get d k hp (n + 1) j hj)
  have h1 := NN_first d k hp false n 0 (by omega)
  rw [Int.sub_zero] at hb
  rw [countC, hb]
  simp only [Int.natCast_zero, Int.zero_add] at h1
  rw [h1, Int.add_comm]
  congr 1
  refine sm_congr fun z hz => ?_
  congr 1
  apply propext
  constructor
  · intro h; exact ⟨h.1, fun h => by cases h⟩
  · intro h; exact ⟨h.1, by omega⟩

theorem NN_pos (d k : Int) : ∀ (m : Nat) (r : Int) (bg : Bool), 0 ≤ NN d k m r bg
  | 0, _, _ => by simp [NN]
  | m + 1, r, bg => by
    have h1 := NN_pos d k m (r + 1) bg
    have h2 := NN_pos d k m 0 true
    rw [NN]; split <;> split <;> omega
theorem NN_le (d k : Int) : ∀ (m : Nat) (r : Int) (bg : Bool), NN d k m r bg ≤ 2 ^ m
  | 0, _, _ => by simp [NN]
  | m + 1, r, bg => by
    have h1 := NN_le d k m (r + 1) bg
    have h2 := NN_le d k m 0 true
    have h3 : (0 : Int) ≤ 2 ^ m := Int.pow_nonneg (by decide)
    rw [NN, Int.pow_succ]; split <;> split <;> omega
theorem NN_small (d k : Int) (m : Nat) (hm : m < 1099511627775) (r : Int) (bg : Bool) : small (NN d k m r bg) := by
  refine small_of (m := m + 1) ?_ (by omega)
  have h1 := NN_pos d k m r bg
  have h2 := NN_le d k m r bg
  have h3 : (2 : Int) ^ m = ((2 ^ m : Nat) : Int) := by simp
  rw [h3] at h2
  have h4 : 2 ^ m ≤ 256 ^ m := Nat.pow_le_pow_left (by decide) m
  have h5 : (NN d k m r bg).natAbs ≤ 2 ^ m := by omega
  have h6 : 256 ^ (m + 1) = 256 ^ m * 256 := Nat.pow_succ ..
  have h7 : 0 < 256 ^ m := Nat.pow_pos (by decide)
  omega
theorem NN_mono (d k : Int) (hp : pairB d k = true) : ∀ (m : Nat) (r : Int) (bg : Bool), NN d k m r bg ≤ NN d k (m + 1) r bg
  | 0, r, bg => by
    have hp' : 0 ≤ d ∧ (k = -1 ∨ d ≤ k) := by simpa [pairB] using hp
    rw [NN, NN, NN, NN]
    by_cases h1 : 0 ≤ k ∧ k < r + 1
    · rw [if_pos h1, if_neg (fun h => by omega)]; omega
    · rw [if_neg h1]; split <;> omega
  | m + 1, r, bg => by
    have h1 := NN_mono d k hp m (r + 1) bg
    have h2 := NN_mono d k hp m 0 true
    rw [NN, NN]; split <;> split <;> omega
theorem NN_all (m : Nat) : ∀ (r : Int) (bg : Bool), 0 ≤ r → NN 0 (-1) m r bg = 2 ^ m := by
  induction m with
  | zero => intro r bg _; rfl
  | succ m ih =>
    intro r bg hr
    rw [NN, if_neg (by omega), if_neg (by omega), ih _ _ (by omega), ih _ _ (by omega), Int.pow_succ]; omega

/-- The letters of a number, the least bit first. -/
def bitL (x : Nat) : UInt8 := if x % 2 = 1 then 49 else 48
def wb : Nat → Nat → List UInt8
  | 0, _ => []
  | m + 1, x => bitL x :: wb m (x / 2)
theorem wb_length (m x : Nat) : (wb m x).length = m := by
  induction m generalizing x with
  | zero => rfl
  | succ m ih => simp [wb, ih]
theorem wb_snoc (m x : Nat) : wb (m + 1) x = wb m x ++ [bitL (x / 2 ^ m)] := by
  induction m generalizing x with
  | zero => simp [wb]
  | succ m ih =>
    rw [wb, ih, wb, List.cons_append, Nat.div_div_eq_div_mul, Nat.pow_succ, Nat.mul_comm 2]
theorem wb_word (m x : Nat) : ∀ c ∈ wb m x, c = 48 ∨ c = 49 := by
  induction m generalizing x with
  | zero => intro c hc; simp [wb] at hc
  | succ m ih =>
    intro c hc
    rw [wb, List.mem_cons] at hc
    rcases hc with rfl | hc
    · unfold bitL; split <;> simp
    · exact ih _ c hc
def okB (d k : Int) : List UInt8 → Int → Bool → Bool
  | [], _, _ => true
  | c :: t, r, bg => if c = 48 then (if 0 ≤ k ∧ k < r + 1 then false else okB d k t (r + 1) bg) else (if bg = true ∧ r < d then false else okB d k t 0 true)
theorem okB_iff (d k : Int) : ∀ (l : List UInt8) (r : Int) (bg : Bool), okB d k l r bg = true ↔ okP d k l r bg
  | [], r, bg => by simp [okB, okP]
  | c :: t, r, bg => by
    rw [okB, okP]
    by_cases hc : c = 48
    · rw [if_pos hc, if_pos hc]
      by_cases hk : 0 ≤ k ∧ k < r + 1
      · rw [if_pos hk]; simp [hk]
      · rw [if_neg hk, okB_iff d k t (r + 1) bg]; simp [hk]
    · rw [if_neg hc, if_neg hc]
      by_cases hk : bg = true ∧ r < d
      · rw [if_pos hk]; simp [hk]
      · rw [if_neg hk, okB_iff d k t 0 true]; exact ⟨fun h => ⟨hk, h⟩, fun h => h.2⟩
def cnt (p : Nat → Bool) : Nat → Nat
  | 0 => 0
  | n + 1 => cnt p n + (if p n = true then 1 else 0)
theorem cnt_le (p : Nat → Bool) (n : Nat) : cnt p n ≤ n := by
  induction n with
  | zero => simp [cnt]
  | succ n ih => rw [cnt]; split <;> omega
theorem cnt_congr {p q : Nat → Bool} {n : Nat} (h : ∀ x, x < n → p x = q x) : cnt p n = cnt q n := by
  induction n with
  | zero => rfl
  | succ n ih => rw [cnt, cnt, ih (fun x hx => h x (by omega)), h n (by omega)]
theorem cnt_none (n : Nat) : cnt (fun _ => false) n = 0 := by
  induction n with
  | zero => rfl
  | succ n ih => rw [cnt, ih]; rfl
theorem cnt_two (p : Nat → Bool) (n : Nat) : cnt p (2 * n) = cnt (fun x => p (2 * x)) n + cnt (fun x => p (2 * x + 1)) n := by
  induction n with
  | zero => rfl
  | succ n ih => rw [show 2 * (n + 1) = 2 * n + 1 + 1 by omega, cnt, cnt, ih, cnt, cnt]; omega
theorem cnt_NN (d k : Int) (m : Nat) : ∀ (r : Int) (bg : Bool), ((cnt (fun x => okB d k (wb m x) r bg) (2 ^ m) : Nat) : Int) = NN d k m r bg := by
  induction m with
  | zero => intro r bg; simp [cnt, wb, okB, NN]
  | succ m ih =>
    intro r bg
    rw [Nat.pow_succ, Nat.mul_comm, cnt_two, Int.natCast_add, NN]
    congr 1
    · have e : ∀ x, x < 2 ^ m → okB d k (wb (m + 1) (2 * x)) r bg = (if 0 ≤ k ∧ k < r + 1 then false else okB d k (wb m x) (r + 1) bg) := fun x _ => by
        rw [wb, okB, if_pos (by simp [bitL]), show 2 * x / 2 = x by omega]
      rw [cnt_congr e]
      by_cases h : 0 ≤ k ∧ k < r + 1
      · simp only [if_pos h, cnt_none]; rfl
      · simp only [if_neg h, ih]
    · have e : ∀ x, x < 2 ^ m → okB d k (wb (m + 1) (2 * x + 1)) r bg = (if bg = true ∧ r < d then false else okB d k (wb m x) 0 true) := fun x _ => by
        rw [wb, okB, if_neg (by simp [bitL, show (2 * x + 1) % 2 = 1 by omega]), show (2 * x + 1) / 2 = x by omega]
      rw [cnt_congr e]
      by_cases h : bg = true ∧ r < d
      · simp only [if_pos h, cnt_none]; rfl
      · simp only [if_neg h, ih]
end Go.Proofs.Ytadibbbaegbljaa

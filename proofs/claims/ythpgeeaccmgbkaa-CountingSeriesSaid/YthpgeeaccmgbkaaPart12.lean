/- Contracts and plain laws of several functions, one after the other: SerQ, ExpP, SerL, ExpA. -/
import Derived.Deep.RegionHeld3
import Derived.Test.YthpgeeaccmgbkaaSer
import Derived.Test.YthpgeeaccmgbkaaPart2
import Derived.Test.YthpgeeaccmgbkaaDivMN
import Derived.Test.YthpgeeaccmgbkaaProd
import Derived.Test.YthpgeeaccmgbkaaExpE
import Derived.Test.YthpgeeaccmgbkaaPart15
import Derived.Test.YthpgeeaccmgbkaaMulI
import Derived.Test.YthpgeeaccmgbkaaPart3
/- counting.Series at any valid graph. -/
namespace Go.Proofs.Ythpgeeaccmgbkaa
open Go.RowKit

theorem div_ex (c : Int) (D p : Nat) (w : World) (hD0 : 0 < D) (hD : D < 256) (hc : sm p c) (hp : p ≤ 900) :
    Calls Try.prog 33 #[IntV ((D : Int) * c), IntV (D : Int)] w (Ret w (.tuple #[IntV c, IntV 0, .int .i64 0])) := by
  have hX : D * c.natAbs < 4294967296 ^ (p + 1) := by
    unfold sm at hc
    have h1 : (256 : Nat) ^ (p + 1) ≤ 4294967296 ^ (p + 1) := Nat.pow_le_pow_left (by decide) _
    have h2 : D * c.natAbs < 256 ^ p * 256 := by
      rw [Nat.mul_comm]
      exact Nat.mul_lt_mul_of_lt_of_le hc (Nat.le_of_lt hD) (by decide)
    have h3 : (256 : Nat) ^ (p + 1) = 256 ^ p * 256 := Nat.pow_succ ..
    omega
  have hq : D * c.natAbs / D = c.natAbs := Nat.mul_div_cancel_left _ hD0
  have hm : D * c.natAbs % D = 0 := Nat.mul_mod_right _ _
  by_cases hneg : c < 0
  · have h := div_negM (D * c.natAbs) D w (Nat.mul_pos hD0 (by omega)) hm (p + 1) hX (by omega) hD0 (by omega)
    rw [hq, hm] at h
    have e1 : -((D * c.natAbs : Nat) : Int) = (D : Int) * c := by
      rw [Int.natCast_mul, ← Int.mul_neg]; congr 1; omega
    have e2 : -((c.natAbs : Nat) : Int) = c := by omega
    rw [e1, e2] at h
    exact h
  · have h := div_any (D * c.natAbs) D w (p + 1) hX (by omega) hD0 (by omega)
    rw [hq, hm] at h
    have e1 : ((D * c.natAbs : Nat) : Int) = (D : Int) * c := by
      rw [Int.natCast_mul]; congr 1; omega
    have e2 : ((c.natAbs : Nat) : Int) = c := by omega
    rw [e1, e2] at h
    exact h
/-- The denominator, and the numerator, before zeros are left out. -/
def serD (es : List E3) (S : Nat) : List Int := (pL (chC es S) S (S + 1)).reverse
def serN (es : List E3) (S s : Nat) : List Int := numL (serD es S) (bL es s S) S
theorem series_q (L : Int) (S s : Nat) (es : List E3) (v : Value) (w : World) (hr : Row w v es.length (ce es)) (hok : okEs es) (hc : chk L (S : Int) es = 0) (hS : S ≤ 32) (hs : s < S) :
    Calls Try.prog 18 #[.agg #[.int .i64 L, .int .i64 (S : Int), v], .int .i64 (s : Int)] w (SerRet (serN es S s) (serD es S) w) := by
  have hlen := (chk_all hc).2.2.2.1
  refine series_any L S s (5 * S + 1) es v (chC es S) (fun _ => 0) w hr hok hc hS hs (by omega) (by omega) (fun j hj => ch_ok hlen hS j hj) (fun j hj => ((ch_sm hlen hS j).2).mono (by omega)) (fun j hj w' => ?_)
  rw [tr_nx, show (j : Int) + 1 = ((j + 1 : Nat) : Int) by omega]
  exact div_ex (chC es S (j + 1)) (j + 1) (5 * (j + 1) + 1) w' (by omega) (by omega) (ch_sm hlen hS (j + 1)).2 (by omega)
end Go.Proofs.Ythpgeeaccmgbkaa

/- counting.Expand in plain Lean. -/
namespace Go.Proofs.Ythpgeeaccmgbkaa

/-- A coefficient, of which j terms are subtracted. -/
def ecc (N D out : List Int) (k j : Nat) : Int := N.getD k 0 - ((List.range j).map fun t => D.getD (t + 1) 0 * out.getD (k - (t + 1)) 0).sum
theorem ecc_zero (N D out : List Int) (k : Nat) : ecc N D out k 0 = N.getD k 0 := by simp [ecc]
theorem ecc_succ (N D out : List Int) (k j : Nat) : ecc N D out k (j + 1) = ecc N D out k j - D.getD (j + 1) 0 * out.getD (k - (j + 1)) 0 := by
  simp [ecc, List.range_succ]; omega
/-- How many terms there are. -/
def exT (D : List Int) (k : Nat) : Nat := min (D.length - 1) k
/-- The first coefficients. -/
def exL (N D : List Int) : Nat → List Int
  | 0 => []
  | k + 1 => exL N D k ++ [ecc N D (exL N D k) k (exT D k) * D.getD 0 0]
theorem exL_length (N D : List Int) : ∀ k, (exL N D k).length = k
  | 0 => rfl
  | k + 1 => by simp [exL, exL_length N D k]
theorem sub_sm {p q : Nat} {a b : Int} (h : sm p a) (k : sm q b) (hpq : p ≤ q) : sm (q + 1) (a - b) := by
  have h2 := h.mono hpq
  unfold sm at h2 k ⊢
  have : (256 : Nat) ^ (q + 1) = 256 ^ q * 256 := Nat.pow_succ ..
  omega
theorem getD_sm' {p : Nat} {l : List Int} (h : ∀ z ∈ l, sm p z) (k : Nat) : sm p (l.getD k 0) := by
  rw [List.getD_eq_getElem?_getD]
  cases e : l[k]? with
  | none => unfold sm; exact Nat.pow_pos (by decide)
  | some z => exact h z (List.mem_of_getElem? e)
theorem ecc_sm {N D out : List Int} {p q : Nat} (hN : ∀ z ∈ N, sm p z) (hD : ∀ z ∈ D, sm p z) (ho : ∀ z ∈ out, sm q z) (k : Nat) {j : Nat} (hj : j ≤ 255) : sm (p + q + 2) (ecc N D out k j) := by
  have h1 : sm (p + q + 1) ((List.range j).map fun t => D.getD (t + 1) 0 * out.getD (k - (t + 1)) 0).sum := by
    refine sm_sum' (fun z hz => ?_) (by simpa using hj)
    obtain ⟨t, -, rfl⟩ := List.mem_map.1 hz
    exact (getD_sm' hD _).mul (getD_sm' ho _)
  exact sub_sm (getD_sm' hN k) h1 (by omega)
def one2 (d : Int) : Prop := d = 1 ∨ d = -1
theorem exL_sm {N D : List Int} {p : Nat} (hN : ∀ z ∈ N, sm p z) (hD : ∀ z ∈ D, sm p z) (hl : D.length ≤ 65) (h0 : one2 (D.getD 0 0)) : ∀ k, ∀ z ∈ exL N D k, sm ((p + 2) * k) z
  | 0, z, hz => by cases hz
  | k + 1, z, hz => by
    have ih := exL_sm hN hD hl h0 k
    rw [exL] at hz
    have e : (p + 2) * (k + 1) = p + (p + 2) * k + 2 := by rw [Nat.mul_succ]; omega
    rcases List.mem_append.1 hz with h | h
    · exact (ih z h).mono (by omega)
    · have hz2 : z = ecc N D (exL N D k) k (exT D k) * D.getD 0 0 := List.mem_singleton.1 h
      subst hz2
      have h2 := ecc_sm hN hD ih k (j := exT D k) (by unfold exT; omega)
      rw [e]
      rcases h0 with h0 | h0
      · rw [h0, Int.mul_one]; exact h2
      · rw [h0]; unfold sm at h2 ⊢; rw [Int.natAbs_mul]; simpa using h2
theorem exL_pre (N D : List Int) {i n : Nat} (h : i ≤ n) : exL N D i = (exL N D n).take i := by
  induction n with
  | zero => obtain rfl : i = 0 := by omega
            rfl
  | succ n ih =>
    by_cases e : i = n + 1
    · subst e; rw [List.take_of_length_le (by rw [exL_length]; exact Nat.le_refl _)]
    · rw [ih (by omega), exL, List.take_append_of_le_length (by rw [exL_length]; omega)]
theorem exL_getD (N D : List Int) {i j n : Nat} (hj : j < i) (h : i ≤ n) : (exL N D i).getD j 0 = (exL N D n).getD j 0 := by
  rw [exL_pre N D h, List.getD_eq_getElem?_getD, List.getD_eq_getElem?_getD, List.getElem?_take_of_lt hj]
theorem exL_at (N D : List Int) {i n : Nat} (h : i < n) : (exL N D n).getD i 0 = ecc N D (exL N D n) i (exT D i) * D.getD 0 0 := by
  rw [← exL_getD N D (Nat.lt_succ_self i) (show i + 1 ≤ n by omega), exL]
  rw [List.getD_eq_getElem?_getD, List.getElem?_append_right (by rw [exL_length]; exact Nat.le_refl _), exL_length, Nat.sub_self]
  show ecc N D (exL N D i) i (exT D i) * D.getD 0 0 = _
  congr 1
  unfold ecc
  congr 2
  refine List.map_congr_left fun t ht => ?_
  have ht2 := List.mem_range.1 ht
  unfold exT at ht2
  rw [exL_getD N D (show i - (t + 1) < i by omega) (Nat.le_of_lt h)]
/-- The product of den and the series, j terms of it. -/
def exS (D l : List Int) (i j : Nat) : Int := ((List.range j).map fun t => if t ≤ i then D.getD t 0 * l.getD (i - t) 0 else 0).sum
theorem exS_succ (D l : List Int) (i j : Nat) : exS D l i (j + 1) = exS D l i j + if j ≤ i then D.getD j 0 * l.getD (i - j) 0 else 0 := by
  simp [exS, List.range_succ]
theorem exS_all (N D : List Int) {i n : Nat} (h : i < n) (hD : D ≠ []) (h0 : one2 (D.getD 0 0)) : exS D (exL N D n) i D.length = N.getD i 0 := by
  have h1 := exL_at N D h
  have h2 : D.getD 0 0 * (exL N D n).getD i 0 = ecc N D (exL N D n) i (exT D i) := by
    rw [h1]
    rcases h0 with h0 | h0
    · rw [h0]; omega
    · rw [h0]; omega
  have h3 : ∀ j, j + 1 ≤ D.length → exS D (exL N D n) i (j + 1) = D.getD 0 0 * (exL N D n).getD i 0 + ((List.range (min j i)).map fun t => D.getD (t + 1) 0 * (exL N D n).getD (i - (t + 1)) 0).sum := fun j => by
    induction j with
    | zero => intro _; simp [exS]
    | succ j ih =>
      intro hj
      rw [exS_succ, ih (by omega)]
      by_cases e : j + 1 ≤ i
      · rw [if_pos e, show min (j + 1) i = min j i + 1 by omega, show min j i = j by omega, List.range_succ]
        simp; omega
      · rw [if_neg e, show min (j + 1) i = min j i by omega]; omega
  have hl : 0 < D.length := List.length_pos_iff.2 hD
  have h4 := h3 (D.length - 1) (by omega)
  rw [show D.length - 1 + 1 = D.length by omega] at h4
  rw [h4, h2]
  unfold ecc exT
  omega
end Go.Proofs.Ythpgeeaccmgbkaa

/- The law CountingSeries in plain Lean: the quotient's coefficients are the numbers of paths. -/
namespace Go.Proofs.Ythpgeeaccmgbkaa

theorem tzI_ex : ∀ (n : Nat) (l : List Int), l.length = n → ∃ m, l = tzI l ++ List.replicate m 0
  | 0, l, h => ⟨0, by obtain rfl := List.length_eq_zero_iff.1 h; rfl⟩
  | n + 1, l, h => by
    rcases List.eq_nil_or_concat l with rfl | ⟨l', x, rfl⟩
    · cases h
    · rw [List.concat_eq_append] at h ⊢
      by_cases hx : x = 0
      · subst hx
        obtain ⟨m, hm⟩ := tzI_ex n l' (by simpa using h)
        refine ⟨m + 1, ?_⟩
        rw [tzI_snoc_zero, List.replicate_succ', ← List.append_assoc, ← hm]
      · exact ⟨0, by rw [tzI_snoc_ne _ hx]; simp⟩
theorem tzI_getD (l : List Int) (k : Nat) : (tzI l).getD k 0 = l.getD k 0 := by
  obtain ⟨m, hm⟩ := tzI_ex _ l rfl
  have h : l.getD k 0 = (tzI l ++ List.replicate m 0).getD k 0 := by rw [← hm]
  rw [h, List.getD_eq_getElem?_getD, List.getD_eq_getElem?_getD]
  by_cases hk : k < (tzI l).length
  · rw [List.getElem?_append_left hk]
  · rw [List.getElem?_append_right (by omega), List.getElem?_eq_none (by omega), List.getElem?_replicate]
    split <;> rfl
theorem tzI_len (l : List Int) : (tzI l).length ≤ l.length := by
  obtain ⟨m, hm⟩ := tzI_ex _ l rfl
  have : l.length = (tzI l ++ List.replicate m 0).length := by rw [← hm]
  rw [List.length_append] at this; omega
theorem tzI_mem {l : List Int} {z : Int} (h : z ∈ tzI l) : z ∈ l := by
  obtain ⟨m, hm⟩ := tzI_ex _ l rfl
  rw [hm]; exact List.mem_append_left _ h
/-- The product's first term apart. -/
theorem exS_split (D l : List Int) (i : Nat) (hl : 0 < D.length) : exS D l i D.length = D.getD 0 0 * l.getD i 0 + ((List.range (exT D i)).map fun t => D.getD (t + 1) 0 * l.getD (i - (t + 1)) 0).sum := by
  have h3 : ∀ j, j + 1 ≤ D.length → exS D l i (j + 1) = D.getD 0 0 * l.getD i 0 + ((List.range (min j i)).map fun t => D.getD (t + 1) 0 * l.getD (i - (t + 1)) 0).sum := fun j => by
    induction j with
    | zero => intro _; simp [exS]
    | succ j ih =>
      intro hj
      rw [exS_succ, ih (by omega)]
      by_cases e : j + 1 ≤ i
      · rw [if_pos e, show min (j + 1) i = min j i + 1 by omega, show min j i = j by omega, List.range_succ]
        simp; omega
      · rw [if_neg e, show min (j + 1) i = min j i by omega]; omega
  have h4 := h3 (D.length - 1) (by omega)
  rw [show D.length - 1 + 1 = D.length by omega] at h4
  exact h4
theorem exL_unique {N D F : List Int} (h0 : D.getD 0 0 = 1) (hl : 0 < D.length) (h : ∀ i, i < F.length → exS D F i D.length = N.getD i 0) : ∀ k, k ≤ F.length → exL N D k = F.take k
  | 0, _ => by simp [exL]
  | k + 1, hk => by
    have h1 := h k (by omega)
    rw [exS_split D F k hl, h0, Int.one_mul] at h1
    have hg : F[k]? = some (F.getD k 0) := by rw [List.getD_eq_getElem?_getD, List.getElem?_eq_getElem (by omega)]; rfl
    rw [exL, exL_unique h0 hl h k (by omega), h0, Int.mul_one, List.take_add_one, hg]
    congr 1
    have e : ecc N D (F.take k) k (exT D k) = F.getD k 0 := by
      unfold ecc
      have hs : ((List.range (exT D k)).map fun t => D.getD (t + 1) 0 * (F.take k).getD (k - (t + 1)) 0).sum = ((List.range (exT D k)).map fun t => D.getD (t + 1) 0 * F.getD (k - (t + 1)) 0).sum := by
        congr 1
        refine List.map_congr_left fun t ht => ?_
        have ht2 := List.mem_range.1 ht
        unfold exT at ht2
        congr 1
        rw [List.getD_eq_getElem?_getD, List.getD_eq_getElem?_getD, List.getElem?_take_of_lt (by omega)]
      rw [hs, ← h1]
      omega
    rw [e]; rfl
theorem exS_ext (D l : List Int) (i : Nat) {m : Nat} (hm : ∀ t, m ≤ t → D.getD t 0 = 0 ∨ i < t) (k : Nat) : exS D l i (m + k) = exS D l i m := by
  induction k with
  | zero => rfl
  | succ k ih =>
    rw [← Nat.add_assoc, exS_succ, ih]
    rcases hm (m + k) (by omega) with h | h
    · rw [h]; simp
    · rw [if_neg (by omega)]; simp
theorem exS_full (D l : List Int) (i : Nat) : exS D l i D.length = exS D l i (i + 1) := by
  have h1 := exS_ext D l i (m := D.length) (fun t ht => .inl (by rw [List.getD_eq_getElem?_getD, List.getElem?_eq_none ht]; rfl)) (i + 1)
  have h2 := exS_ext D l i (m := i + 1) (fun t ht => .inr (by omega)) D.length
  rw [← h1, ← h2, Nat.add_comm]
theorem serD_len (es : List E3) (S : Nat) : (serD es S).length = S + 1 := by unfold serD; rw [List.length_reverse, pL_length]
theorem serD_getD (es : List E3) (S t : Nat) : (serD es S).getD t 0 = chC es S t := by
  by_cases ht : t < S + 1
  · have hl := pL_length (chC es S) S (S + 1)
    rw [List.getD_eq_getElem?_getD]
    unfold serD
    rw [List.getElem?_reverse (by rw [hl]; exact ht), hl]
    unfold pL
    rw [List.getElem?_map, List.getElem?_range (by omega)]
    show (if S + 1 - 1 - t = S then (1 : Int) else if S - (S + 1 - 1 - t) < S + 1 then chC es S (S - (S + 1 - 1 - t)) else 0) = _
    by_cases h0 : t = 0
    · subst h0; rw [if_pos (by omega), chC_zero]
    · rw [if_neg (by omega), if_pos (by omega), show S - (S + 1 - 1 - t) = t by omega]
  · rw [ch_deg (by omega), List.getD_eq_getElem?_getD, List.getElem?_eq_none (by rw [serD_len]; omega)]; rfl
/-- The numbers of paths from s. -/
def pathL (es : List E3) (s n : Nat) : List Int := (List.range n).map fun k => cw es allP k (s : Int)
theorem pathL_len (es : List E3) (s n : Nat) : (pathL es s n).length = n := by simp [pathL]
theorem pathL_getD (es : List E3) (s : Nat) {n k : Nat} (h : k < n) : (pathL es s n).getD k 0 = cw es allP k (s : Int) := by
  rw [List.getD_eq_getElem?_getD]
  unfold pathL
  rw [List.getElem?_map, List.getElem?_range h]; rfl
theorem exS_pm {es : List E3} {S s n i : Nat} {D : List Int} (hD : ∀ t, D.getD t 0 = chC es S t) (hi : i < n) : exS D (pathL es s n) i (i + 1) = pm (chC es S) (fun k => cw es allP k (s : Int)) i := by
  rw [pm_sum]
  unfold exS
  congr 1
  refine List.map_congr_left fun t ht => ?_
  have := List.mem_range.1 ht
  rw [if_pos (by omega), hD, pathL_getD es s (by omega)]
theorem serN_len (es : List E3) (S s : Nat) : (serN es S s).length = S := by simp [serN, numL]
theorem serN_getD {es : List E3} {S s : Nat} (hin : InS S es) (hs : s < S) (i : Nat) : (serN es S s).getD i 0 = pm (chC es S) (fun k => cw es allP k (s : Int)) i := by
  by_cases h : i < S
  · rw [List.getD_eq_getElem?_getD]
    unfold serN numL
    rw [List.getElem?_map, List.getElem?_range h, pm_sum]
    show cv (serD es S) (bL es s S) i (i + 1) = _
    unfold cv
    congr 1
    refine List.map_congr_left fun t ht => ?_
    have := List.mem_range.1 ht
    have e : (bL es s S).getD (i - t) 0 = cw es allP (i - t) (s : Int) := pathL_getD es s (show i - t < S by omega)
    rw [serD_getD, e]
  · rw [ch_paths hin hs (by omega), List.getD_eq_getElem?_getD, List.getElem?_eq_none (by rw [serN_len]; omega)]; rfl
/-- The quotient, expanded. -/
theorem ser_exp {es : List E3} {S s : Nat} (hin : InS S es) (hs : s < S) (n : Nat) : exL (tzI (serN es S s)) (tzI (serD es S)) n = pathL es s n := by
  have hg : ∀ t, (tzI (serD es S)).getD t 0 = chC es S t := fun t => by rw [tzI_getD, serD_getD]
  have h0 : (tzI (serD es S)).getD 0 0 = 1 := by rw [hg, chC_zero]
  have hl : 0 < (tzI (serD es S)).length := by
    rcases h : tzI (serD es S) with _ | ⟨x, t⟩
    · rw [h] at h0; exact absurd h0 (by decide)
    · simp
  have h := exL_unique (N := tzI (serN es S s)) (F := pathL es s n) h0 hl (fun i hi => by
    rw [pathL_len] at hi
    rw [exS_full, exS_pm hg hi, tzI_getD, serN_getD hin hs]) n (by rw [pathL_len]; exact Nat.le_refl _)
  rw [h, List.take_of_length_le (by rw [pathL_len]; exact Nat.le_refl _)]
end Go.Proofs.Ythpgeeaccmgbkaa

/- For counting.Expand where it answers. -/
namespace Go.Proofs.Ythpgeeaccmgbkaa
open Go.RowKit

theorem odd_civ (N : List Int) : oddB (N.map fun z => (ineg z, imag z)) = false := by
  induction N with
  | nil => rfl
  | cons z N ih =>
    have e : oddB ((z :: N).map fun z => (ineg z, imag z)) = (!cnB (ineg z) (imag z) || oddB (N.map fun z => (ineg z, imag z))) := rfl
    rw [e, ih, (cnB_iff _ _).2 (by rw [ival_canon]; exact ⟨rfl, rfl⟩)]; rfl
theorem cfG_civ (N : List Int) (v : Value) (w : World) (hr : Row w v N.length (civ N)) (hs : ∀ z ∈ N, small z) :
    Calls Try.prog 51 #[v, .func (.func 49) #[] #[]] w (Ret w (.bool false)) := by
  have h := cfG_any (N.map fun z => (ineg z, imag z)) v w (by rw [List.length_map, ← civ_cnv]; exact hr) (fun x hx => by
    obtain ⟨z, hz, rfl⟩ := List.mem_map.1 hx
    exact hs z hz)
  rwa [odd_civ] at h
def ExpRet (n : Nat) (l : List Int) (w : World) (e : Ending) (w' : World) : Prop := Below w.heap.size w w' ∧ ∃ v, e = .returned (.tuple #[v, .int .i64 0]) ∧ w'.ownsRow w.heap.size 28 2 v n (civ l)
end Go.Proofs.Ythpgeeaccmgbkaa


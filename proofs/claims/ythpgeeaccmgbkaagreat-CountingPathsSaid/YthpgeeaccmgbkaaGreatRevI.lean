/- slices.Reverse at integers. -/
import Derived.Test.YthpgeeaccmgbkaaGreatPart11
namespace Go.Proofs.YthpgeeaccmgbkaaGreat
open Go.RowKit

/-- The first k and the last k are exchanged. -/
def revk (l : List Int) (k : Nat) : List Int := (List.range l.length).map fun q => if q < k ∨ l.length ≤ q + k then l.getD (l.length - 1 - q) 0 else l.getD q 0
theorem revk_length (l : List Int) (k : Nat) : (revk l k).length = l.length := by simp [revk]
theorem revk_get {l : List Int} {k q : Nat} (h : q < l.length) : (revk l k)[q]? = some (if q < k ∨ l.length ≤ q + k then l.getD (l.length - 1 - q) 0 else l.getD q 0) := by
  simp [revk, List.getElem?_range h]
theorem revk_zero (l : List Int) : revk l 0 = l := by
  apply List.ext_getElem?
  intro q
  by_cases h : q < l.length
  · rw [revk_get h, if_neg (by omega), List.getD_eq_getElem?_getD, List.getElem?_eq_getElem h]; rfl
  · rw [List.getElem?_eq_none (by rw [revk_length]; omega), List.getElem?_eq_none (by omega)]
theorem revk_full {l : List Int} {k : Nat} (hk : l.length ≤ 2 * k + 1) : revk l k = l.reverse := by
  apply List.ext_getElem?
  intro q
  by_cases h : q < l.length
  · rw [revk_get h, List.getElem?_reverse h]
    split
    · rw [List.getD_eq_getElem?_getD, List.getElem?_eq_getElem (by omega)]; rfl
    · have : l.length - 1 - q = q := by omega
      rw [this, List.getD_eq_getElem?_getD, List.getElem?_eq_getElem h]; rfl
  · rw [List.getElem?_eq_none (by rw [revk_length]; omega), List.getElem?_eq_none (by rw [List.length_reverse]; omega)]
theorem revk_step {l : List Int} {k j : Nat} (hj : k + j + 1 = l.length) (hk : k < j) {x y : Int} (hx : (revk l k)[k]? = some x) (hy : (revk l k)[j]? = some y) : ((revk l k).set k y).set j x = revk l (k + 1) := by
  rw [revk_get (by omega), if_neg (by omega)] at hx hy
  have hx := Option.some.inj hx
  have hy := Option.some.inj hy
  apply List.ext_getElem?
  intro q
  by_cases h : q < l.length
  · rw [revk_get h, List.getElem?_set, List.getElem?_set]
    simp only [List.length_set, revk_length]
    by_cases e1 : j = q
    · subst e1
      rw [if_pos rfl, if_pos (by omega), if_pos (by omega), ← hx]
      congr 2; omega
    · rw [if_neg e1]
      by_cases e2 : k = q
      · subst e2
        rw [if_pos rfl, if_pos (by omega), if_pos (by omega), ← hy]
        congr 2; omega
      · rw [if_neg e2, revk_get h]
        by_cases e3 : q < k ∨ l.length ≤ q + k
        · rw [if_pos e3, if_pos (by omega)]
        · rw [if_neg e3, if_neg (by omega)]
  · rw [List.getElem?_eq_none (by simp [revk_length]; omega), List.getElem?_eq_none (by rw [revk_length]; omega)]
theorem civ_set_rest (l : List Int) (rest : List Value) {k : Nat} (hk : k < l.length) (z : Int) : ((civ l ++ rest).set (k * 2) (.bool (ineg z))).set (k * 2 + 1) (.string (imag z)) = civ (l.set k z) ++ rest := by
  have h := civ_length l
  rw [List.set_append_left _ _ (by omega), List.set_append_left _ _ (by rw [List.length_set]; omega), civ_set]
theorem civ_get_rest {l : List Int} (rest : List Value) {k : Nat} {z : Int} (h : l[k]? = some z) : (civ l ++ rest)[k * 2]? = some (.bool (ineg z)) ∧ (civ l ++ rest)[k * 2 + 1]? = some (.string (imag z)) := by
  obtain ⟨h1, h2⟩ := civ_get h
  have h3 := (List.getElem?_eq_some_iff.1 h1).1
  have h4 := (List.getElem?_eq_some_iff.1 h2).1
  exact ⟨by rw [List.getElem?_append_left h3]; exact h1, by rw [List.getElem?_append_left h4]; exact h2⟩
set_option maxRecDepth 100000 in
set_option maxHeartbeats 6400000 in
theorem reverseI_any (l : List Int) (g cap B : Nat) (rest : List Value) (w : World) (hb : Blk w g 28 (civ l ++ rest)) (hl : l.length ≤ 1000000) (hB : B ≤ g) :
    Calls Tryz.prog 54 #[.slice (some ⟨g, 0, none⟩) l.length cap] w (fun e w' => e = .returned (.tuple #[]) ∧ Blk w' g 28 (civ l.reverse ++ rest) ∧ Below B w w') := by
  obtain ⟨n, hn⟩ : ∃ n, n = l.length := ⟨_, rfl⟩
  have hb0 := hb
  rw [← revk_zero l] at hb0
  rw [← hn] at hl ⊢
  have HB0 := Lib.hid hb0; clear hb0
  have HN := Lib.hid hn; clear hn
  clear hb
  go_enter Tryz.func54, Tryz.ntmps54
  go_wp2_with fail
  go_loopw [2, 3] (fun i j wr => ∃ k : Nat, 2 * k ≤ n + 1 ∧ i = .int .i64 (k : Int) ∧ j = .int .i64 ((n : Int) - 1 - (k : Int)) ∧ Blk wr g 28 (civ (revk l k) ++ rest) ∧ Below B w wr) (fun i _ _ => n - (intOf i).toNat)
  case atStart => exact ⟨0, by omega, rfl, by simp, HB0.out, Below.refl _ _⟩
  case round =>
    obtain ⟨k, hk, rfl, rfl, hblk, hbel⟩ := hrel
    by_cases hlt : (k : Int) < (n : Int) - 1 - (k : Int)
    · obtain ⟨j, hj⟩ : ∃ j : Nat, (n : Int) - 1 - (k : Int) = (j : Int) := ⟨n - 1 - k, by omega⟩
      rw [hj] at hlt ⊢
      have hjn : k + j + 1 = l.length := by rw [← HN.out]; omega
      have hkj : k < j := by omega
      have hx : (revk l k)[k]? = some ((revk l k)[k]'(by rw [revk_length]; omega)) := List.getElem?_eq_getElem _
      have hy : (revk l k)[j]? = some ((revk l k)[j]'(by rw [revk_length]; omega)) := List.getElem?_eq_getElem _
      obtain ⟨x, hxe⟩ : ∃ x, x = (revk l k)[k]'(by rw [revk_length]; omega) := ⟨_, rfl⟩
      obtain ⟨y, hye⟩ : ∃ y, y = (revk l k)[j]'(by rw [revk_length]; omega) := ⟨_, rfl⟩
      rw [← hxe] at hx
      rw [← hye] at hy
      clear hxe hye
      have hst := revk_step hjn hkj hx hy
      have c0 := hblk.cell (civ_get_rest rest hx).1
      have c1 := hblk.cell (civ_get_rest rest hx).2
      have d0 := hblk.cell (civ_get_rest rest hy).1
      have d1 := hblk.cell (civ_get_rest rest hy).2
      have f0 := hblk.frozen (k * 2)
      have f1 := hblk.frozen (k * 2 + 1)
      have f2 := hblk.frozen (j * 2)
      have f3 := hblk.frozen (j * 2 + 1)
      have bl := (((hblk.set (k * 2) (.bool (ineg y))).set (k * 2 + 1) (.string (imag y))).set (j * 2) (.bool (ineg x))).set (j * 2 + 1) (.string (imag x))
      rw [civ_set_rest _ _ (by rw [revk_length]; omega), civ_set_rest _ _ (by rw [List.length_set, revk_length]; omega), hst] at bl
      have hbel2 := (((hbel.setCell (p := ⟨g, k * 2, none⟩) hB (.bool (ineg y))).setCell (p := ⟨g, k * 2 + 1, none⟩) hB (.string (imag y))).setCell (p := ⟨g, j * 2, none⟩) hB (.bool (ineg x))).setCell (p := ⟨g, j * 2 + 1, none⟩) hB (.string (imag x))
      have hk2 : 2 * (k + 1) ≤ n + 1 := by omega
      have hje : (j : Int) - 1 = (n : Int) - 1 - ((k + 1 : Nat) : Int) := by omega
      have x1 : (0 : Int) ≤ (k : Int) := by omega
      have x2 : (k : Int) < (n : Int) := by omega
      have x3 : (0 : Int) ≤ (j : Int) := by omega
      have x4 : (j : Int) < (n : Int) := by omega
      have n1 : ¬ j * 2 = k * 2 := by omega
      have n2 : ¬ j * 2 = k * 2 + 1 := by omega
      have n3 : ¬ j * 2 + 1 = k * 2 := by omega
      have n4 : ¬ j * 2 + 1 = k * 2 + 1 := by omega
      have n5 : ¬ k * 2 = j * 2 := by omega
      have n6 : ¬ k * 2 = j * 2 + 1 := by omega
      have n7 : ¬ k * 2 + 1 = j * 2 := by omega
      have n8 : ¬ k * 2 + 1 = j * 2 + 1 := by omega
      have BL := Lib.hid bl; clear bl
      have HB2 := Lib.hid hbel2; clear hbel2
      have HJ := Lib.hid hje; clear hje
      have HK2 := Lib.hid hk2; clear hk2
      clear hj
      clear hblk hbel hst hx hy hjn
      go_wp2_with fail
      go_region
      go_wp2_with fail
      go_roundw
      case rel => exact ⟨k + 1, HK2.out, by go_num, by rw [HJ.out], BL.out, HB2.out.drew⟩
      case measure => simp [intOf]; omega
    · have hfin : revk l k = l.reverse := revk_full (by rw [← HN.out]; omega)
      rw [hfin] at hblk
      have HBLK := Lib.hid hblk; clear hblk
      have HBEL := Lib.hid hbel; clear hbel
      go_wp2_with fail
      go_end0
      exact ⟨rfl, HBLK.out, HBEL.out⟩
end Go.Proofs.YthpgeeaccmgbkaaGreat

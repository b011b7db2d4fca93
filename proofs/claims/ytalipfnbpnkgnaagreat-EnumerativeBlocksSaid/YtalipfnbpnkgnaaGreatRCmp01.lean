/- grooveref01.Compare and Sign, at canonical integers. -/
import Derived.Deep.RegionHeld3
import Derived.Test.YtalipfnbpnkgnaaGreatRadd
namespace Go.Proofs.YtalipfnbpnkgnaaGreat
open Go.RowKit

theorem cmpZ_neg2 {x y : Int} (hx : x < 0) (hy : y < 0) : cmpZ x y = cmpN y.natAbs x.natAbs := by
  unfold cmpZ cmpN
  repeat' split
  all_goals first | rfl | omega
theorem cmpZ_pos2 {x y : Int} (hx : 0 ≤ x) (hy : 0 ≤ y) : cmpZ x y = cmpN x.natAbs y.natAbs := by
  unfold cmpZ cmpN
  repeat' split
  all_goals first | rfl | omega
set_option maxRecDepth 100000 in
set_option maxHeartbeats 3200000 in
theorem rcompare_any (x y : Int) (w : World) (hx : (imag x).size ≤ 1099511627775) (hy : (imag y).size ≤ 1099511627775) :
    Calls Tryz.prog 86 #[.agg #[.bool (ineg x), .string (imag x)], .agg #[.bool (ineg y), .string (imag y)]] w (Ret w (.int .i64 (cmpZ x y))) := by
  have hxy : (ineg x = true ∧ ineg y = false ∧ cmpZ x y = -1) ∨ (ineg x = false ∧ ineg y = true ∧ cmpZ x y = 1) ∨ (ineg x = true ∧ ineg y = true ∧ cmpZ x y = cmpN y.natAbs x.natAbs) ∨ (ineg x = false ∧ ineg y = false ∧ cmpZ x y = cmpN x.natAbs y.natAbs) := by
    by_cases h1 : x < 0
    · by_cases h2 : y < 0
      · exact .inr (.inr (.inl ⟨by simp [ineg, h1], by simp [ineg, h2], cmpZ_neg2 h1 h2⟩))
      · exact .inl ⟨by simp [ineg, h1], by simp [ineg]; omega, by unfold cmpZ; rw [if_pos (by omega)]⟩
    · by_cases h2 : y < 0
      · exact .inr (.inl ⟨by simp [ineg]; omega, by simp [ineg, h2], by unfold cmpZ; rw [if_neg (by omega), if_neg (by omega)]⟩)
      · exact .inr (.inr (.inr ⟨by simp [ineg]; omega, by simp [ineg]; omega, cmpZ_pos2 (by omega) (by omega)⟩))
  have hCA : ∀ w', Calls Tryz.prog 85 #[.agg #[.bool (ineg x), .string (imag x)]] w' (Ret w' (.agg #[.bool (ineg x), .string (imag x)])) := fun w' => by
    have h := rcanon_any (ineg x) (imag x) w' (by omega)
    rwa [ival_canon] at h
  have hCB : ∀ w', Calls Tryz.prog 85 #[.agg #[.bool (ineg y), .string (imag y)]] w' (Ret w' (.agg #[.bool (ineg y), .string (imag y)])) := fun w' => by
    have h := rcanon_any (ineg y) (imag y) w' (by omega)
    rwa [ival_canon] at h
  have hc1 := fun w' => rcmp_any x.natAbs y.natAbs (imag x) (imag y) w' (by omega) (by omega) (imag_list x) (imag_list y)
  have hc2 := fun w' => rcmp_any y.natAbs x.natAbs (imag y) (imag x) w' (by omega) (by omega) (imag_list y) (imag_list x)
  obtain ⟨c1, hc1e⟩ : ∃ c1, c1 = cmpN x.natAbs y.natAbs := ⟨_, rfl⟩
  obtain ⟨c2, hc2e⟩ : ∃ c2, c2 = cmpN y.natAbs x.natAbs := ⟨_, rfl⟩
  rw [← hc1e, ← hc2e] at hxy
  simp only [← hc1e] at hc1
  simp only [← hc2e] at hc2
  obtain ⟨Z, hZ⟩ : ∃ Z, Z = cmpZ x y := ⟨_, rfl⟩
  rw [← hZ] at hxy ⊢
  obtain ⟨a, ha⟩ : ∃ a, a = ineg x := ⟨_, rfl⟩
  obtain ⟨b, hb⟩ : ∃ b, b = ineg y := ⟨_, rfl⟩
  obtain ⟨s, hs⟩ : ∃ s, s = imag x := ⟨_, rfl⟩
  obtain ⟨t, ht⟩ : ∃ t, t = imag y := ⟨_, rfl⟩
  rw [← ha, ← hb] at hxy
  simp only [← ha, ← hs] at hCA
  simp only [← hb, ← ht] at hCB
  simp only [← hs, ← ht] at hc1 hc2
  rw [← ha, ← hb, ← hs, ← ht]
  clear ha hb hs ht hc1e hc2e hZ hx hy
  have HCA := Lib.hid hCA; clear hCA
  have HCB := Lib.hid hCB; clear hCB
  have HC1 := Lib.hid hc1; clear hc1
  have HC2 := Lib.hid hc2; clear hc2
  have hA0 := (Blk.new w 33 [.bool a, .string s]).alloc (.cells #[.bool b, .string t] 33)
  have hA1 := Blk.new (w.alloc (.cells #[.bool a, .string s] 33)) 33 [.bool b, .string t]
  simp only [World.size_alloc] at hA1
  have s0 := ((Below.refl w.heap.size w).alloc (Nat.le_refl _) (.cells #[.bool a, .string s] 33)).alloc (by simp) (.cells #[.bool b, .string t] 33)
  have HA0 := Lib.hid hA0; clear hA0
  have HA1 := Lib.hid hA1; clear hA1
  have S0 := Lib.hid s0; clear s0
  have HXY := Lib.hid hxy; clear hxy
  go_enter Tryz.func86, Tryz.ntmps86
  go_wp2_with fail
  go_region_held3 (fun w' => w'.cell? ⟨w.heap.size, 0, none⟩ = some (.bool a) ∧ w'.cell? ⟨w.heap.size, 1, none⟩ = some (.string s) ∧ w'.cell? ⟨w.heap.size + 1, 0, none⟩ = some (.bool b) ∧ w'.cell? ⟨w.heap.size + 1, 1, none⟩ = some (.string t)) ((try refine ⟨?_, ?_, ?_, ?_⟩) <;> (first | (simp [*, World.cell?_alloc_some, World.cell?_setCell_far]; done) | ((repeat (refine keep_cell ?_ (by intro e; first | rfl | (simp at e; done) | (simp at e; omega)))); assumption))) (first | (go_at_call_of 85 (Value.agg #[.bool a, .string s]); ((with_reducible refine (HCA.out _).mono ?_)); rintro e w1 ⟨hq, rfl⟩; have hB0 := HA0.out.drew.keep hq; have cB0 := hB0.cell (j := 0) rfl; have dB0 := hB0.cell (j := 1) rfl; have HB0 := Lib.hid hB0; clear hB0; have hB1 := HA1.out.drew.keep hq; have cB1 := hB1.cell (j := 0) rfl; have dB1 := hB1.cell (j := 1) rfl; have HB1 := Lib.hid hB1; clear hB1; have HQ1 := Lib.hid hq; clear hq) | (go_at_call_of 85 (Value.agg #[.bool b, .string t]); ((with_reducible refine (HCB.out _).mono ?_)); rintro e w2 ⟨hq, rfl⟩; have hC0 := HB0.out.keep hq; have cC0 := hC0.cell (j := 0) rfl; have dC0 := hC0.cell (j := 1) rfl; have fC0 := hC0.frozen 0; have gC0 := hC0.frozen 1; have HC0 := Lib.hid hC0; clear hC0; have hC1 := HB1.out.keep hq; have cC1 := hC1.cell (j := 0) rfl; have dC1 := hC1.cell (j := 1) rfl; have fC1 := hC1.frozen 0; have gC1 := hC1.frozen 1; have HC1b := Lib.hid hC1; clear hC1; have HQ2 := Lib.hid hq; clear hq))
  have n01 : ¬ w.heap.size + 1 = w.heap.size := by omega
  have n02 : ¬ w.heap.size = w.heap.size + 1 := by omega
  have hD0 := (((HC0.out.set 0 (.bool a)).set 1 (.string s)).setOther (a := ⟨w.heap.size + 1, 0, none⟩) n01 (.bool b)).setOther (a := ⟨w.heap.size + 1, 1, none⟩) n01 (.string t)
  have hD1 := (((HC1b.out.setOther (a := ⟨w.heap.size, 0, none⟩) n02 (.bool a)).setOther (a := ⟨w.heap.size, 1, none⟩) n02 (.string s)).set 0 (.bool b)).set 1 (.string t)
  have s1 := S0.out.drew.trans (HQ1.out.mono S0.out.size)
  have s2 := s1.trans (HQ2.out.mono s1.size)
  have s3 := (((s2.setCell (p := ⟨w.heap.size, 0, none⟩) (Nat.le_refl _) (.bool a)).setCell (p := ⟨w.heap.size, 1, none⟩) (Nat.le_refl _) (.string s)).setCell (p := ⟨w.heap.size + 1, 0, none⟩) (Nat.le_add_right _ _) (.bool b)).setCell (p := ⟨w.heap.size + 1, 1, none⟩) (Nat.le_add_right _ _) (.string t)
  clear s1 s2 cB0 dB0 cB1 dB1 cC0 dC0 cC1 dC1 fC0 gC0 fC1 gC1
  obtain ⟨W, hW⟩ : ∃ W, W = (((w2.setCell ⟨w.heap.size, 0, none⟩ (.bool a)).setCell ⟨w.heap.size, 1, none⟩ (.string s)).setCell ⟨w.heap.size + 1, 0, none⟩ (.bool b)).setCell ⟨w.heap.size + 1, 1, none⟩ (.string t) := ⟨_, rfl⟩
  rw [← hW] at hD0 hD1 s3 ⊢
  have HW := Lib.hid hW; clear hW
  have S3 := Lib.hid s3; clear s3
  have cD0 := hD0.cell (j := 0) rfl
  have dD0 := hD0.cell (j := 1) rfl
  have cD1 := hD1.cell (j := 0) rfl
  have dD1 := hD1.cell (j := 1) rfl
  clear hD0 hD1 n01 n02
  rcases HXY.out with ⟨rfl, rfl, rfl⟩ | ⟨rfl, rfl, rfl⟩ | ⟨rfl, rfl, rfl⟩ | ⟨rfl, rfl, rfl⟩
  · go_wp2_with fail
    go_ret
    exact ⟨S3.out, rfl⟩
  · go_wp2_with fail
    go_ret
    exact ⟨S3.out, rfl⟩
  · go_wp2_with (go_at_call 112; refine (HC2.out _).mono ?_; rintro e w' ⟨rfl, rfl⟩)
    go_ret
    exact ⟨S3.out, rfl⟩
  · go_wp2_with (go_at_call 112; refine (HC1.out _).mono ?_; rintro e w' ⟨rfl, rfl⟩)
    go_ret
    exact ⟨S3.out, rfl⟩
theorem ineg_z : ineg 0 = false := rfl
theorem imag_z : imag 0 = ⟨#[]⟩ := by simp [imag, bb_zero]
end Go.Proofs.YtalipfnbpnkgnaaGreat

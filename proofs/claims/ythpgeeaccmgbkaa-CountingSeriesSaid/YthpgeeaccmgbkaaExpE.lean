/- counting.Expand, where it refuses (printed by gen_exp.py). -/
import Derived.Deep.RegionHeld3
import Derived.Test.YthpgeeaccmgbkaaAnyE
import Derived.Test.YthpgeeaccmgbkaaIntB
import Derived.Test.YthpgeeaccmgbkaaPart6
namespace Go.Proofs.Ythpgeeaccmgbkaa
open Go.RowKit

theorem eqI_dc (x y : Int) : (ineg x == ineg y && imag x == imag y) = decide (x = y) := by
  have hb : ∀ a b : ByteArray, (a == b) = decide (a = b) := fun a b => by
    rw [beq_toListBytes]
    by_cases h : a = b
    · subst h; simp
    · have h2 : ¬ a.toList = b.toList := fun e => h (str_ext (by rw [← ByteArray.toList_eq, ← ByteArray.toList_eq]; exact e))
      simp [h, h2]
  rw [hb]
  by_cases h : x = y
  · subst h; simp
  · rw [decide_eq_false h]
    by_cases h1 : ineg x = ineg y
    · by_cases h2 : imag x = imag y
      · exact absurd ((ival_canon x).symm.trans (by rw [h1, h2, ival_canon])) h
      · simp [h2]
    · simp [h1]
theorem neq_int (x y : Int) (w : World) : (binOp .neq 28 (.agg #[.bool (ineg x), .string (imag x)]) (.agg #[.bool (ineg y), .string (imag y)])).run Try.prog w = .ok (.bool (!decide (x = y))) w := by
  rw [run_neq_struct, eqIn_int, eqI_dc]; rfl
set_option maxRecDepth 100000 in
set_option maxHeartbeats 3200000 in
theorem expE_odd (l1 l2 : List (Bool × ByteArray)) (v1 v2 : Value) (n : Int) (w : World) (hr1 : Row w v1 l1.length (cnv l1)) (hr2 : Row w v2 l2.length (cnv l2)) (hs1 : ∀ x ∈ l1, x.2.size ≤ 1099511627775) (hs2 : ∀ x ∈ l2, x.2.size ≤ 1099511627775) (ho : (oddB l1 || oddB l2) = true) :
    Calls Try.prog 19 #[v1, v2, .int .i64 n] w (Ret w (.tuple #[.slice none 0 0, .int .i64 1])) := by
  have hc1 := fun w' h => cfG_any l1 v1 w' h hs1
  have hc2 := fun w' h => cfG_any l2 v2 w' h hs2
  obtain ⟨va, vc, rfl, hle1⟩ := hr1.slice
  obtain ⟨vb, vd, rfl, hle2⟩ := hr2.slice
  obtain ⟨m1, hm1⟩ : ∃ m, m = l1.length := ⟨_, rfl⟩
  obtain ⟨m2, hm2⟩ : ∃ m, m = l2.length := ⟨_, rfl⟩
  rw [← hm1] at hr1 hc1
  rw [← hm2] at hr2 hc2
  obtain ⟨o1, ho1⟩ : ∃ o, o = oddB l1 := ⟨_, rfl⟩
  obtain ⟨o2, ho2⟩ : ∃ o, o = oddB l2 := ⟨_, rfl⟩
  rw [← ho1] at hc1 ho
  rw [← ho2] at hc2 ho
  have hc1w := hc1 w hr1
  have HC1 := Lib.hid hc1w; clear hc1w
  have HC2 := Lib.hid hc2; clear hc2
  have HR2 := Lib.hid hr2; clear hr2
  rw [← hm1, ← hm2]
  clear hr1 hc1 hs1 hs2 ho1 ho2 hm1 hm2
  cases o1 with
  | true =>
    go_enter Try.func19, Try.ntmps19
    go_wp2_with fail
    go_at_call 51
    refine HC1.out.mono ?_
    rintro e w1 ⟨hq, rfl⟩
    have HQ := Lib.hid hq; clear hq
    go_wp2_with fail
    go_ret2
    exact ⟨HQ.out, rfl⟩
  | false =>
    have hoo : o2 = true := by simpa using ho
    subst hoo
    go_enter Try.func19, Try.ntmps19
    go_wp2_with fail
    go_at_call 51
    refine HC1.out.mono ?_
    rintro e w1 ⟨hq, rfl⟩
    have h2 := HC2.out w1 (HR2.out.below hq (Nat.le_refl _))
    have HQ := Lib.hid hq; clear hq
    have H2 := Lib.hid h2; clear h2
    go_wp2_with fail
    go_at_call 51
    refine H2.out.mono ?_
    rintro e w2 ⟨hq, rfl⟩
    have s2 := HQ.out.trans (hq.mono HQ.out.size)
    have S2 := Lib.hid s2; clear s2
    clear hq
    go_wp2_with fail
    go_ret2
    exact ⟨S2.out, rfl⟩
set_option maxRecDepth 100000 in
set_option maxHeartbeats 3200000 in
theorem expE_len (l1 l2 : List (Bool × ByteArray)) (v1 v2 : Value) (n : Int) (w : World) (hr1 : Row w v1 l1.length (cnv l1)) (hr2 : Row w v2 l2.length (cnv l2)) (hs1 : ∀ x ∈ l1, x.2.size ≤ 1099511627775) (hs2 : ∀ x ∈ l2, x.2.size ≤ 1099511627775) (ho1 : oddB l1 = false) (ho2 : oddB l2 = false) (hl : 65 < l1.length ∨ 65 < l2.length) :
    Calls Try.prog 19 #[v1, v2, .int .i64 n] w (Ret w (.tuple #[.slice none 0 0, .int .i64 4])) := by
  have hc1 := fun w' h => cfG_any l1 v1 w' h hs1
  have hc2 := fun w' h => cfG_any l2 v2 w' h hs2
  obtain ⟨va, vc, rfl, hle1⟩ := hr1.slice
  obtain ⟨vb, vd, rfl, hle2⟩ := hr2.slice
  obtain ⟨m1, hm1⟩ : ∃ m, m = l1.length := ⟨_, rfl⟩
  obtain ⟨m2, hm2⟩ : ∃ m, m = l2.length := ⟨_, rfl⟩
  rw [← hm1] at hr1 hc1
  rw [← hm2] at hr2 hc2
  rw [ho1] at hc1
  rw [ho2] at hc2
  have hc1w := hc1 w hr1
  have HC1 := Lib.hid hc1w; clear hc1w
  have HC2 := Lib.hid hc2; clear hc2
  have HR1 := Lib.hid hr1; clear hr1
  have HR2 := Lib.hid hr2; clear hr2
  rw [← hm1, ← hm2]
  rw [← hm1, ← hm2] at hl
  clear hc1 hs1 hs2 ho1 ho2 hm1 hm2
  by_cases h1 : 65 < m1
  · have t1 : decide (65 < (m1 : Int)) = true := by simp; omega
    go_enter Try.func19, Try.ntmps19
    go_wp2_with fail
    go_at_call 51
    refine HC1.out.mono ?_
    rintro e w1 ⟨hq, rfl⟩
    have h2 := HC2.out w1 (HR2.out.below hq (Nat.le_refl _))
    have HQ := Lib.hid hq; clear hq
    have H2 := Lib.hid h2; clear h2
    go_wp2_with fail
    go_at_call 51
    refine H2.out.mono ?_
    rintro e w2 ⟨hq, rfl⟩
    have s2 := HQ.out.trans (hq.mono HQ.out.size)
    have hr12 := HR1.out.below s2 (Nat.le_refl _)
    have hr22 := HR2.out.below s2 (Nat.le_refl _)
    have S2 := Lib.hid s2; clear s2
    have HR12 := Lib.hid hr12; clear hr12
    have HR22 := Lib.hid hr22; clear hr22
    clear hq
    go_wp2_with fail
    go_ret2
    exact ⟨S2.out, rfl⟩
  · have t1 : decide (65 < (m1 : Int)) = false := by simp; omega
    have t2 : decide (65 < (m2 : Int)) = true := by simp; omega
    go_enter Try.func19, Try.ntmps19
    go_wp2_with fail
    go_at_call 51
    refine HC1.out.mono ?_
    rintro e w1 ⟨hq, rfl⟩
    have h2 := HC2.out w1 (HR2.out.below hq (Nat.le_refl _))
    have HQ := Lib.hid hq; clear hq
    have H2 := Lib.hid h2; clear h2
    go_wp2_with fail
    go_at_call 51
    refine H2.out.mono ?_
    rintro e w2 ⟨hq, rfl⟩
    have s2 := HQ.out.trans (hq.mono HQ.out.size)
    have hr12 := HR1.out.below s2 (Nat.le_refl _)
    have hr22 := HR2.out.below s2 (Nat.le_refl _)
    have S2 := Lib.hid s2; clear s2
    have HR12 := Lib.hid hr12; clear hr12
    have HR22 := Lib.hid hr22; clear hr22
    clear hq
    go_wp2_with fail
    go_ret2
    exact ⟨S2.out, rfl⟩
set_option maxRecDepth 100000 in
set_option maxHeartbeats 3200000 in
theorem expE_none (l1 l2 : List (Bool × ByteArray)) (v1 v2 : Value) (n : Int) (w : World) (hr1 : Row w v1 l1.length (cnv l1)) (hr2 : Row w v2 l2.length (cnv l2)) (hs1 : ∀ x ∈ l1, x.2.size ≤ 1099511627775) (hs2 : ∀ x ∈ l2, x.2.size ≤ 1099511627775) (ho1 : oddB l1 = false) (ho2 : oddB l2 = false) (hl1 : l1.length ≤ 65) (hl2 : l2.length = 0) :
    Calls Try.prog 19 #[v1, v2, .int .i64 n] w (Ret w (.tuple #[.slice none 0 0, .int .i64 9])) := by
  have hc1 := fun w' h => cfG_any l1 v1 w' h hs1
  have hc2 := fun w' h => cfG_any l2 v2 w' h hs2
  obtain ⟨va, vc, rfl, hle1⟩ := hr1.slice
  obtain ⟨vb, vd, rfl, hle2⟩ := hr2.slice
  obtain ⟨m1, hm1⟩ : ∃ m, m = l1.length := ⟨_, rfl⟩
  obtain ⟨m2, hm2⟩ : ∃ m, m = l2.length := ⟨_, rfl⟩
  rw [← hm1] at hr1 hc1
  rw [← hm2] at hr2 hc2
  rw [ho1] at hc1
  rw [ho2] at hc2
  have hc1w := hc1 w hr1
  have HC1 := Lib.hid hc1w; clear hc1w
  have HC2 := Lib.hid hc2; clear hc2
  have HR1 := Lib.hid hr1; clear hr1
  have HR2 := Lib.hid hr2; clear hr2
  rw [← hm1, ← hm2]
  rw [← hm1] at hl1
  rw [← hm2] at hl2
  have t3 : ((m2 : Int) == 0) = true := by simp; omega
  have t2 : decide (65 < (m2 : Int)) = false := by simp; omega
  have HL2 := Lib.hid hl2; clear hl2
  clear hc1 hs1 hs2 ho1 ho2 hm1 hm2
  have t1 : decide (65 < (m1 : Int)) = false := by simp; omega
  go_enter Try.func19, Try.ntmps19
  go_wp2_with fail
  go_at_call 51
  refine HC1.out.mono ?_
  rintro e w1 ⟨hq, rfl⟩
  have h2 := HC2.out w1 (HR2.out.below hq (Nat.le_refl _))
  have HQ := Lib.hid hq; clear hq
  have H2 := Lib.hid h2; clear h2
  go_wp2_with fail
  go_at_call 51
  refine H2.out.mono ?_
  rintro e w2 ⟨hq, rfl⟩
  have s2 := HQ.out.trans (hq.mono HQ.out.size)
  have hr12 := HR1.out.below s2 (Nat.le_refl _)
  have hr22 := HR2.out.below s2 (Nat.le_refl _)
  have S2 := Lib.hid s2; clear s2
  have HR12 := Lib.hid hr12; clear hr12
  have HR22 := Lib.hid hr22; clear hr22
  clear hq
  go_wp2_with fail
  refine wp_region_held_drew (S := fun _ => True) (by kernel_rfl) trivial (fun hHeld => ?_)
  refine wpAnyH_take (i := 0) (v := ?_) rfl (by kernel_rfl) (by kernel_rfl) (by kernel_rfl) (fun _ _ _ h => h) (Or.inl ⟨by rfl, ?_⟩) (by assumption) ?_
  rotate_left
  · (intro wS hSw; (try dsimp only at hSw); go_simp; (try with_reducible rfl))
  (try simp only [Act.put, List.setIfInBounds_toArray, List.set_cons_zero, List.set_cons_succ])
  refine wpAnyH_take (i := 1) (v := ?_) rfl (by kernel_rfl) (by kernel_rfl) (by kernel_rfl) (fun _ _ _ h => h) (Or.inl ⟨by rfl, ?_⟩) (by assumption) ?_
  rotate_left
  · (intro wS hSw; (try dsimp only at hSw); go_simp; (try with_reducible rfl))
  (try simp only [Act.put, List.setIfInBounds_toArray, List.set_cons_zero, List.set_cons_succ])
  refine wpAnyH_take (i := 2) (v := ?_) rfl (by kernel_rfl) (by kernel_rfl) (by kernel_rfl) (fun _ _ _ h => h) (Or.inl ⟨by rfl, ?_⟩) (by assumption) ?_
  rotate_left
  · (intro wS hSw; (try dsimp only at hSw); go_simp; (try with_reducible rfl))
  (try simp only [Act.put, List.setIfInBounds_toArray, List.set_cons_zero, List.set_cons_succ])
  refine wpAnyH_take (i := 3) (v := ?_) rfl (by kernel_rfl) (by kernel_rfl) (by kernel_rfl) (fun _ _ _ h => h) (Or.inl ⟨by rfl, ?_⟩) (by assumption) ?_
  rotate_left
  · (intro wS hSw; (try dsimp only at hSw); go_simp; (try with_reducible rfl))
  (try simp only [Act.put, List.setIfInBounds_toArray, List.set_cons_zero, List.set_cons_succ])
  refine wpAnyH_take (i := 4) (v := undef) rfl (by kernel_rfl) (by kernel_rfl) (by kernel_rfl) (fun _ _ _ h => h) (Or.inr ⟨by kernel_rfl, rfl⟩) (by assumption) ?_
  (try simp only [Act.put, List.setIfInBounds_toArray, List.set_cons_zero, List.set_cons_succ])
  refine wpAnyH_take (i := 5) (v := undef) rfl (by kernel_rfl) (by kernel_rfl) (by kernel_rfl) (fun _ _ _ h => h) (Or.inr ⟨by kernel_rfl, rfl⟩) (by assumption) ?_
  (try simp only [Act.put, List.setIfInBounds_toArray, List.set_cons_zero, List.set_cons_succ])
  refine wpAnyH_take (i := 6) (v := undef) rfl (by kernel_rfl) (by kernel_rfl) (by kernel_rfl) (fun _ _ _ h => h) (Or.inr ⟨by kernel_rfl, rfl⟩) (by assumption) ?_
  (try simp only [Act.put, List.setIfInBounds_toArray, List.set_cons_zero, List.set_cons_succ])
  refine wpAnyH_take (i := 7) (v := undef) rfl (by kernel_rfl) (by kernel_rfl) (by kernel_rfl) (fun _ _ _ h => h) (Or.inr ⟨by kernel_rfl, rfl⟩) (by assumption) ?_
  (try simp only [Act.put, List.setIfInBounds_toArray, List.set_cons_zero, List.set_cons_succ])
  refine wpAnyH_take (i := 8) (v := undef) rfl (by kernel_rfl) (by kernel_rfl) (by kernel_rfl) (fun _ _ _ h => h) (Or.inr ⟨by kernel_rfl, rfl⟩) (by assumption) ?_
  (try simp only [Act.put, List.setIfInBounds_toArray, List.set_cons_zero, List.set_cons_succ])
  refine wpAnyH_take (i := 9) (v := undef) rfl (by kernel_rfl) (by kernel_rfl) (by kernel_rfl) (fun _ _ _ h => h) (Or.inr ⟨by kernel_rfl, rfl⟩) (by assumption) ?_
  (try simp only [Act.put, List.setIfInBounds_toArray, List.set_cons_zero, List.set_cons_succ])
  refine wpAnyH_take (i := 10) (v := undef) rfl (by kernel_rfl) (by kernel_rfl) (by kernel_rfl) (fun _ _ _ h => h) (Or.inr ⟨by kernel_rfl, rfl⟩) (by assumption) ?_
  (try simp only [Act.put, List.setIfInBounds_toArray, List.set_cons_zero, List.set_cons_succ])
  refine wpAnyH_take (i := 11) (v := undef) rfl (by kernel_rfl) (by kernel_rfl) (by kernel_rfl) (fun _ _ _ h => h) (Or.inr ⟨by kernel_rfl, rfl⟩) (by assumption) ?_
  (try simp only [Act.put, List.setIfInBounds_toArray, List.set_cons_zero, List.set_cons_succ])
  refine wpAnyH_take (i := 12) (v := undef) rfl (by kernel_rfl) (by kernel_rfl) (by kernel_rfl) (fun _ _ _ h => h) (Or.inr ⟨by kernel_rfl, rfl⟩) (by assumption) ?_
  (try simp only [Act.put, List.setIfInBounds_toArray, List.set_cons_zero, List.set_cons_succ])
  refine wpAnyH_take (i := 13) (v := undef) rfl (by kernel_rfl) (by kernel_rfl) (by kernel_rfl) (fun _ _ _ h => h) (Or.inr ⟨by kernel_rfl, rfl⟩) (by assumption) ?_
  (try simp only [Act.put, List.setIfInBounds_toArray, List.set_cons_zero, List.set_cons_succ])
  refine wpAnyH_take (i := 14) (v := undef) rfl (by kernel_rfl) (by kernel_rfl) (by kernel_rfl) (fun _ _ _ h => h) (Or.inr ⟨by kernel_rfl, rfl⟩) (by assumption) ?_
  (try simp only [Act.put, List.setIfInBounds_toArray, List.set_cons_zero, List.set_cons_succ])
  refine wpAnyH_take (i := 15) (v := undef) rfl (by kernel_rfl) (by kernel_rfl) (by kernel_rfl) (fun _ _ _ h => h) (Or.inr ⟨by kernel_rfl, rfl⟩) (by assumption) ?_
  (try simp only [Act.put, List.setIfInBounds_toArray, List.set_cons_zero, List.set_cons_succ])
  refine wpAnyH_take (i := 16) (v := ?_) rfl (by kernel_rfl) (by kernel_rfl) (by kernel_rfl) (fun _ _ _ h => h) (Or.inl ⟨by rfl, ?_⟩) (by assumption) ?_
  rotate_left
  · (intro wS hSw; (try dsimp only at hSw); go_simp; (try with_reducible rfl))
  (try simp only [Act.put, List.setIfInBounds_toArray, List.set_cons_zero, List.set_cons_succ])
  refine wpAnyH_take (i := 17) (v := ?_) rfl (by kernel_rfl) (by kernel_rfl) (by kernel_rfl) (fun _ _ _ h => h) (Or.inl ⟨by rfl, ?_⟩) (by assumption) ?_
  rotate_left
  · (intro wS hSw; (try dsimp only at hSw); go_simp; (try with_reducible rfl))
  (try simp only [Act.put, List.setIfInBounds_toArray, List.set_cons_zero, List.set_cons_succ])
  refine wpAnyH_done (by kernel_rfl) ?_ _
  (try simp only [List.getElem_toArray, List.getElem_cons_zero, List.getElem_cons_succ, Act.put, List.setIfInBounds_toArray, List.set_cons_zero, List.set_cons_succ])
  go_wp2_with fail
  go_ret2
  exact ⟨S2.out.drew, rfl⟩
set_option maxRecDepth 100000 in
set_option maxHeartbeats 3200000 in
theorem expE_den (l1 l2 : List (Bool × ByteArray)) (v1 v2 : Value) (n : Int) (w : World) (hr1 : Row w v1 l1.length (cnv l1)) (hr2 : Row w v2 l2.length (cnv l2)) (hs1 : ∀ x ∈ l1, x.2.size ≤ 1099511627775) (hs2 : ∀ x ∈ l2, x.2.size ≤ 1099511627775) (D0 : Int) (ho1 : oddB l1 = false) (ho2 : oddB l2 = false) (hl1 : l1.length ≤ 65) (hl2 : l2.length ≤ 65) (h0 : l2[0]? = some (ineg D0, imag D0)) (hD : D0 ≠ 1) (hD2 : D0 ≠ -1) :
    Calls Try.prog 19 #[v1, v2, .int .i64 n] w (Ret w (.tuple #[.slice none 0 0, .int .i64 9])) := by
  have hc1 := fun w' h => cfG_any l1 v1 w' h hs1
  have hc2 := fun w' h => cfG_any l2 v2 w' h hs2
  obtain ⟨va, vc, rfl, hle1⟩ := hr1.slice
  obtain ⟨vb, vd, rfl, hle2⟩ := hr2.slice
  obtain ⟨m1, hm1⟩ : ∃ m, m = l1.length := ⟨_, rfl⟩
  obtain ⟨m2, hm2⟩ : ∃ m, m = l2.length := ⟨_, rfl⟩
  rw [← hm1] at hr1 hc1
  rw [← hm2] at hr2 hc2
  rw [ho1] at hc1
  rw [ho2] at hc2
  have hc1w := hc1 w hr1
  have HC1 := Lib.hid hc1w; clear hc1w
  have HC2 := Lib.hid hc2; clear hc2
  have HR1 := Lib.hid hr1; clear hr1
  have HR2 := Lib.hid hr2; clear hr2
  have hl2p : 0 < l2.length := by
    rcases l2 with _ | ⟨x, t⟩
    · cases h0
    · simp
  rw [← hm1, ← hm2]
  rw [← hm1] at hl1
  rw [← hm2] at hl2 hl2p
  have hn1 : ∀ w', (binOp .neq 28 (.agg #[.bool (ineg D0), .string (imag D0)]) (.agg #[.bool (ineg 1), .string (imag 1)])).run Try.prog w' = .ok (.bool true) w' := fun w' => by rw [neq_int]; simp [hD]
  have hn2 : ∀ w', (binOp .neq 28 (.agg #[.bool (ineg D0), .string (imag D0)]) (.agg #[.bool (ineg (-1)), .string (imag (-1))])).run Try.prog w' = .ok (.bool true) w' := fun w' => by rw [neq_int]; simp [hD2]
  have hof1 := fun w' => iof_any 1 w' (by decide) (by decide)
  have hof2 := fun w' => iof_any (-1) w' (by decide) (by decide)
  clear hc1 hs1 hs2 ho1 ho2 hm1 hm2
  have t1 : decide (65 < (m1 : Int)) = false := by simp; omega
  have t2 : decide (65 < (m2 : Int)) = false := by simp; omega
  have t3 : ((m2 : Int) == 0) = false := by simp; omega
  have HOF1 := Lib.hid hof1; clear hof1
  have HOF2 := Lib.hid hof2; clear hof2
  have H0 := Lib.hid h0; clear h0
  go_enter Try.func19, Try.ntmps19
  go_wp2_with fail
  go_at_call 51
  refine HC1.out.mono ?_
  rintro e w1 ⟨hq, rfl⟩
  have h2 := HC2.out w1 (HR2.out.below hq (Nat.le_refl _))
  have HQ := Lib.hid hq; clear hq
  have H2 := Lib.hid h2; clear h2
  go_wp2_with fail
  go_at_call 51
  refine H2.out.mono ?_
  rintro e w2 ⟨hq, rfl⟩
  have s2 := HQ.out.trans (hq.mono HQ.out.size)
  have hr12 := HR1.out.below s2 (Nat.le_refl _)
  have hr22 := HR2.out.below s2 (Nat.le_refl _)
  have S2 := Lib.hid s2; clear s2
  have HR12 := Lib.hid hr12; clear hr12
  have HR22 := Lib.hid hr22; clear hr22
  clear hq
  obtain ⟨b, off, rfl, hbw, hce⟩ := HR22.out.at_ (by omega)
  obtain ⟨c0, c1⟩ := num_cells hce (Below.refl _ _) hbw H0.out
  dsimp only at c0 c1
  rw [Nat.zero_mul, Nat.add_zero] at c0
  rw [Nat.zero_mul] at c1
  have sW := (Below.refl w2.heap.size w2).drew
  clear hce
  go_wp2_with fail
  refine wp_region_held_drew (S := fun w' => w'.cell? ⟨b, off, none⟩ = some (.bool (ineg D0)) ∧ w'.cell? ⟨b, off + (0 + 1), none⟩ = some (.string (imag D0))) (by kernel_rfl) ?_ (fun hHeld => ?_)
  · go_keep
  refine wpAnyH_take (i := 0) (v := ?_) rfl (by kernel_rfl) (by kernel_rfl) (by kernel_rfl) (fun _ _ _ h => h) (Or.inl ⟨by rfl, ?_⟩) (by assumption) ?_
  rotate_left
  · (intro wS hSw; (try dsimp only at hSw); go_simp; (try with_reducible rfl))
  (try simp only [Act.put, List.setIfInBounds_toArray, List.set_cons_zero, List.set_cons_succ])
  refine wpAnyH_take (i := 1) (v := ?_) rfl (by kernel_rfl) (by kernel_rfl) (by kernel_rfl) (fun _ _ _ h => h) (Or.inl ⟨by rfl, ?_⟩) (by assumption) ?_
  rotate_left
  · (intro wS hSw; (try dsimp only at hSw); go_simp; (try with_reducible rfl))
  (try simp only [Act.put, List.setIfInBounds_toArray, List.set_cons_zero, List.set_cons_succ])
  refine wpAnyH_take (i := 2) (v := ?_) rfl (by kernel_rfl) (by kernel_rfl) (by kernel_rfl) (fun _ _ _ h => h) (Or.inl ⟨by rfl, ?_⟩) (by assumption) ?_
  rotate_left
  · (intro wS hSw; (try dsimp only at hSw); go_simp; (try with_reducible rfl))
  (try simp only [Act.put, List.setIfInBounds_toArray, List.set_cons_zero, List.set_cons_succ])
  refine wpAnyH_take (i := 3) (v := ?_) rfl (by kernel_rfl) (by kernel_rfl) (by kernel_rfl) (fun _ _ _ h => h) (Or.inl ⟨by rfl, ?_⟩) (by assumption) ?_
  rotate_left
  · (intro wS hSw; (try dsimp only at hSw); go_simp; (try with_reducible rfl))
  (try simp only [Act.put, List.setIfInBounds_toArray, List.set_cons_zero, List.set_cons_succ])
  refine wpAnyH_take (i := 4) (v := ?_) rfl (by kernel_rfl) (by kernel_rfl) (by kernel_rfl) (fun _ _ _ h => h) (Or.inl ⟨by kernel_rfl, ?_⟩) (by assumption) ?_
  rotate_left
  · (intro wS hSw; (try dsimp only at hSw); go_simp; (try with_reducible rfl))
  (try simp only [Act.put, List.setIfInBounds_toArray, List.set_cons_zero, List.set_cons_succ])
  refine wpAnyH_take (i := 5) (v := ?_) rfl (by kernel_rfl) (by kernel_rfl) (by kernel_rfl) (fun _ _ _ h => h) (Or.inl ⟨by kernel_rfl, ?_⟩) (by assumption) ?_
  rotate_left
  · (intro wS hSw; (try dsimp only at hSw); go_simp; (try with_reducible rfl))
  (try simp only [Act.put, List.setIfInBounds_toArray, List.set_cons_zero, List.set_cons_succ])
  refine wpAnyH_take (i := 6) (v := ?_) rfl (by kernel_rfl) (by kernel_rfl) (by kernel_rfl) (fun _ _ _ h => h) (Or.inl ⟨by kernel_rfl, ?_⟩) (by assumption) ?_
  rotate_left
  · (intro wS hSw; (try dsimp only at hSw); go_simp; (try with_reducible rfl))
  (try simp only [Act.put, List.setIfInBounds_toArray, List.set_cons_zero, List.set_cons_succ])
  refine wpAnyH_ready (rs := [7]) (by kernel_rfl) (by simp) ?_
  refine AllReadyH.cons rfl (fun K hK => ?_) AllReadyH.nil
  rw [if_pos (by kernel_rfl)]
  go_simp
  go_at_call 11
  refine (HOF1.out _).mono ?_
  rintro e' wa1 ⟨hq, rfl⟩
  dsimp only
  have z0 := (hq.cell (p := ⟨b, off, none⟩) (show b < w2.heap.size by omega)).trans hHeld.1
  have z1 := (hq.cell (p := ⟨b, off + (0 + 1), none⟩) (show b < w2.heap.size by omega)).trans hHeld.2
  refine hK.out _ _ ⟨z0, z1⟩ (fun hH2 => ?_)
  clear hK K z0  z1
  (try simp only [Act.put, List.setIfInBounds_toArray, List.set_cons_zero, List.set_cons_succ])
  have sa3 : Below w2.heap.size w2 wa1 := sW.trans (hq.mono sW.size)
  clear hq
  have hlwa1 : w2.heap.size ≤ wa1.heap.size := sa3.size
  refine wpAnyH_take (i := 8) (v := ?_) rfl (by kernel_rfl) (by kernel_rfl) (by kernel_rfl) (fun _ _ _ h => h) (Or.inl ⟨by kernel_rfl, ?_⟩) (by assumption) ?_
  rotate_left
  · (intro wS hSw; (try dsimp only at hSw); go_simp; (try with_reducible rfl))
  (try simp only [Act.put, List.setIfInBounds_toArray, List.set_cons_zero, List.set_cons_succ])
  refine wpAnyH_take (i := 9) (v := ?_) rfl (by kernel_rfl) (by kernel_rfl) (by kernel_rfl) (fun _ _ _ h => h) (Or.inl ⟨by kernel_rfl, ?_⟩) (by assumption) ?_
  rotate_left
  · (intro wS hSw; (try dsimp only at hSw); go_simp; (try with_reducible rfl))
  (try simp only [Act.put, List.setIfInBounds_toArray, List.set_cons_zero, List.set_cons_succ])
  refine wpAnyH_take (i := 10) (v := ?_) rfl (by kernel_rfl) (by kernel_rfl) (by kernel_rfl) (fun _ _ _ h => h) (Or.inl ⟨by kernel_rfl, ?_⟩) (by assumption) ?_
  rotate_left
  · (intro wS hSw; (try dsimp only at hSw); go_simp; (try with_reducible rfl))
  (try simp only [Act.put, List.setIfInBounds_toArray, List.set_cons_zero, List.set_cons_succ])
  refine wpAnyH_take (i := 11) (v := ?_) rfl (by kernel_rfl) (by kernel_rfl) (by kernel_rfl) (fun _ _ _ h => h) (Or.inl ⟨by kernel_rfl, ?_⟩) (by assumption) ?_
  rotate_left
  · (intro wS hSw; (try dsimp only at hSw); go_simp; (try with_reducible rfl))
  (try simp only [Act.put, List.setIfInBounds_toArray, List.set_cons_zero, List.set_cons_succ])
  refine wpAnyH_take (i := 12) (v := ?_) rfl (by kernel_rfl) (by kernel_rfl) (by kernel_rfl) (fun _ _ _ h => h) (Or.inl ⟨by kernel_rfl, ?_⟩) (by assumption) ?_
  rotate_left
  · (intro wS hSw; (try dsimp only at hSw); go_simp; (try with_reducible rfl))
  (try simp only [Act.put, List.setIfInBounds_toArray, List.set_cons_zero, List.set_cons_succ])
  refine wpAnyH_ready (rs := [13]) (by kernel_rfl) (by simp) ?_
  refine AllReadyH.cons rfl (fun K hK => ?_) AllReadyH.nil
  rw [if_pos (by kernel_rfl)]
  go_simp
  go_at_call 11
  refine (HOF2.out _).mono ?_
  rintro e' wa5 ⟨hq, rfl⟩
  dsimp only
  have z0 := (hq.cell (p := ⟨b, off, none⟩) (show b < wa1.heap.size by omega)).trans hH2.1
  have z1 := (hq.cell (p := ⟨b, off + (0 + 1), none⟩) (show b < wa1.heap.size by omega)).trans hH2.2
  refine hK.out _ _ ⟨z0, z1⟩ (fun hH6 => ?_)
  clear hK K z0  z1
  (try simp only [Act.put, List.setIfInBounds_toArray, List.set_cons_zero, List.set_cons_succ])
  have sa7 : Below w2.heap.size w2 wa5 := sa3.trans (hq.mono sa3.size)
  clear hq
  have hlwa5 : w2.heap.size ≤ wa5.heap.size := sa7.size
  refine wpAnyH_take (i := 14) (v := ?_) rfl (by kernel_rfl) (by kernel_rfl) (by kernel_rfl) (fun _ _ _ h => h) (Or.inl ⟨by kernel_rfl, ?_⟩) (by assumption) ?_
  rotate_left
  · (intro wS hSw; (try dsimp only at hSw); go_simp; (try with_reducible rfl))
  (try simp only [Act.put, List.setIfInBounds_toArray, List.set_cons_zero, List.set_cons_succ])
  refine wpAnyH_take (i := 15) (v := ?_) rfl (by kernel_rfl) (by kernel_rfl) (by kernel_rfl) (fun _ _ _ h => h) (Or.inl ⟨by kernel_rfl, ?_⟩) (by assumption) ?_
  rotate_left
  · (intro wS hSw; (try dsimp only at hSw); go_simp; (try with_reducible rfl))
  (try simp only [Act.put, List.setIfInBounds_toArray, List.set_cons_zero, List.set_cons_succ])
  refine wpAnyH_take (i := 16) (v := ?_) rfl (by kernel_rfl) (by kernel_rfl) (by kernel_rfl) (fun _ _ _ h => h) (Or.inl ⟨by rfl, ?_⟩) (by assumption) ?_
  rotate_left
  · (intro wS hSw; (try dsimp only at hSw); go_simp; (try with_reducible rfl))
  (try simp only [Act.put, List.setIfInBounds_toArray, List.set_cons_zero, List.set_cons_succ])
  refine wpAnyH_take (i := 17) (v := ?_) rfl (by kernel_rfl) (by kernel_rfl) (by kernel_rfl) (fun _ _ _ h => h) (Or.inl ⟨by rfl, ?_⟩) (by assumption) ?_
  rotate_left
  · (intro wS hSw; (try dsimp only at hSw); go_simp; (try with_reducible rfl))
  (try simp only [Act.put, List.setIfInBounds_toArray, List.set_cons_zero, List.set_cons_succ])
  refine wpAnyH_done (by kernel_rfl) ?_ _
  (try simp only [List.getElem_toArray, List.getElem_cons_zero, List.getElem_cons_succ, Act.put, List.setIfInBounds_toArray, List.set_cons_zero, List.set_cons_succ])
  have SWF := Lib.hid sa7; clear sa7
  go_wp2_with fail
  go_ret2
  exact ⟨S2.out.trans (SWF.out.mono S2.out.size), rfl⟩
end Go.Proofs.Ythpgeeaccmgbkaa

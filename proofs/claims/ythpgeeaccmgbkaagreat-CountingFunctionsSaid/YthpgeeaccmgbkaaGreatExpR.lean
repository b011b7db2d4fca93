/- counting.Expand: the number is out of range (printed by gen_rexpe.py). -/
import Derived.Test.YthpgeeaccmgbkaaGreatPart18
namespace Go.Proofs.YthpgeeaccmgbkaaGreat
open Go.RowKit

set_option maxRecDepth 100000 in
set_option maxHeartbeats 3200000 in
theorem expE_rng_one (p : Nat) (n : Int) (N D : List Int) (v1 v2 : Value) (w : World) (hr1 : Row w v1 N.length (civ N)) (hr2 : Row w v2 D.length (civ D)) (hN : ∀ z ∈ N, sm p z) (hD : ∀ z ∈ D, sm p z) (hp : p ≤ 100) (hl1 : N.length ≤ 65) (hl2 : D.length ≤ 65) (h0 : D[0]? = some (1)) (hb : n < 0 ∨ 4096 < n) :
  Calls Tryz.prog 22 #[v1, v2, .int .i64 n] w (Ret w (.tuple #[.slice none 0 0, .int .i64 2])) := by
 have hc1 := fun w' h => cfG_civ N v1 w' h (fun z hz => (hN z hz).small (by omega))
 have hc2 := fun w' h => cfG_civ D v2 w' h (fun z hz => (hD z hz).small (by omega))
 obtain ⟨va, vc, rfl, hle1⟩ := hr1.slice
 obtain ⟨vb, vd, rfl, hle2⟩ := hr2.slice
 obtain ⟨m1, hm1⟩ : ∃ m, m = N.length := ⟨_, rfl⟩
 obtain ⟨m2, hm2⟩ : ∃ m, m = D.length := ⟨_, rfl⟩
 rw [← hm1] at hl1
 rw [← hm2] at hl2
 have t1 : decide (65 < (m1 : Int)) = false := by simp; omega
 have t2 : decide (65 < (m2 : Int)) = false := by simp; omega
 have hlp : 0 < D.length := by
  rcases D with _ | ⟨x, t⟩
  ·
   cases h0
  ·
   simp
 rw [← hm2] at hlp
 have t3 : ((m2 : Int) == 0) = false := by simp; omega
 have hof1 := fun w' => iof_any 1 w' (by decide) (by decide)
 have hof2 := fun w' => iof_any (-1) w' (by decide) (by decide)
 have HOF1 := Lib.hid hof1; clear hof1
 have HOF2 := Lib.hid hof2; clear hof2
 have H0 := Lib.hid h0; clear h0
 have hn1 : ∀ w', (binOp .neq 28 (.agg #[.bool (ineg (1)), .string (imag (1))]) (.agg #[.bool (ineg 1), .string (imag 1)])).run Tryz.prog w' = .ok (.bool false) w' := fun w' => (neq_int (1) 1 w').trans rfl
 have hb2 : n < 0 ∨ (¬ n < 0 ∧ 4096 < n) := by omega
 clear hb
 rw [← hm1] at hr1 hc1 ⊢
 rw [← hm2] at hr2 hc2 ⊢
 have hc1w := hc1 w hr1
 obtain ⟨b, off, rfl, hbw, hce⟩ := hr2.at_ (by omega)
 have HCE := Lib.hid hce; clear hce
 have HC1 := Lib.hid hc1w; clear hc1w
 have HC2 := Lib.hid hc2; clear hc2
 have HR1 := Lib.hid hr1; clear hr1
 have HR2 := Lib.hid hr2; clear hr2
 clear hN hD hc1 hm1 hm2
 go_enter Tryz.func22, Tryz.ntmps22
 go_wp2_with fail
 go_at_call 60
 refine HC1.out.mono ?_
 rintro e w1 ⟨hq, rfl⟩
 have h2 := HC2.out w1 (HR2.out.below hq (Nat.le_refl _))
 have HQ := Lib.hid hq; clear hq
 have H2 := Lib.hid h2; clear h2
 go_wp2_with fail
 go_at_call 60
 refine H2.out.mono ?_
 rintro e w2 ⟨hq, rfl⟩
 have s2 := HQ.out.trans (hq.mono HQ.out.size)
 have S2 := Lib.hid s2; clear s2
 clear hq
 obtain ⟨c0, c1⟩ := int_cells HCE.out S2.out hbw H0.out
 rw [Nat.zero_mul, Nat.add_zero] at c0
 rw [Nat.zero_mul] at c1
 have hbw2 : b < w2.heap.size := by have := S2.out.size; omega
 have sW := (Below.refl w2.heap.size w2).drew
 go_wp2_with fail
 refine wp_region_held_drew (S := fun w' => w'.cell? ⟨b, off, none⟩ = some (.bool (ineg (1))) ∧ w'.cell? ⟨b, off + (0 + 1), none⟩ = some (.string (imag (1)))) (by kernel_rfl) ?_ (fun hHeld => ?_)
 ·
  go_keep
 refine zT 0 (h := ?_)
 (try simp only [Act.put, zA, zB, zC])
 refine zT 1 (h := ?_)
 (try simp only [Act.put, zA, zB, zC])
 refine zT 2 (h := ?_)
 (try simp only [Act.put, zA, zB, zC])
 refine zT 3 (h := ?_)
 (try simp only [Act.put, zA, zB, zC])
 refine zT 4 (h := ?_)
 (try simp only [Act.put, zA, zB, zC])
 refine zT 5 (h := ?_)
 (try simp only [Act.put, zA, zB, zC])
 refine zT 6 (h := ?_)
 (try simp only [Act.put, zA, zB, zC])
 refine zR 7 (h := fun K hK => ?_)
 rw [if_pos (by kernel_rfl)]
 go_simp
 go_at_call 28
 refine (HOF1.out _).mono ?_
 rintro e' wa1 ⟨hq, rfl⟩
 dsimp only
 have z0 := (hq.cell (p := ⟨b, off, none⟩) (show b < w2.heap.size by omega)).trans hHeld.1
 have z1 := (hq.cell (p := ⟨b, off + (0 + 1), none⟩) (show b < w2.heap.size by omega)).trans hHeld.2
 refine hK.out _ _ ⟨z0, z1⟩ (fun hH2 => ?_)
 clear hK K z0  z1
 (try simp only [Act.put, zA, zB, zC])
 have sa3 : Below w2.heap.size w2 wa1 := sW.trans (hq.mono sW.size)
 clear hq
 have hlwa1 : w2.heap.size ≤ wa1.heap.size := sa3.size
 refine zT 8 (h := ?_)
 (try simp only [Act.put, zA, zB, zC])
 refine zT 9 (h := ?_)
 (try simp only [Act.put, zA, zB, zC])
 refine wpAnyH_take (i := 10) (v := undef) rfl (by kernel_rfl) (by kernel_rfl) (by kernel_rfl) (fun _ _ _ h => h) (Or.inr ⟨by kernel_rfl, rfl⟩) (by assumption) ?_
 (try simp only [Act.put, zA, zB, zC])
 refine wpAnyH_take (i := 11) (v := undef) rfl (by kernel_rfl) (by kernel_rfl) (by kernel_rfl) (fun _ _ _ h => h) (Or.inr ⟨by kernel_rfl, rfl⟩) (by assumption) ?_
 (try simp only [Act.put, zA, zB, zC])
 refine wpAnyH_take (i := 12) (v := undef) rfl (by kernel_rfl) (by kernel_rfl) (by kernel_rfl) (fun _ _ _ h => h) (Or.inr ⟨by kernel_rfl, rfl⟩) (by assumption) ?_
 (try simp only [Act.put, zA, zB, zC])
 refine wpAnyH_take (i := 13) (v := undef) rfl (by kernel_rfl) (by kernel_rfl) (by kernel_rfl) (fun _ _ _ h => h) (Or.inr ⟨by kernel_rfl, rfl⟩) (by assumption) ?_
 (try simp only [Act.put, zA, zB, zC])
 refine wpAnyH_take (i := 14) (v := undef) rfl (by kernel_rfl) (by kernel_rfl) (by kernel_rfl) (fun _ _ _ h => h) (Or.inr ⟨by kernel_rfl, rfl⟩) (by assumption) ?_
 (try simp only [Act.put, zA, zB, zC])
 refine zT 15 (h := ?_)
 (try simp only [Act.put, zA, zB, zC])
 refine zT 16 (h := ?_)
 (try simp only [Act.put, zA, zB, zC])
 refine zT 17 (h := ?_)
 (try simp only [Act.put, zA, zB, zC])
 refine wpAnyH_done (by kernel_rfl) ?_ _
 (try simp only [List.getElem_toArray, List.getElem_cons_zero, List.getElem_cons_succ, Act.put, zA, zB, zC])
 have s5 := S2.out.trans (sa3.mono S2.out.size)
 have S5 := Lib.hid s5; clear s5
 rcases hb2 with hb | ⟨hb1, hb⟩
 ·
  have t4 : decide (n < 0) = true := decide_eq_true (by omega)
  go_wp2_with fail
  go_ret2
  exact ⟨S5.out, rfl⟩
 ·
  have t4 : decide (n < 0) = false := decide_eq_false (by omega)
  have t5 : decide (4096 < n) = true := decide_eq_true (by omega)
  go_wp2_with fail
  go_ret2
  exact ⟨S5.out, rfl⟩
set_option maxRecDepth 100000 in
set_option maxHeartbeats 3200000 in
theorem expE_rng_neg (p : Nat) (n : Int) (N D : List Int) (v1 v2 : Value) (w : World) (hr1 : Row w v1 N.length (civ N)) (hr2 : Row w v2 D.length (civ D)) (hN : ∀ z ∈ N, sm p z) (hD : ∀ z ∈ D, sm p z) (hp : p ≤ 100) (hl1 : N.length ≤ 65) (hl2 : D.length ≤ 65) (h0 : D[0]? = some (-1)) (hb : n < 0 ∨ 4096 < n) :
  Calls Tryz.prog 22 #[v1, v2, .int .i64 n] w (Ret w (.tuple #[.slice none 0 0, .int .i64 2])) := by
 have hc1 := fun w' h => cfG_civ N v1 w' h (fun z hz => (hN z hz).small (by omega))
 have hc2 := fun w' h => cfG_civ D v2 w' h (fun z hz => (hD z hz).small (by omega))
 obtain ⟨va, vc, rfl, hle1⟩ := hr1.slice
 obtain ⟨vb, vd, rfl, hle2⟩ := hr2.slice
 obtain ⟨m1, hm1⟩ : ∃ m, m = N.length := ⟨_, rfl⟩
 obtain ⟨m2, hm2⟩ : ∃ m, m = D.length := ⟨_, rfl⟩
 rw [← hm1] at hl1
 rw [← hm2] at hl2
 have t1 : decide (65 < (m1 : Int)) = false := by simp; omega
 have t2 : decide (65 < (m2 : Int)) = false := by simp; omega
 have hlp : 0 < D.length := by
  rcases D with _ | ⟨x, t⟩
  ·
   cases h0
  ·
   simp
 rw [← hm2] at hlp
 have t3 : ((m2 : Int) == 0) = false := by simp; omega
 have hof1 := fun w' => iof_any 1 w' (by decide) (by decide)
 have hof2 := fun w' => iof_any (-1) w' (by decide) (by decide)
 have HOF1 := Lib.hid hof1; clear hof1
 have HOF2 := Lib.hid hof2; clear hof2
 have H0 := Lib.hid h0; clear h0
 have hn1 : ∀ w', (binOp .neq 28 (.agg #[.bool (ineg (-1)), .string (imag (-1))]) (.agg #[.bool (ineg 1), .string (imag 1)])).run Tryz.prog w' = .ok (.bool true) w' := fun w' => (neq_int (-1) 1 w').trans rfl
 have hn2 : ∀ w', (binOp .neq 28 (.agg #[.bool (ineg (-1)), .string (imag (-1))]) (.agg #[.bool (ineg (-1)), .string (imag (-1))])).run Tryz.prog w' = .ok (.bool false) w' := fun w' => (neq_int (-1) (-1) w').trans rfl
 have hb2 : n < 0 ∨ (¬ n < 0 ∧ 4096 < n) := by omega
 clear hb
 rw [← hm1] at hr1 hc1 ⊢
 rw [← hm2] at hr2 hc2 ⊢
 have hc1w := hc1 w hr1
 obtain ⟨b, off, rfl, hbw, hce⟩ := hr2.at_ (by omega)
 have HCE := Lib.hid hce; clear hce
 have HC1 := Lib.hid hc1w; clear hc1w
 have HC2 := Lib.hid hc2; clear hc2
 have HR1 := Lib.hid hr1; clear hr1
 have HR2 := Lib.hid hr2; clear hr2
 clear hN hD hc1 hm1 hm2
 go_enter Tryz.func22, Tryz.ntmps22
 go_wp2_with fail
 go_at_call 60
 refine HC1.out.mono ?_
 rintro e w1 ⟨hq, rfl⟩
 have h2 := HC2.out w1 (HR2.out.below hq (Nat.le_refl _))
 have HQ := Lib.hid hq; clear hq
 have H2 := Lib.hid h2; clear h2
 go_wp2_with fail
 go_at_call 60
 refine H2.out.mono ?_
 rintro e w2 ⟨hq, rfl⟩
 have s2 := HQ.out.trans (hq.mono HQ.out.size)
 have S2 := Lib.hid s2; clear s2
 clear hq
 obtain ⟨c0, c1⟩ := int_cells HCE.out S2.out hbw H0.out
 rw [Nat.zero_mul, Nat.add_zero] at c0
 rw [Nat.zero_mul] at c1
 have hbw2 : b < w2.heap.size := by have := S2.out.size; omega
 have sW := (Below.refl w2.heap.size w2).drew
 go_wp2_with fail
 refine wp_region_held_drew (S := fun w' => w'.cell? ⟨b, off, none⟩ = some (.bool (ineg (-1))) ∧ w'.cell? ⟨b, off + (0 + 1), none⟩ = some (.string (imag (-1)))) (by kernel_rfl) ?_ (fun hHeld => ?_)
 ·
  go_keep
 refine zT 0 (h := ?_)
 (try simp only [Act.put, zA, zB, zC])
 refine zT 1 (h := ?_)
 (try simp only [Act.put, zA, zB, zC])
 refine zT 2 (h := ?_)
 (try simp only [Act.put, zA, zB, zC])
 refine zT 3 (h := ?_)
 (try simp only [Act.put, zA, zB, zC])
 refine zT 4 (h := ?_)
 (try simp only [Act.put, zA, zB, zC])
 refine zT 5 (h := ?_)
 (try simp only [Act.put, zA, zB, zC])
 refine zT 6 (h := ?_)
 (try simp only [Act.put, zA, zB, zC])
 refine zR 7 (h := fun K hK => ?_)
 rw [if_pos (by kernel_rfl)]
 go_simp
 go_at_call 28
 refine (HOF1.out _).mono ?_
 rintro e' wa1 ⟨hq, rfl⟩
 dsimp only
 have z0 := (hq.cell (p := ⟨b, off, none⟩) (show b < w2.heap.size by omega)).trans hHeld.1
 have z1 := (hq.cell (p := ⟨b, off + (0 + 1), none⟩) (show b < w2.heap.size by omega)).trans hHeld.2
 refine hK.out _ _ ⟨z0, z1⟩ (fun hH2 => ?_)
 clear hK K z0  z1
 (try simp only [Act.put, zA, zB, zC])
 have sa3 : Below w2.heap.size w2 wa1 := sW.trans (hq.mono sW.size)
 clear hq
 have hlwa1 : w2.heap.size ≤ wa1.heap.size := sa3.size
 refine zT 8 (h := ?_)
 (try simp only [Act.put, zA, zB, zC])
 refine zT 9 (h := ?_)
 (try simp only [Act.put, zA, zB, zC])
 refine zT 10 (h := ?_)
 (try simp only [Act.put, zA, zB, zC])
 refine zT 11 (h := ?_)
 (try simp only [Act.put, zA, zB, zC])
 refine zT 12 (h := ?_)
 (try simp only [Act.put, zA, zB, zC])
 refine zR 13 (h := fun K hK => ?_)
 rw [if_pos (by kernel_rfl)]
 go_simp
 go_at_call 28
 refine (HOF2.out _).mono ?_
 rintro e' wa5 ⟨hq, rfl⟩
 dsimp only
 have z0 := (hq.cell (p := ⟨b, off, none⟩) (show b < wa1.heap.size by omega)).trans hH2.1
 have z1 := (hq.cell (p := ⟨b, off + (0 + 1), none⟩) (show b < wa1.heap.size by omega)).trans hH2.2
 refine hK.out _ _ ⟨z0, z1⟩ (fun hH6 => ?_)
 clear hK K z0  z1
 (try simp only [Act.put, zA, zB, zC])
 have sa7 : Below w2.heap.size w2 wa5 := sa3.trans (hq.mono sa3.size)
 clear hq
 have hlwa5 : w2.heap.size ≤ wa5.heap.size := sa7.size
 refine zT 14 (h := ?_)
 (try simp only [Act.put, zA, zB, zC])
 refine zT 15 (h := ?_)
 (try simp only [Act.put, zA, zB, zC])
 refine zT 16 (h := ?_)
 (try simp only [Act.put, zA, zB, zC])
 refine zT 17 (h := ?_)
 (try simp only [Act.put, zA, zB, zC])
 refine wpAnyH_done (by kernel_rfl) ?_ _
 (try simp only [List.getElem_toArray, List.getElem_cons_zero, List.getElem_cons_succ, Act.put, zA, zB, zC])
 have s5 := S2.out.trans (sa7.mono S2.out.size)
 have S5 := Lib.hid s5; clear s5
 rcases hb2 with hb | ⟨hb1, hb⟩
 ·
  have t4 : decide (n < 0) = true := decide_eq_true (by omega)
  go_wp2_with fail
  go_ret2
  exact ⟨S5.out, rfl⟩
 ·
  have t4 : decide (n < 0) = false := decide_eq_false (by omega)
  have t5 : decide (4096 < n) = true := decide_eq_true (by omega)
  go_wp2_with fail
  go_ret2
  exact ⟨S5.out, rfl⟩
end Go.Proofs.YthpgeeaccmgbkaaGreat

/- groovelaw29.awake, given Rank and Unrank at the chapter's example. -/
import Derived.Deep.RegionHeld3
import Derived.Test.YtalipfnbpnkgnaaGreatGold
import Derived.Test.YtalipfnbpnkgnaaGreatEBit
import Derived.Test.YtalipfnbpnkgnaaGreatEqZ
namespace Go.Proofs.YtalipfnbpnkgnaaGreat
open Go.RowKit

theorem row_lit (w : World) : Row (w.alloc (.cells #[.int .i64 0, .int .i64 1] 3)) (.slice (some ⟨w.heap.size, 0, none⟩) 2 2) 2 (ci [0, 1]) :=
  Row.ofBlk (Blk.new w 3 [.int .i64 0, .int .i64 1]) (m := 2) (cap := 2) (Nat.le_refl _) (by decide) 2
set_option maxRecDepth 100000 in
set_option maxHeartbeats 3200000 in
theorem awake29 (w : World)
    (hrank : ∀ v w, Row w v 3 (ce goldE) → Calls Tryz.prog 21 #[.agg #[.int .i64 2, .int .i64 2, v], .int .i64 0, .string ⟨#[48, 49, 48]⟩] w (Ret w (.tuple #[IntV 2, .int .i64 0])))
    (hun : ∀ v w, Row w v 3 (ce goldE) → Calls Tryz.prog 19 #[.agg #[.int .i64 2, .int .i64 2, v], .int .i64 0, .int .i64 3, IntV 4] w (Ret w (.tuple #[.string ⟨#[49, 48, 49]⟩, .int .i64 0]))) :
    Calls Tryz.prog 10 #[] w (Ret w (.bool true)) := by
  have hof2 := fun w' => iof_any 2 w' (by decide) (by decide)
  have hof3 := fun w' => iof_any 3 w' (by decide) (by decide)
  have hof4 := fun w' => iof_any 4 w' (by decide) (by decide)
  have hpr := fun v w' (h : Row w' v 3 (ce goldE)) => eprc_any 2 2 goldE v 3 (ineg 3) (imag 3) w' h gold_ok (by rw [imag_size]; exact Nat.le_trans (m := 1) (by decide +kernel) (by decide))
  rw [gold_prcP] at hpr
  have hbi := fun v w' (h : Row w' v 3 (ce goldE)) => ebits_ok 2 2 4 goldE v w' h gold_ok gold_eck (by decide) (by decide) 2 0 (.inr ⟨2, rfl, rfl, by decide, hasB_all gold_has2 gold_has3⟩)
  have HOF2 := Lib.hid hof2; clear hof2
  have HOF3 := Lib.hid hof3; clear hof3
  have HOF4 := Lib.hid hof4; clear hof4
  have HRK := Lib.hid hrank; clear hrank
  have HUN := Lib.hid hun; clear hun
  have HPR := Lib.hid hpr; clear hpr
  have HBI := Lib.hid hbi; clear hbi
  go_enter Tryz.func10, Tryz.ntmps10
  go_wp2_with fail
  go_at_call 28
  refine (golden_any _).mono ?_
  rintro e w1 ⟨hq1, vg, rfl, hr1⟩
  obtain ⟨ga, gc, rfl, -⟩ := hr1.slice
  have s1 := hq1.alloc hq1.size (.cells #[.int .i64 2, .int .i64 2, .slice ga 3 gc] 24)
  have b1 := Blk.new w1 24 [.int .i64 2, .int .i64 2, .slice ga 3 gc]
  have hr1' := hr1.below ((Below.refl w1.heap.size w1).alloc (Nat.le_refl _) (.cells #[.int .i64 2, .int .i64 2, .slice ga 3 gc] 24)) (Nat.le_refl _)
  have hw1 := hq1.size
  have S1 := Lib.hid s1; clear s1
  have B1 := Lib.hid b1; clear b1
  have HR1 := Lib.hid hr1'; clear hr1'
  clear hq1 hr1
  go_wp2_with fail
  go_at_call 21
  refine (HRK.out _ _ HR1.out).mono ?_
  rintro e w2 ⟨hq2, rfl⟩
  have s2 := (S1.out.trans (hq2.mono S1.out.size))
  have s2 := s2.alloc s2.size (.cells #[.bool (ineg 2), .string (imag 2)] 33)
  have b2 := (B1.out.keep hq2).alloc (.cells #[.bool (ineg 2), .string (imag 2)] 33)
  have n2 := Blk.new w2 33 [.bool (ineg 2), .string (imag 2)]
  have hr2 := (HR1.out.below hq2 (Nat.le_refl _)).below ((Below.refl w2.heap.size w2).alloc (Nat.le_refl _) (.cells #[.bool (ineg 2), .string (imag 2)] 33)) (Nat.le_refl _)
  have x0 := b2.cell (j := 0) rfl
  have x1 := b2.cell (j := 1) rfl
  have x2 := b2.cell (j := 2) rfl
  have hw2 : w1.heap.size < w2.heap.size := by have := hq2.size; simp at this; omega
  have S2 := Lib.hid s2; clear s2
  have B2 := Lib.hid b2; clear b2
  have N2 := Lib.hid n2; clear n2
  have HR2 := Lib.hid hr2; clear hr2
  clear hq2
  go_wp2_with fail
  refine wp_region_held_drew (S := fun w' => w'.cell? ⟨w1.heap.size, 0, none⟩ = some (.int .i64 2) ∧ w'.cell? ⟨w1.heap.size, 1, none⟩ = some (.int .i64 2) ∧ w'.cell? ⟨w1.heap.size, 2, none⟩ = some (.slice ga 3 gc)) (by kernel_rfl) ?_ (fun hHeld => ?_)
  · go_keep
  refine wpAnyH_take (i := 0) (v := ?_) rfl (by kernel_rfl) (by kernel_rfl) (by kernel_rfl) (fun _ _ _ h => h) (Or.inl ⟨by rfl, ?_⟩) (by assumption) ?_
  rotate_left
  · (intro wS hSw; (try dsimp only at hSw); go_simp; (try with_reducible rfl))
  (try simp only [Act.put, List.setIfInBounds_toArray, List.set_cons_zero, List.set_cons_succ])
  refine wpAnyH_ready (rs := [1]) (by kernel_rfl) (by simp) ?_
  refine AllReadyH.cons rfl (fun K hK => ?_) AllReadyH.nil
  go_simp
  go_at_call 20
  refine (HOF4.out _).mono ?_
  rintro e w3 ⟨hq, rfl⟩
  dsimp only
  have z0 := (hq.cell (p := ⟨w1.heap.size, 0, none⟩) (by simp; omega)).trans hHeld.1
  have z1 := (hq.cell (p := ⟨w1.heap.size, 1, none⟩) (by simp; omega)).trans hHeld.2.1
  have z2 := (hq.cell (p := ⟨w1.heap.size, 2, none⟩) (by simp; omega)).trans hHeld.2.2
  refine hK.out _ _ ⟨z0, z1, z2⟩ (fun hHeld2 => ?_)
  clear hK K
  (try simp only [Act.put, List.setIfInBounds_toArray, List.set_cons_zero, List.set_cons_succ])
  have s3 := S2.out.drew.trans (hq.mono S2.out.drew.size)
  have b3 := B2.out.drew.keep hq
  have n3 := N2.out.drew.keep hq
  have hr3 := HR2.out.drew.below hq (Nat.le_refl _)
  have hw3 : w1.heap.size < w3.heap.size := b3.lt
  have S3 := Lib.hid s3; clear s3
  have B3 := Lib.hid b3; clear b3
  have N3 := Lib.hid n3; clear n3
  have HR3 := Lib.hid hr3; clear hr3
  clear hq x0 x1 x2
  refine wpAnyH_ready (rs := [2]) (by kernel_rfl) (by simp) ?_
  refine AllReadyH.cons rfl (fun K hK => ?_) AllReadyH.nil
  go_simp
  go_at_call 19
  refine (HUN.out _ _ HR3.out).mono ?_
  rintro e w4 ⟨hq, rfl⟩
  dsimp only
  have z3 := (hq.cell (p := ⟨w1.heap.size, 0, none⟩) hw3).trans z0
  have z4 := (hq.cell (p := ⟨w1.heap.size, 1, none⟩) hw3).trans z1
  have z5 := (hq.cell (p := ⟨w1.heap.size, 2, none⟩) hw3).trans z2
  refine hK.out _ _ ⟨z3, z4, z5⟩ (fun hHeld3 => ?_)
  clear hK K
  (try simp only [Act.put, List.setIfInBounds_toArray, List.set_cons_zero, List.set_cons_succ])
  have s4 := S3.out.trans (hq.mono S3.out.size)
  have b4 := B3.out.keep hq
  have n4 := N3.out.keep hq
  have hr4 := HR3.out.below hq (Nat.le_refl _)
  have x0 := b4.cell (j := 0) rfl
  have x1 := b4.cell (j := 1) rfl
  have x2 := b4.cell (j := 2) rfl
  have hw4 : w1.heap.size < w4.heap.size := b4.lt
  have S4 := Lib.hid s4; clear s4
  have B4 := Lib.hid b4; clear b4
  have N4 := Lib.hid n4; clear n4
  have HR4 := Lib.hid hr4; clear hr4
  clear hq z0 z1 z2 z3 z4 z5
  refine wpAnyH_take (i := 3) (v := ?_) rfl (by kernel_rfl) (by kernel_rfl) (by kernel_rfl) (fun _ _ _ h => h) (Or.inl ⟨by rfl, ?_⟩) (by assumption) ?_
  rotate_left
  · (intro wS hSw; (try dsimp only at hSw); go_simp; (try with_reducible rfl))
  (try simp only [Act.put, List.setIfInBounds_toArray, List.set_cons_zero, List.set_cons_succ])
  refine wpAnyH_take (i := 4) (v := ?_) rfl (by kernel_rfl) (by kernel_rfl) (by kernel_rfl) (fun _ _ _ h => h) (Or.inl ⟨by rfl, ?_⟩) (by assumption) ?_
  rotate_left
  · (intro wS hSw; (try dsimp only at hSw); go_simp; (try with_reducible rfl))
  (try simp only [Act.put, List.setIfInBounds_toArray, List.set_cons_zero, List.set_cons_succ])
  refine wpAnyH_take (i := 5) (v := ?_) rfl (by kernel_rfl) (by kernel_rfl) (by kernel_rfl) (fun _ _ _ h => h) (Or.inl ⟨by rfl, ?_⟩) (by assumption) ?_
  rotate_left
  · (intro wS hSw; (try dsimp only at hSw); go_simp; (try with_reducible rfl))
  (try simp only [Act.put, List.setIfInBounds_toArray, List.set_cons_zero, List.set_cons_succ])
  refine wpAnyH_take (i := 6) (v := ?_) rfl (by kernel_rfl) (by kernel_rfl) (by kernel_rfl) (fun _ _ _ h => h) (Or.inl ⟨by rfl, ?_⟩) (by assumption) ?_
  rotate_left
  · (intro wS hSw; (try dsimp only at hSw); go_simp; (try with_reducible rfl))
  (try simp only [Act.put, List.setIfInBounds_toArray, List.set_cons_zero, List.set_cons_succ])
  refine wpAnyH_take (i := 7) (v := ?_) rfl (by kernel_rfl) (by kernel_rfl) (by kernel_rfl) (fun _ _ _ h => h) (Or.inl ⟨by rfl, ?_⟩) (by assumption) ?_
  rotate_left
  · (intro wS hSw; (try dsimp only at hSw); go_simp; (try with_reducible rfl))
  (try simp only [Act.put, List.setIfInBounds_toArray, List.set_cons_zero, List.set_cons_succ])
  refine wpAnyH_done (by kernel_rfl) ?_ _
  simp only [List.getElem_toArray, List.getElem_cons_zero, List.getElem_cons_succ, Act.put, List.setIfInBounds_toArray, List.set_cons_zero, List.set_cons_succ]
  go_wp2_with fail
  refine wp_region_held_drew (S := fun w' => w'.cell? ⟨w1.heap.size, 0, none⟩ = some (.int .i64 2) ∧ w'.cell? ⟨w1.heap.size, 1, none⟩ = some (.int .i64 2) ∧ w'.cell? ⟨w1.heap.size, 2, none⟩ = some (.slice ga 3 gc)) (by kernel_rfl) ?_ (fun hHeld => ?_)
  · go_keep
  refine wpAnyH_take (i := 0) (v := ?_) rfl (by kernel_rfl) (by kernel_rfl) (by kernel_rfl) (fun _ _ _ h => h) (Or.inl ⟨by rfl, ?_⟩) (by assumption) ?_
  rotate_left
  · (intro wS hSw; (try dsimp only at hSw); go_simp; (try with_reducible rfl))
  (try simp only [Act.put, List.setIfInBounds_toArray, List.set_cons_zero, List.set_cons_succ])
  refine wpAnyH_ready (rs := [1]) (by kernel_rfl) (by simp) ?_
  refine AllReadyH.cons rfl (fun K hK => ?_) AllReadyH.nil
  go_simp
  go_at_call 20
  refine (HOF3.out _).mono ?_
  rintro e w5 ⟨hq, rfl⟩
  dsimp only
  have z0 := (hq.cell (p := ⟨w1.heap.size, 0, none⟩) (by simp; omega)).trans hHeld.1
  have z1 := (hq.cell (p := ⟨w1.heap.size, 1, none⟩) (by simp; omega)).trans hHeld.2.1
  have z2 := (hq.cell (p := ⟨w1.heap.size, 2, none⟩) (by simp; omega)).trans hHeld.2.2
  refine hK.out _ _ ⟨z0, z1, z2⟩ (fun hHeld4 => ?_)
  clear hK K
  (try simp only [Act.put, List.setIfInBounds_toArray, List.set_cons_zero, List.set_cons_succ])
  have s5 := S4.out.drew.trans (hq.mono S4.out.drew.size)
  have b5 := B4.out.drew.keep hq
  have n5 := N4.out.drew.keep hq
  have hr5 := HR4.out.drew.below hq (Nat.le_refl _)
  have hw5 : w1.heap.size < w5.heap.size := b5.lt
  have S5 := Lib.hid s5; clear s5
  have B5 := Lib.hid b5; clear b5
  have N5 := Lib.hid n5; clear n5
  have HR5 := Lib.hid hr5; clear hr5
  clear hq x0 x1 x2
  refine wpAnyH_ready (rs := [2]) (by kernel_rfl) (by simp) ?_
  refine AllReadyH.cons rfl (fun K hK => ?_) AllReadyH.nil
  go_simp
  go_at_call 29
  refine (HPR.out _ _ HR5.out).mono ?_
  rintro e w6 ⟨hq, vp, rfl, hrp⟩
  have hrp : Row w6 vp 2 (ci [0, 1]) := hrp
  obtain ⟨pa, pc, rfl, -⟩ := hrp.slice
  dsimp only
  have z3 := (hq.cell (p := ⟨w1.heap.size, 0, none⟩) hw5).trans z0
  have z4 := (hq.cell (p := ⟨w1.heap.size, 1, none⟩) hw5).trans z1
  have z5 := (hq.cell (p := ⟨w1.heap.size, 2, none⟩) hw5).trans z2
  refine hK.out _ _ ⟨z3, z4, z5⟩ (fun hHeld5 => ?_)
  clear hK K
  (try simp only [Act.put, List.setIfInBounds_toArray, List.set_cons_zero, List.set_cons_succ])
  have s6 := S5.out.trans (hq.mono S5.out.size)
  have b6 := B5.out.keep hq
  have n6 := N5.out.keep hq
  have hr6 := HR5.out.below hq (Nat.le_refl _)
  have x0 := b6.cell (j := 0) rfl
  have x1 := b6.cell (j := 1) rfl
  have x2 := b6.cell (j := 2) rfl
  have S6 := Lib.hid s6; clear s6
  have B6 := Lib.hid b6; clear b6
  have N6 := Lib.hid n6; clear n6
  have HR6 := Lib.hid hr6; clear hr6
  have HRP := Lib.hid hrp; clear hrp
  clear hq z0 z1 z2 z3 z4 z5
  refine wpAnyH_take (i := 3) (v := ?_) rfl (by kernel_rfl) (by kernel_rfl) (by kernel_rfl) (fun _ _ _ h => h) (Or.inl ⟨by rfl, ?_⟩) (by assumption) ?_
  rotate_left
  · (intro wS hSw; (try dsimp only at hSw); go_simp; (try with_reducible rfl))
  (try simp only [Act.put, List.setIfInBounds_toArray, List.set_cons_zero, List.set_cons_succ])
  refine wpAnyH_take (i := 4) (v := ?_) rfl (by kernel_rfl) (by kernel_rfl) (by kernel_rfl) (fun _ _ _ h => h) (Or.inl ⟨by rfl, ?_⟩) (by assumption) ?_
  rotate_left
  · (intro wS hSw; (try dsimp only at hSw); go_simp; (try with_reducible rfl))
  (try simp only [Act.put, List.setIfInBounds_toArray, List.set_cons_zero, List.set_cons_succ])
  refine wpAnyH_take (i := 5) (v := ?_) rfl (by kernel_rfl) (by kernel_rfl) (by kernel_rfl) (fun _ _ _ h => h) (Or.inl ⟨by rfl, ?_⟩) (by assumption) ?_
  rotate_left
  · (intro wS hSw; (try dsimp only at hSw); go_simp; (try with_reducible rfl))
  (try simp only [Act.put, List.setIfInBounds_toArray, List.set_cons_zero, List.set_cons_succ])
  refine wpAnyH_take (i := 6) (v := ?_) rfl (by kernel_rfl) (by kernel_rfl) (by kernel_rfl) (fun _ _ _ h => h) (Or.inl ⟨by rfl, ?_⟩) (by assumption) ?_
  rotate_left
  · (intro wS hSw; (try dsimp only at hSw); go_simp; (try with_reducible rfl))
  (try simp only [Act.put, List.setIfInBounds_toArray, List.set_cons_zero, List.set_cons_succ])
  refine wpAnyH_take (i := 7) (v := ?_) rfl (by kernel_rfl) (by kernel_rfl) (by kernel_rfl) (fun _ _ _ h => h) (Or.inl ⟨by rfl, ?_⟩) (by assumption) ?_
  rotate_left
  · (intro wS hSw; (try dsimp only at hSw); go_simp; (try with_reducible rfl))
  (try simp only [Act.put, List.setIfInBounds_toArray, List.set_cons_zero, List.set_cons_succ])
  refine wpAnyH_done (by kernel_rfl) ?_ _
  simp only [List.getElem_toArray, List.getElem_cons_zero, List.getElem_cons_succ, Act.put, List.setIfInBounds_toArray, List.set_cons_zero, List.set_cons_succ]
  go_wp2_with fail
  go_at_call 30
  refine (HBI.out _ _ HR6.out).mono ?_
  rintro e w7 ⟨hq, rfl⟩
  have s7 := S6.out.trans (hq.mono S6.out.size)
  have n7 := N6.out.keep hq
  have hrp7 := HRP.out.below hq (Nat.le_refl _)
  have y0 := n7.cell (j := 0) rfl
  have y1 := n7.cell (j := 1) rfl
  have hw7 : w2.heap.size < w7.heap.size := n7.lt
  have S7 := Lib.hid s7; clear s7
  have N7 := Lib.hid n7; clear n7
  have HRP7 := Lib.hid hrp7; clear hrp7
  clear hq x0 x1 x2
  have heq : ∀ w', (binOp .eql 33 (.agg #[.bool (ineg 2), .string (imag 2)]) (.agg #[.bool (ineg 2), .string (imag 2)])).run Tryz.prog w' = .ok (.bool true) w' := fun w' => by
    rw [eql_int]
    have e : (ineg 2 == ineg 2 && imag 2 == imag 2) = true := by rw [beq_str]; simp
    rw [e]
  have hmx : ∀ (w : World) (ts : Array TypeId) (t : TypeId), (Builtin.max_ ts t #[.int .i64 0, .int .i64 0, .int .i64 0, .int .i64 0]).run Tryz.prog w = .ok (.int .i64 0) w := fun w ts t => by simp [Builtin.max_, Builtin.max2]
  go_wp2_with fail
  go_region_held3 (fun w' => w'.cell? ⟨w2.heap.size, 0, none⟩ = some (.bool (ineg 2)) ∧ w'.cell? ⟨w2.heap.size, 1, none⟩ = some (.string (imag 2))) (go_keep) (first | (go_at_call 20; refine (HOF2.out _).mono ?_; rintro e w8 ⟨hq, rfl⟩; have y2 := (hq.cell (p := ⟨w2.heap.size, 0, none⟩) (by simp; omega)).trans y0; have y3 := (hq.cell (p := ⟨w2.heap.size, 1, none⟩) (by simp; omega)).trans y1; have hrp8 := HRP7.out.drew.below hq (Nat.le_refl _); have hw8 : w2.heap.size < w8.heap.size := (by have := hq.size; simp at this; omega); have HRP8 := Lib.hid hrp8; clear hrp8; have HQ8 := Lib.hid hq; clear hq) | (go_at_call 24; refine (equalZ_yes [0, 1] _ _ _ (HRP8.out.below ((Below.refl w8.heap.size w8).alloc (Nat.le_refl _) (.cells #[.int .i64 0, .int .i64 1] 3)) (Nat.le_refl _)) (row_lit w8)).mono ?_; rintro e w9 ⟨hq, rfl⟩; have y4 := (hq.cell (p := ⟨w2.heap.size, 0, none⟩) (by simp; omega)).trans ((below_new w8 (.cells #[.int .i64 0, .int .i64 1] 3) hw8 0).trans y2); have y5 := (hq.cell (p := ⟨w2.heap.size, 1, none⟩) (by simp; omega)).trans ((below_new w8 (.cells #[.int .i64 0, .int .i64 1] 3) hw8 1).trans y3); have HQ9 := Lib.hid hq; clear hq))
  go_wp2_with fail
  go_ret
  have t8 := S7.out.drew.trans (HQ8.out.mono S7.out.drew.size)
  have t9 := t8.alloc t8.size (.cells #[.int .i64 0, .int .i64 1] 3)
  exact ⟨t9.trans (HQ9.out.mono t9.size), rfl⟩
end Go.Proofs.YtalipfnbpnkgnaaGreat

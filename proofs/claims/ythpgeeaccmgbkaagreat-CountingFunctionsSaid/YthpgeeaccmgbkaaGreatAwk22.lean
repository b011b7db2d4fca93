/- groovelaw22.awake is true. -/
import Derived.Deep.RegionHeld3
import Derived.StillTailTactics
import Derived.Test.YthpgeeaccmgbkaaGreatPart19
import Derived.Test.YthpgeeaccmgbkaaGreatPart14
namespace Go.Proofs.YthpgeeaccmgbkaaGreat
open Go.RowKit

set_option maxRecDepth 100000 in
set_option maxHeartbeats 8000000 in
theorem awake22_true (w : World) : Calls Tryz.prog 7 #[] w (Ret w (.bool true)) := by
 have be := (Blk.new w 53 [.int .i64 0, .int .i64 0, .int .i64 0, .int .i64 0, .int .i64 1, .int .i64 1, .int .i64 1, .int .i64 0, .int .i64 0]).alloc (.cells #[.int .i64 2, .int .i64 2, .slice (some ⟨w.heap.size, 0, none⟩) 3 3] 24)
 have bg := Blk.new (w.alloc (.cells #[.int .i64 0, .int .i64 0, .int .i64 0, .int .i64 0, .int .i64 1, .int .i64 1, .int .i64 1, .int .i64 0, .int .i64 0] 53)) 24 [.int .i64 2, .int .i64 2, .slice (some ⟨w.heap.size, 0, none⟩) 3 3]
 simp only [World.size_alloc] at bg
 have s1 := ((Below.refl w.heap.size w).alloc (Nat.le_refl _) (.cells #[.int .i64 0, .int .i64 0, .int .i64 0, .int .i64 0, .int .i64 1, .int .i64 1, .int .i64 1, .int .i64 0, .int .i64 0] 53)).alloc (by simp) (.cells #[.int .i64 2, .int .i64 2, .slice (some ⟨w.heap.size, 0, none⟩) 3 3] 24)
 obtain ⟨w1, hw1⟩ : ∃ w1, (w.alloc (.cells #[.int .i64 0, .int .i64 0, .int .i64 0, .int .i64 0, .int .i64 1, .int .i64 1, .int .i64 1, .int .i64 0, .int .i64 0] 53)).alloc (.cells #[.int .i64 2, .int .i64 2, .slice (some ⟨w.heap.size, 0, none⟩) 3 3] 24) = w1 := ⟨_, rfl⟩
 rw [hw1] at be bg s1
 have hrow : Row w1 (.slice (some ⟨w.heap.size, 0, none⟩) 3 3) 3 (ce kE) := Row.ofBlk be (m := 3) (cap := 3) (Nat.le_refl _) (by unfold maxLen; omega) 9
 have hof4 := fun w' => iof_any 4 w' (by decide) (by decide)
 have hof1 := fun w' => iof_any 1 w' (by decide) (by decide)
 have hfr := k_from _ _ hrow
 have heql : ∀ (z : Int) w', (Op.equalIn 10000 28 (.agg #[.bool (ineg z), .string (imag z)]) (.agg #[.bool (ineg z), .string (imag z)])).run Tryz.prog w' = .ok true w' := fun z w' => eqIn_same _ _ w'
 have y0 := bg.cell (j := 0) rfl
 have y1 := bg.cell (j := 1) rfl
 have y2 := bg.cell (j := 2) rfl
 have HOF4 := Lib.hid hof4; clear hof4
 have HOF1 := Lib.hid hof1; clear hof1
 have HFR := Lib.hid hfr; clear hfr
 have BG1 := Lib.hid bg; clear bg
 have S1 := Lib.hid s1; clear s1
 have HR1 := Lib.hid hrow; clear hrow
 clear be
 go_enter Tryz.func7, Tryz.ntmps7
 go_wp2_with fail
 go_at_call 10
 refine HFR.out.mono ?_
 rintro e w2 ⟨hq, fb, rfl, hfb⟩
 have s2 := S1.out.trans (hq.mono S1.out.size)
 have hr2 := HR1.out.below hq (Nat.le_refl _)
 have tk := BG1.out.keep hq; have x0 := tk.cell (j := 0) rfl; have x1 := tk.cell (j := 1) rfl; have x2 := tk.cell (j := 2) rfl; have BG2 := Lib.hid tk; clear tk
 have hrf : Row w2 (.slice (some ⟨fb, 0, none⟩) 2 2) 2 (civ [5, 3]) := blk_row hfb (by simp)
 have hcl := k_closedC _ _ hr2
 have S2 := Lib.hid s2; clear s2
 have HR2 := Lib.hid hr2; clear hr2
 have HF2 := Lib.hid hrf; clear hrf
 have HCL := Lib.hid hcl; clear hcl
 clear hq hfb
 go_wp2_with fail
 go_at_call 14
 refine HCL.out.mono ?_
 rintro e w3 ⟨hq, rfl⟩
 have s3 := S2.out.trans (hq.mono S2.out.size)
 have hr3 := HR2.out.below hq (Nat.le_refl _)
 have hrf3 := HF2.out.below hq (Nat.le_refl _)
 have bg3 := BG2.out.keep hq
 have nc := Blk.new w3 28 [.bool (ineg 4), .string (imag 4)]
 have s3c := s3.alloc s3.size (.cells #[.bool (ineg 4), .string (imag 4)] 28)
 have sst := (Below.refl w3.heap.size w3).alloc (Nat.le_refl _) (.cells #[.bool (ineg 4), .string (imag 4)] 28)
 have hr3c := hr3.below sst (Nat.le_refl _)
 have hrf3c := hrf3.below sst (Nat.le_refl _)
 have bg3c := bg3.alloc (.cells #[.bool (ineg 4), .string (imag 4)] 28)
 have x0 := bg3c.cell (j := 0) rfl
 have x1 := bg3c.cell (j := 1) rfl
 have x2 := bg3c.cell (j := 2) rfl
 have hse := k_series _ _ hr3c
 have S3 := Lib.hid s3c; clear s3c
 have HR3 := Lib.hid hr3c; clear hr3c
 have HF3 := Lib.hid hrf3c; clear hrf3c
 have BG3 := Lib.hid bg3c; clear bg3c
 have NC := Lib.hid nc; clear nc
 have HSE := Lib.hid hse; clear hse
 clear hq s3 hr3 hrf3 bg3 sst
 go_wp2_with fail
 go_at_call 20
 refine HSE.out.mono ?_
 rintro e w4 ⟨hq, va, vb, rfl, hra, hrb⟩
 have s4 := S3.out.trans (hq.mono S3.out.size)
 have hr4 := HR3.out.below hq (Nat.le_refl _)
 have hrf4 := HF3.out.below hq (Nat.le_refl _)
 have nc4 := NC.out.keep hq
 have tk := BG3.out.keep hq; have x0 := tk.cell (j := 0) rfl; have x1 := tk.cell (j := 1) rfl; have x2 := tk.cell (j := 2) rfl; have BG4 := Lib.hid tk; clear tk
 have hor := k_orbits _ _ hr4
 have hcbl := nc4.lt
 have S4 := Lib.hid s4; clear s4
 have HF4 := Lib.hid hrf4; clear hrf4
 have NC4 := Lib.hid nc4; clear nc4
 have HA4 := Lib.hid hra; clear hra
 have HB4 := Lib.hid hrb; clear hrb
 have HOR := Lib.hid hor; clear hor
 clear hq hr4
 go_wp2_with fail
 go_at_call 16
 refine HOR.out.mono ?_
 rintro e w5 ⟨hq, rfl⟩
 have s5 := S4.out.trans (hq.mono S4.out.size)
 have hrf5 := HF4.out.below hq (Nat.le_refl _)
 have hra5 := HA4.out.below hq (Nat.le_refl _)
 have hrb5 := HB4.out.below hq (Nat.le_refl _)
 have nc5 := NC4.out.keep hq
 have no := Blk.new w5 28 [.bool (ineg 1), .string (imag 1)]
 have sst := (Below.refl w5.heap.size w5).alloc (Nat.le_refl _) (.cells #[.bool (ineg 1), .string (imag 1)] 28)
 have s6 := s5.alloc s5.size (.cells #[.bool (ineg 1), .string (imag 1)] 28)
 have hf := hrf5.below sst (Nat.le_refl _)
 have ha := hra5.below sst (Nat.le_refl _)
 have hb := hrb5.below sst (Nat.le_refl _)
 have nc6 := nc5.alloc (.cells #[.bool (ineg 1), .string (imag 1)] 28)
 obtain ⟨wR, hwR⟩ : ∃ wR, w5.alloc (.cells #[.bool (ineg 1), .string (imag 1)] 28) = wR := ⟨_, rfl⟩
 rw [hwR] at no s6 hf ha hb nc6
 have SR := Lib.hid s6; clear s6
 have HF := Lib.hid hf; clear hf
 have HA := Lib.hid ha; clear ha
 have HB := Lib.hid hb; clear hb
 clear hq s5 hrf5 hra5 hrb5 nc5 sst x0 x1 x2
 go_wp2_with fail
 (try rw [hwR])
 clear hwR
 obtain ⟨cb, hcb⟩ : ∃ cb, cb = w3.heap.size := ⟨_, rfl⟩
 obtain ⟨ob, hob⟩ : ∃ ob, ob = w5.heap.size := ⟨_, rfl⟩
 rw [← hcb] at nc6
 rw [← hob] at no
 (try rw [← hcb])
 (try rw [← hob])
 clear hcb hob
 have hcR := nc6.lt
 have hoR := no.lt
 have c0 := nc6.cell (j := 0) rfl
 have c1 := nc6.cell (j := 1) rfl
 have c2 := no.cell (j := 0) rfl
 have c3 := no.cell (j := 1) rfl
 refine wp_region_held_drew (S := fun w' => w'.cell? ⟨cb, 0, none⟩ = some (.bool (ineg 4)) ∧ w'.cell? ⟨cb, 1, none⟩ = some (.string (imag 4)) ∧ w'.cell? ⟨ob, 0, none⟩ = some (.bool (ineg 1)) ∧ w'.cell? ⟨ob, 1, none⟩ = some (.string (imag 1))) (by kernel_rfl) ?_ (fun hHeld => ?_)
 ·
  go_keep
 have sR : Below wR.heap.size wR wR.drew := (Below.refl wR.heap.size wR).drew
 refine zT 0 (h := ?_)
 (try simp only [Act.put, zA, zB, zC])
 refine zT 1 (h := ?_)
 (try simp only [Act.put, zA, zB, zC])
 refine zT 2 (h := ?_)
 (try simp only [Act.put, zA, zB, zC])
 refine zT 3 (h := ?_)
 (try simp only [Act.put, zA, zB, zC])
 refine zT 4 (h := ?_)
 (try simp only [Act.put, zA, zB, zC])
 refine zT 5 (h := ?_)
 (try simp only [Act.put, zA, zB, zC])
 refine zT 6 (h := ?_)
 (try simp only [Act.put, zA, zB, zC])
 refine zT 7 (h := ?_)
 (try simp only [Act.put, zA, zB, zC])
 refine zT 8 (h := ?_)
 (try simp only [Act.put, zA, zB, zC])
 refine zT 9 (h := ?_)
 (try simp only [Act.put, zA, zB, zC])
 refine zT 10 (h := ?_)
 (try simp only [Act.put, zA, zB, zC])
 refine zT 11 (h := ?_)
 (try simp only [Act.put, zA, zB, zC])
 refine zT 12 (h := ?_)
 (try simp only [Act.put, zA, zB, zC])
 refine zT 13 (h := ?_)
 (try simp only [Act.put, zA, zB, zC])
 refine zT 14 (h := ?_)
 (try simp only [Act.put, zA, zB, zC])
 refine zT 15 (h := ?_)
 (try simp only [Act.put, zA, zB, zC])
 have nb : Blk ((wR.alloc (.cells #[.int .i64 5, .int .i64 3] 3)).drew) wR.heap.size 3 (ci [5, 3]) := Blk.new wR _ _
 have sc3 : Below wR.heap.size wR ((wR.alloc (.cells #[.int .i64 5, .int .i64 3] 3)).drew) := ((Below.refl wR.heap.size wR).alloc (Nat.le_refl _) _).drew
 have hrx := Row.ofBlk nb (m := 2) (cap := 2) (Nat.le_refl _) (by unfold maxLen; omega) 2
 have hin := ints_any [5, 3] _ _ hrx (by simp) (by decide)
 refine zR 16 (h := fun K hK => ?_)
 rw [if_pos (by kernel_rfl)]
 go_simp
 refine hK.out _ _ ?_ (fun hC2 => ?_)
 ·
  ((try dsimp only); go_keep)
 clear hK K
 (try simp only [Act.put, zA, zB, zC])
 obtain ⟨wx1, hw4⟩ : ∃ wx1, ((wR.alloc (.cells #[.int .i64 5, .int .i64 3] 3)).drew) = wx1 := ⟨_, rfl⟩
 rw [hw4] at sc3 hin
 (try rw [hw4])
 (try rw [hw4] at hC2)
 clear hw4 nb hrx
 have hlwx1 : wR.heap.size ≤ wx1.heap.size := sc3.size
 refine zR 17 (h := fun K hK => ?_)
 rw [if_pos (by kernel_rfl)]
 go_simp
 go_at_call 30
 refine (hin).mono ?_
 rintro e' wc5 ⟨hq, vi, rfl, hown⟩
 dsimp only
 have z0 := (hq.cell (p := ⟨cb, 0, none⟩) (show cb < wx1.heap.size by omega)).trans hC2.1
 have z1 := (hq.cell (p := ⟨cb, 1, none⟩) (show cb < wx1.heap.size by omega)).trans hC2.2.1
 have z2 := (hq.cell (p := ⟨ob, 0, none⟩) (show ob < wx1.heap.size by omega)).trans hC2.2.2.1
 have z3 := (hq.cell (p := ⟨ob, 1, none⟩) (show ob < wx1.heap.size by omega)).trans hC2.2.2.2
 refine hK.out _ _ ⟨z0, z1, z2, z3⟩ (fun hC6 => ?_)
 clear hK K z0 z1 z2 z3
 (try simp only [Act.put, zA, zB, zC])
 have sc7 : Below wR.heap.size wR wc5 := sc3.trans (hq.mono sc3.size)
 clear hq
 have hlwc5 : wR.heap.size ≤ wc5.heap.size := sc7.size
 have hri := own_row hown
 have heq := equalI_yes [5, 3] _ _ _ (HF.below sc7 (Nat.le_refl _)) hri
 clear hown hin
 refine zR 18 (h := fun K hK => ?_)
 rw [if_pos (by kernel_rfl)]
 go_simp
 go_at_call 18
 refine (heq).mono ?_
 rintro e' wc8 ⟨hq, rfl⟩
 dsimp only
 have z0 := (hq.cell (p := ⟨cb, 0, none⟩) (show cb < wc5.heap.size by omega)).trans hC6.1
 have z1 := (hq.cell (p := ⟨cb, 1, none⟩) (show cb < wc5.heap.size by omega)).trans hC6.2.1
 have z2 := (hq.cell (p := ⟨ob, 0, none⟩) (show ob < wc5.heap.size by omega)).trans hC6.2.2.1
 have z3 := (hq.cell (p := ⟨ob, 1, none⟩) (show ob < wc5.heap.size by omega)).trans hC6.2.2.2
 refine hK.out _ _ ⟨z0, z1, z2, z3⟩ (fun hC9 => ?_)
 clear hK K z0 z1 z2 z3
 (try simp only [Act.put, zA, zB, zC])
 have sc10 : Below wR.heap.size wR wc8 := sc7.trans (hq.mono sc7.size)
 clear hq
 have hlwc8 : wR.heap.size ≤ wc8.heap.size := sc10.size
 clear heq hri
 refine zT 19 (h := ?_)
 (try simp only [Act.put, zA, zB, zC])
 refine zT 20 (h := ?_)
 (try simp only [Act.put, zA, zB, zC])
 refine zT 21 (h := ?_)
 (try simp only [Act.put, zA, zB, zC])
 refine zR 22 (h := fun K hK => ?_)
 rw [if_pos (by kernel_rfl)]
 go_simp
 go_at_call 28
 refine (HOF4.out _).mono ?_
 rintro e' wc11 ⟨hq, rfl⟩
 dsimp only
 have z0 := (hq.cell (p := ⟨cb, 0, none⟩) (show cb < wc8.heap.size by omega)).trans hC9.1
 have z1 := (hq.cell (p := ⟨cb, 1, none⟩) (show cb < wc8.heap.size by omega)).trans hC9.2.1
 have z2 := (hq.cell (p := ⟨ob, 0, none⟩) (show ob < wc8.heap.size by omega)).trans hC9.2.2.1
 have z3 := (hq.cell (p := ⟨ob, 1, none⟩) (show ob < wc8.heap.size by omega)).trans hC9.2.2.2
 refine hK.out _ _ ⟨z0, z1, z2, z3⟩ (fun hC12 => ?_)
 clear hK K z0 z1 z2 z3
 (try simp only [Act.put, zA, zB, zC])
 have sc13 : Below wR.heap.size wR wc11 := sc10.trans (hq.mono sc10.size)
 clear hq
 have hlwc11 : wR.heap.size ≤ wc11.heap.size := sc13.size
 refine zT 23 (h := ?_)
 (try simp only [Act.put, zA, zB, zC])
 refine zT 24 (h := ?_)
 (try simp only [Act.put, zA, zB, zC])
 refine zT 25 (h := ?_)
 (try simp only [Act.put, zA, zB, zC])
 refine zT 26 (h := ?_)
 (try simp only [Act.put, zA, zB, zC])
 have nb : Blk (wc11.alloc (.cells #[.int .i64 1, .int .i64 1] 3)) wc11.heap.size 3 (ci [1, 1]) := Blk.new wc11 _ _
 have sc16 : Below wR.heap.size wR (wc11.alloc (.cells #[.int .i64 1, .int .i64 1] 3)) := sc13.alloc sc13.size _
 have hrx := Row.ofBlk nb (m := 2) (cap := 2) (Nat.le_refl _) (by unfold maxLen; omega) 2
 have hin := ints_any [1, 1] _ _ hrx (by simp) (by decide)
 refine zR 27 (h := fun K hK => ?_)
 rw [if_pos (by kernel_rfl)]
 go_simp
 refine hK.out _ _ ?_ (fun hC15 => ?_)
 ·
  ((try dsimp only); go_keep)
 clear hK K
 (try simp only [Act.put, zA, zB, zC])
 obtain ⟨wx14, hw17⟩ : ∃ wx14, (wc11.alloc (.cells #[.int .i64 1, .int .i64 1] 3)) = wx14 := ⟨_, rfl⟩
 rw [hw17] at sc16 hin
 (try rw [hw17])
 (try rw [hw17] at hC15)
 clear hw17 nb hrx
 have hlwx14 : wR.heap.size ≤ wx14.heap.size := sc16.size
 refine zR 28 (h := fun K hK => ?_)
 rw [if_pos (by kernel_rfl)]
 go_simp
 go_at_call 30
 refine (hin).mono ?_
 rintro e' wc18 ⟨hq, vi, rfl, hown⟩
 dsimp only
 have z0 := (hq.cell (p := ⟨cb, 0, none⟩) (show cb < wx14.heap.size by omega)).trans hC15.1
 have z1 := (hq.cell (p := ⟨cb, 1, none⟩) (show cb < wx14.heap.size by omega)).trans hC15.2.1
 have z2 := (hq.cell (p := ⟨ob, 0, none⟩) (show ob < wx14.heap.size by omega)).trans hC15.2.2.1
 have z3 := (hq.cell (p := ⟨ob, 1, none⟩) (show ob < wx14.heap.size by omega)).trans hC15.2.2.2
 refine hK.out _ _ ⟨z0, z1, z2, z3⟩ (fun hC19 => ?_)
 clear hK K z0 z1 z2 z3
 (try simp only [Act.put, zA, zB, zC])
 have sc20 : Below wR.heap.size wR wc18 := sc16.trans (hq.mono sc16.size)
 clear hq
 have hlwc18 : wR.heap.size ≤ wc18.heap.size := sc20.size
 have hri := own_row hown
 have heq := equalI_yes [1, 1] _ _ _ (HA.below sc20 (Nat.le_refl _)) hri
 clear hown hin
 refine zR 29 (h := fun K hK => ?_)
 rw [if_pos (by kernel_rfl)]
 go_simp
 go_at_call 18
 refine (heq).mono ?_
 rintro e' wc21 ⟨hq, rfl⟩
 dsimp only
 have z0 := (hq.cell (p := ⟨cb, 0, none⟩) (show cb < wc18.heap.size by omega)).trans hC19.1
 have z1 := (hq.cell (p := ⟨cb, 1, none⟩) (show cb < wc18.heap.size by omega)).trans hC19.2.1
 have z2 := (hq.cell (p := ⟨ob, 0, none⟩) (show ob < wc18.heap.size by omega)).trans hC19.2.2.1
 have z3 := (hq.cell (p := ⟨ob, 1, none⟩) (show ob < wc18.heap.size by omega)).trans hC19.2.2.2
 refine hK.out _ _ ⟨z0, z1, z2, z3⟩ (fun hC22 => ?_)
 clear hK K z0 z1 z2 z3
 (try simp only [Act.put, zA, zB, zC])
 have sc23 : Below wR.heap.size wR wc21 := sc20.trans (hq.mono sc20.size)
 clear hq
 have hlwc21 : wR.heap.size ≤ wc21.heap.size := sc23.size
 clear heq hri
 refine zT 30 (h := ?_)
 (try simp only [Act.put, zA, zB, zC])
 refine zT 31 (h := ?_)
 (try simp only [Act.put, zA, zB, zC])
 refine zT 32 (h := ?_)
 (try simp only [Act.put, zA, zB, zC])
 have nb : Blk (wc21.alloc (.cells #[.int .i64 1, .int .i64 (-1), .int .i64 (-1)] 3)) wc21.heap.size 3 (ci [1, -1, -1]) := Blk.new wc21 _ _
 have sc26 : Below wR.heap.size wR (wc21.alloc (.cells #[.int .i64 1, .int .i64 (-1), .int .i64 (-1)] 3)) := sc23.alloc sc23.size _
 have hrx := Row.ofBlk nb (m := 3) (cap := 3) (Nat.le_refl _) (by unfold maxLen; omega) 3
 have hin := ints_any [1, -1, -1] _ _ hrx (by simp) (by decide)
 refine zR 33 (h := fun K hK => ?_)
 rw [if_pos (by kernel_rfl)]
 go_simp
 refine hK.out _ _ ?_ (fun hC25 => ?_)
 ·
  ((try dsimp only); go_keep)
 clear hK K
 (try simp only [Act.put, zA, zB, zC])
 obtain ⟨wx24, hw27⟩ : ∃ wx24, (wc21.alloc (.cells #[.int .i64 1, .int .i64 (-1), .int .i64 (-1)] 3)) = wx24 := ⟨_, rfl⟩
 rw [hw27] at sc26 hin
 (try rw [hw27])
 (try rw [hw27] at hC25)
 clear hw27 nb hrx
 have hlwx24 : wR.heap.size ≤ wx24.heap.size := sc26.size
 refine zR 34 (h := fun K hK => ?_)
 rw [if_pos (by kernel_rfl)]
 go_simp
 go_at_call 30
 refine (hin).mono ?_
 rintro e' wc28 ⟨hq, vi, rfl, hown⟩
 dsimp only
 have z0 := (hq.cell (p := ⟨cb, 0, none⟩) (show cb < wx24.heap.size by omega)).trans hC25.1
 have z1 := (hq.cell (p := ⟨cb, 1, none⟩) (show cb < wx24.heap.size by omega)).trans hC25.2.1
 have z2 := (hq.cell (p := ⟨ob, 0, none⟩) (show ob < wx24.heap.size by omega)).trans hC25.2.2.1
 have z3 := (hq.cell (p := ⟨ob, 1, none⟩) (show ob < wx24.heap.size by omega)).trans hC25.2.2.2
 refine hK.out _ _ ⟨z0, z1, z2, z3⟩ (fun hC29 => ?_)
 clear hK K z0 z1 z2 z3
 (try simp only [Act.put, zA, zB, zC])
 have sc30 : Below wR.heap.size wR wc28 := sc26.trans (hq.mono sc26.size)
 clear hq
 have hlwc28 : wR.heap.size ≤ wc28.heap.size := sc30.size
 have hri := own_row hown
 have heq := equalI_yes [1, -1, -1] _ _ _ (HB.below sc30 (Nat.le_refl _)) hri
 clear hown hin
 refine zR 35 (h := fun K hK => ?_)
 rw [if_pos (by kernel_rfl)]
 go_simp
 go_at_call 18
 refine (heq).mono ?_
 rintro e' wc31 ⟨hq, rfl⟩
 dsimp only
 have z0 := (hq.cell (p := ⟨cb, 0, none⟩) (show cb < wc28.heap.size by omega)).trans hC29.1
 have z1 := (hq.cell (p := ⟨cb, 1, none⟩) (show cb < wc28.heap.size by omega)).trans hC29.2.1
 have z2 := (hq.cell (p := ⟨ob, 0, none⟩) (show ob < wc28.heap.size by omega)).trans hC29.2.2.1
 have z3 := (hq.cell (p := ⟨ob, 1, none⟩) (show ob < wc28.heap.size by omega)).trans hC29.2.2.2
 refine hK.out _ _ ⟨z0, z1, z2, z3⟩ (fun hC32 => ?_)
 clear hK K z0 z1 z2 z3
 (try simp only [Act.put, zA, zB, zC])
 have sc33 : Below wR.heap.size wR wc31 := sc30.trans (hq.mono sc30.size)
 clear hq
 have hlwc31 : wR.heap.size ≤ wc31.heap.size := sc33.size
 clear heq hri
 refine zT 36 (h := ?_)
 (try simp only [Act.put, zA, zB, zC])
 refine zT 37 (h := ?_)
 (try simp only [Act.put, zA, zB, zC])
 refine zT 38 (h := ?_)
 (try simp only [Act.put, zA, zB, zC])
 refine zR 39 (h := fun K hK => ?_)
 rw [if_pos (by kernel_rfl)]
 go_simp
 go_at_call 28
 refine (HOF1.out _).mono ?_
 rintro e' wc34 ⟨hq, rfl⟩
 dsimp only
 have z0 := (hq.cell (p := ⟨cb, 0, none⟩) (show cb < wc31.heap.size by omega)).trans hC32.1
 have z1 := (hq.cell (p := ⟨cb, 1, none⟩) (show cb < wc31.heap.size by omega)).trans hC32.2.1
 have z2 := (hq.cell (p := ⟨ob, 0, none⟩) (show ob < wc31.heap.size by omega)).trans hC32.2.2.1
 have z3 := (hq.cell (p := ⟨ob, 1, none⟩) (show ob < wc31.heap.size by omega)).trans hC32.2.2.2
 refine hK.out _ _ ⟨z0, z1, z2, z3⟩ (fun hC35 => ?_)
 clear hK K z0 z1 z2 z3
 (try simp only [Act.put, zA, zB, zC])
 have sc36 : Below wR.heap.size wR wc34 := sc33.trans (hq.mono sc33.size)
 clear hq
 have hlwc34 : wR.heap.size ≤ wc34.heap.size := sc36.size
 refine zT 40 (h := ?_)
 (try simp only [Act.put, zA, zB, zC])
 refine zT 41 (h := ?_)
 (try simp only [Act.put, zA, zB, zC])
 refine zT 42 (h := ?_)
 (try simp only [Act.put, zA, zB, zC])
 refine wpAnyH_done (by kernel_rfl) ?_ _
 (try simp only [List.getElem_toArray, List.getElem_cons_zero, List.getElem_cons_succ, Act.put, zA, zB, zC])
 go_wp2_with fail
 go_ret
 exact ⟨SR.out.trans (sc36.mono SR.out.size), rfl⟩
end Go.Proofs.YthpgeeaccmgbkaaGreat

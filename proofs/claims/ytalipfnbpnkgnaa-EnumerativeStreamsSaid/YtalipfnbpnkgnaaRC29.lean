/- grooveref29.check (no set), checkGraph, checkLength, all. -/
import Derived.Test.YtalipfnbpnkgnaaRDet
import Derived.Test.YtalipfnbpnkgnaaEPrin
namespace Go.Proofs.Ytalipfnbpnkgnaa
open Go.RowKit

set_option maxRecDepth 100000 in
set_option maxHeartbeats 3200000 in
theorem rcs_nil (L S : Int) (v : Value) (w : World) :
    Calls Try.prog 109 #[.agg #[.int .i64 L, .int .i64 S, v], .slice none 0 0] w (Ret w (.int .i64 0)) := by
  have s0 := (Below.refl w.heap.size w).alloc (Nat.le_refl _) (.cells #[.int .i64 L, .int .i64 S, v] 24)
  have S0 := Lib.hid s0; clear s0
  go_enter Try.func109, Try.ntmps109
  go_wp2_with fail
  go_loopw [5] (fun i wr => i = .int .i64 0 ∧ Below w.heap.size w wr) (fun _ _ => 0)
  case atStart => exact ⟨rfl, S0.out⟩
  case round =>
    obtain ⟨rfl, hbel⟩ := hrel
    go_wp2_with fail
    go_ret
    exact ⟨hbel, rfl⟩
/-- The errors of a graph and a state. -/
def rck (L S : Int) (es : List E3) (s : Int) : Int := if eck L S es ≠ 0 then eck L S es else if s < 0 ∨ S ≤ s then 25 else 0
set_option maxRecDepth 100000 in
set_option maxHeartbeats 3200000 in
theorem rc29_chk (L S s : Int) (es : List E3) (v : Value) (w : World) (hr : Row w v es.length (ce es)) (hch : ¬ chk L S es = 0) :
    Calls Try.prog 75 #[.agg #[.int .i64 L, .int .i64 S, v], .slice none 0 0, .int .i64 s] w (Ret w (.int .i64 1)) := by
  obtain ⟨va, vc, rfl, hle⟩ := hr.slice
  have s0 := (Below.refl w.heap.size w).alloc (Nat.le_refl _) (.cells #[.int .i64 L, .int .i64 S, .slice va es.length vc] 24)
  have b0 := Blk.new w 24 [.int .i64 L, .int .i64 S, .slice va es.length vc]
  have hr0 := hr.below s0 (Nat.le_refl _)
  have hck := rcheck_any L S es _ _ hr0
  have hdt := fun w' h => rdet_any L S es (.slice va es.length vc) w' h
  obtain ⟨mm, hmm⟩ : ∃ mm, mm = es.length := ⟨_, rfl⟩
  obtain ⟨C, hC⟩ : ∃ C, chk L S es = C := ⟨_, rfl⟩
  rw [hC] at hck hdt
  rw [← hmm] at s0 b0 hr0 hck hdt hle ⊢
  have HMM := Lib.hid hmm; clear hmm
  have HCK := Lib.hid hck; clear hck
  have HDT := Lib.hid hdt; clear hdt
  have S0 := Lib.hid s0; clear s0
  have B0 := Lib.hid b0; clear b0
  have HR := Lib.hid hr0; clear hr0
  clear hr
  rw [hC] at hch
  clear hC
  have hb : (C != 0) = true := by simp; exact hch
  go_enter Try.func75, Try.ntmps75
  go_wp2_with fail
  go_at_call 107
  refine HCK.out.mono ?_
  rintro e w1 ⟨hq1, rfl⟩
  have s1 := S0.out.trans (hq1.mono S0.out.size)
  have hr1 := HR.out.below hq1 (Nat.le_refl _)
  have tk := B0.out.keep hq1; have x0 := tk.cell (j := 0) rfl; have x1 := tk.cell (j := 1) rfl; have x2 := tk.cell (j := 2) rfl; have C0 := Lib.hid tk; clear tk
  have S1 := Lib.hid s1; clear s1
  have HR1 := Lib.hid hr1; clear hr1
  clear hq1
  go_wp2_with fail
  go_ret
  exact ⟨S1.out, rfl⟩
set_option maxRecDepth 100000 in
set_option maxHeartbeats 3200000 in
theorem rc29_lab (L S s : Int) (es : List E3) (v : Value) (w : World) (hr : Row w v es.length (ce es)) (hch : chk L S es = 0) (hL : 16 < L) :
    Calls Try.prog 75 #[.agg #[.int .i64 L, .int .i64 S, v], .slice none 0 0, .int .i64 s] w (Ret w (.int .i64 12)) := by
  obtain ⟨va, vc, rfl, hle⟩ := hr.slice
  have s0 := (Below.refl w.heap.size w).alloc (Nat.le_refl _) (.cells #[.int .i64 L, .int .i64 S, .slice va es.length vc] 24)
  have b0 := Blk.new w 24 [.int .i64 L, .int .i64 S, .slice va es.length vc]
  have hr0 := hr.below s0 (Nat.le_refl _)
  have hck := rcheck_any L S es _ _ hr0
  have hdt := fun w' h => rdet_any L S es (.slice va es.length vc) w' h
  obtain ⟨mm, hmm⟩ : ∃ mm, mm = es.length := ⟨_, rfl⟩
  obtain ⟨C, hC⟩ : ∃ C, chk L S es = C := ⟨_, rfl⟩
  rw [hC] at hck hdt
  rw [← hmm] at s0 b0 hr0 hck hdt hle ⊢
  have HMM := Lib.hid hmm; clear hmm
  have HCK := Lib.hid hck; clear hck
  have HDT := Lib.hid hdt; clear hdt
  have S0 := Lib.hid s0; clear s0
  have B0 := Lib.hid b0; clear b0
  have HR := Lib.hid hr0; clear hr0
  clear hr
  rw [hC] at hch
  clear hC
  have hb : (C != 0) = false := by simp [hch]
  have t1 : decide (16 < L) = true := by simpa using hL
  go_enter Try.func75, Try.ntmps75
  go_wp2_with fail
  go_at_call 107
  refine HCK.out.mono ?_
  rintro e w1 ⟨hq1, rfl⟩
  have s1 := S0.out.trans (hq1.mono S0.out.size)
  have hr1 := HR.out.below hq1 (Nat.le_refl _)
  have tk := B0.out.keep hq1; have x0 := tk.cell (j := 0) rfl; have x1 := tk.cell (j := 1) rfl; have x2 := tk.cell (j := 2) rfl; have C0 := Lib.hid tk; clear tk
  have S1 := Lib.hid s1; clear s1
  have HR1 := Lib.hid hr1; clear hr1
  clear hq1
  go_wp2_with fail
  go_ret
  exact ⟨S1.out, rfl⟩
set_option maxRecDepth 100000 in
set_option maxHeartbeats 3200000 in
theorem rc29_det (L S s : Int) (es : List E3) (v : Value) (w : World) (hr : Row w v es.length (ce es)) (hch : chk L S es = 0) (hL : ¬ 16 < L) (hdet : detB es = false) :
    Calls Try.prog 75 #[.agg #[.int .i64 L, .int .i64 S, v], .slice none 0 0, .int .i64 s] w (Ret w (.int .i64 8)) := by
  obtain ⟨va, vc, rfl, hle⟩ := hr.slice
  have s0 := (Below.refl w.heap.size w).alloc (Nat.le_refl _) (.cells #[.int .i64 L, .int .i64 S, .slice va es.length vc] 24)
  have b0 := Blk.new w 24 [.int .i64 L, .int .i64 S, .slice va es.length vc]
  have hr0 := hr.below s0 (Nat.le_refl _)
  have hck := rcheck_any L S es _ _ hr0
  have hdt := fun w' h => rdet_any L S es (.slice va es.length vc) w' h
  obtain ⟨mm, hmm⟩ : ∃ mm, mm = es.length := ⟨_, rfl⟩
  obtain ⟨C, hC⟩ : ∃ C, chk L S es = C := ⟨_, rfl⟩
  rw [hC] at hck hdt
  rw [← hmm] at s0 b0 hr0 hck hdt hle ⊢
  have HMM := Lib.hid hmm; clear hmm
  have HCK := Lib.hid hck; clear hck
  have HDT := Lib.hid hdt; clear hdt
  have S0 := Lib.hid s0; clear s0
  have B0 := Lib.hid b0; clear b0
  have HR := Lib.hid hr0; clear hr0
  clear hr
  rw [hC] at hch
  clear hC
  have hb : (C != 0) = false := by simp [hch]
  have t1 : decide (16 < L) = false := by simp; omega
  go_enter Try.func75, Try.ntmps75
  go_wp2_with fail
  go_at_call 107
  refine HCK.out.mono ?_
  rintro e w1 ⟨hq1, rfl⟩
  have s1 := S0.out.trans (hq1.mono S0.out.size)
  have hr1 := HR.out.below hq1 (Nat.le_refl _)
  have tk := B0.out.keep hq1; have x0 := tk.cell (j := 0) rfl; have x1 := tk.cell (j := 1) rfl; have x2 := tk.cell (j := 2) rfl; have C0 := Lib.hid tk; clear tk
  have S1 := Lib.hid s1; clear s1
  have HR1 := Lib.hid hr1; clear hr1
  clear hq1
  go_wp2_with fail
  go_at_call 108
  have hdd := HDT.out w1 HR1.out
  rw [decide_eq_true hch, if_pos hch, Bool.true_and, hdet] at hdd
  have HDD := Lib.hid hdd; clear hdd
  refine HDD.out.mono ?_
  rintro e w2 ⟨hq2, rfl⟩
  have s2 := S1.out.trans (hq2.mono S1.out.size)
  have tk := C0.out.keep hq2; have y0 := tk.cell (j := 0) rfl; have y1 := tk.cell (j := 1) rfl; have y2 := tk.cell (j := 2) rfl; have D0 := Lib.hid tk; clear tk
  have S2 := Lib.hid s2; clear s2
  clear hq2 x0 x1 x2
  go_wp2_with fail
  go_ret
  exact ⟨S2.out, rfl⟩
set_option maxRecDepth 100000 in
set_option maxHeartbeats 3200000 in
theorem rc29_neg (L S s : Int) (es : List E3) (v : Value) (w : World) (hr : Row w v es.length (ce es)) (hch : chk L S es = 0) (hL : ¬ 16 < L) (hdet : detB es = true) (hs : s < 0) :
    Calls Try.prog 75 #[.agg #[.int .i64 L, .int .i64 S, v], .slice none 0 0, .int .i64 s] w (Ret w (.int .i64 25)) := by
  obtain ⟨va, vc, rfl, hle⟩ := hr.slice
  have s0 := (Below.refl w.heap.size w).alloc (Nat.le_refl _) (.cells #[.int .i64 L, .int .i64 S, .slice va es.length vc] 24)
  have b0 := Blk.new w 24 [.int .i64 L, .int .i64 S, .slice va es.length vc]
  have hr0 := hr.below s0 (Nat.le_refl _)
  have hck := rcheck_any L S es _ _ hr0
  have hdt := fun w' h => rdet_any L S es (.slice va es.length vc) w' h
  obtain ⟨mm, hmm⟩ : ∃ mm, mm = es.length := ⟨_, rfl⟩
  obtain ⟨C, hC⟩ : ∃ C, chk L S es = C := ⟨_, rfl⟩
  rw [hC] at hck hdt
  rw [← hmm] at s0 b0 hr0 hck hdt hle ⊢
  have HMM := Lib.hid hmm; clear hmm
  have HCK := Lib.hid hck; clear hck
  have HDT := Lib.hid hdt; clear hdt
  have S0 := Lib.hid s0; clear s0
  have B0 := Lib.hid b0; clear b0
  have HR := Lib.hid hr0; clear hr0
  clear hr
  rw [hC] at hch
  clear hC
  have hb : (C != 0) = false := by simp [hch]
  have t1 : decide (16 < L) = false := by simp; omega
  have t2 : decide (s < 0) = true := by simpa using hs
  go_enter Try.func75, Try.ntmps75
  go_wp2_with fail
  go_at_call 107
  refine HCK.out.mono ?_
  rintro e w1 ⟨hq1, rfl⟩
  have s1 := S0.out.trans (hq1.mono S0.out.size)
  have hr1 := HR.out.below hq1 (Nat.le_refl _)
  have tk := B0.out.keep hq1; have x0 := tk.cell (j := 0) rfl; have x1 := tk.cell (j := 1) rfl; have x2 := tk.cell (j := 2) rfl; have C0 := Lib.hid tk; clear tk
  have S1 := Lib.hid s1; clear s1
  have HR1 := Lib.hid hr1; clear hr1
  clear hq1
  go_wp2_with fail
  go_at_call 108
  have hdd := HDT.out w1 HR1.out
  rw [decide_eq_true hch, if_pos hch, Bool.true_and, hdet] at hdd
  have HDD := Lib.hid hdd; clear hdd
  refine HDD.out.mono ?_
  rintro e w2 ⟨hq2, rfl⟩
  have s2 := S1.out.trans (hq2.mono S1.out.size)
  have tk := C0.out.keep hq2; have y0 := tk.cell (j := 0) rfl; have y1 := tk.cell (j := 1) rfl; have y2 := tk.cell (j := 2) rfl; have D0 := Lib.hid tk; clear tk
  have S2 := Lib.hid s2; clear s2
  clear hq2 x0 x1 x2
  go_wp2_with fail
  go_at_call 109
  refine (rcs_nil _ _ _ _).mono ?_
  rintro e w3 ⟨hq3, rfl⟩
  have s3 := S2.out.trans (hq3.mono S2.out.size)
  have tk := D0.out.keep hq3; have z0 := tk.cell (j := 0) rfl; have z1 := tk.cell (j := 1) rfl; have z2 := tk.cell (j := 2) rfl; have E0 := Lib.hid tk; clear tk
  have S3 := Lib.hid s3; clear s3
  clear hq3 y0 y1 y2
  go_wp2_with fail
  go_ret
  exact ⟨S3.out, rfl⟩
set_option maxRecDepth 100000 in
set_option maxHeartbeats 3200000 in
theorem rc29_hi (L S s : Int) (es : List E3) (v : Value) (w : World) (hr : Row w v es.length (ce es)) (hch : chk L S es = 0) (hL : ¬ 16 < L) (hdet : detB es = true) (hs : ¬ s < 0) (hs2 : S ≤ s) :
    Calls Try.prog 75 #[.agg #[.int .i64 L, .int .i64 S, v], .slice none 0 0, .int .i64 s] w (Ret w (.int .i64 25)) := by
  obtain ⟨va, vc, rfl, hle⟩ := hr.slice
  have s0 := (Below.refl w.heap.size w).alloc (Nat.le_refl _) (.cells #[.int .i64 L, .int .i64 S, .slice va es.length vc] 24)
  have b0 := Blk.new w 24 [.int .i64 L, .int .i64 S, .slice va es.length vc]
  have hr0 := hr.below s0 (Nat.le_refl _)
  have hck := rcheck_any L S es _ _ hr0
  have hdt := fun w' h => rdet_any L S es (.slice va es.length vc) w' h
  obtain ⟨mm, hmm⟩ : ∃ mm, mm = es.length := ⟨_, rfl⟩
  obtain ⟨C, hC⟩ : ∃ C, chk L S es = C := ⟨_, rfl⟩
  rw [hC] at hck hdt
  rw [← hmm] at s0 b0 hr0 hck hdt hle ⊢
  have HMM := Lib.hid hmm; clear hmm
  have HCK := Lib.hid hck; clear hck
  have HDT := Lib.hid hdt; clear hdt
  have S0 := Lib.hid s0; clear s0
  have B0 := Lib.hid b0; clear b0
  have HR := Lib.hid hr0; clear hr0
  clear hr
  rw [hC] at hch
  clear hC
  have hb : (C != 0) = false := by simp [hch]
  have t1 : decide (16 < L) = false := by simp; omega
  have t2 : decide (s < 0) = false := by simp; omega
  have t3 : decide (S ≤ s) = true := by simpa using hs2
  go_enter Try.func75, Try.ntmps75
  go_wp2_with fail
  go_at_call 107
  refine HCK.out.mono ?_
  rintro e w1 ⟨hq1, rfl⟩
  have s1 := S0.out.trans (hq1.mono S0.out.size)
  have hr1 := HR.out.below hq1 (Nat.le_refl _)
  have tk := B0.out.keep hq1; have x0 := tk.cell (j := 0) rfl; have x1 := tk.cell (j := 1) rfl; have x2 := tk.cell (j := 2) rfl; have C0 := Lib.hid tk; clear tk
  have S1 := Lib.hid s1; clear s1
  have HR1 := Lib.hid hr1; clear hr1
  clear hq1
  go_wp2_with fail
  go_at_call 108
  have hdd := HDT.out w1 HR1.out
  rw [decide_eq_true hch, if_pos hch, Bool.true_and, hdet] at hdd
  have HDD := Lib.hid hdd; clear hdd
  refine HDD.out.mono ?_
  rintro e w2 ⟨hq2, rfl⟩
  have s2 := S1.out.trans (hq2.mono S1.out.size)
  have tk := C0.out.keep hq2; have y0 := tk.cell (j := 0) rfl; have y1 := tk.cell (j := 1) rfl; have y2 := tk.cell (j := 2) rfl; have D0 := Lib.hid tk; clear tk
  have S2 := Lib.hid s2; clear s2
  clear hq2 x0 x1 x2
  go_wp2_with fail
  go_at_call 109
  refine (rcs_nil _ _ _ _).mono ?_
  rintro e w3 ⟨hq3, rfl⟩
  have s3 := S2.out.trans (hq3.mono S2.out.size)
  have tk := D0.out.keep hq3; have z0 := tk.cell (j := 0) rfl; have z1 := tk.cell (j := 1) rfl; have z2 := tk.cell (j := 2) rfl; have E0 := Lib.hid tk; clear tk
  have S3 := Lib.hid s3; clear s3
  clear hq3 y0 y1 y2
  go_wp2_with fail
  go_ret
  exact ⟨S3.out, rfl⟩
set_option maxRecDepth 100000 in
set_option maxHeartbeats 3200000 in
theorem rc29_ok (L S s : Int) (es : List E3) (v : Value) (w : World) (hr : Row w v es.length (ce es)) (hch : chk L S es = 0) (hL : ¬ 16 < L) (hdet : detB es = true) (hs : ¬ s < 0) (hs2 : ¬ S ≤ s) :
    Calls Try.prog 75 #[.agg #[.int .i64 L, .int .i64 S, v], .slice none 0 0, .int .i64 s] w (Ret w (.int .i64 0)) := by
  obtain ⟨va, vc, rfl, hle⟩ := hr.slice
  have s0 := (Below.refl w.heap.size w).alloc (Nat.le_refl _) (.cells #[.int .i64 L, .int .i64 S, .slice va es.length vc] 24)
  have b0 := Blk.new w 24 [.int .i64 L, .int .i64 S, .slice va es.length vc]
  have hr0 := hr.below s0 (Nat.le_refl _)
  have hck := rcheck_any L S es _ _ hr0
  have hdt := fun w' h => rdet_any L S es (.slice va es.length vc) w' h
  obtain ⟨mm, hmm⟩ : ∃ mm, mm = es.length := ⟨_, rfl⟩
  obtain ⟨C, hC⟩ : ∃ C, chk L S es = C := ⟨_, rfl⟩
  rw [hC] at hck hdt
  rw [← hmm] at s0 b0 hr0 hck hdt hle ⊢
  have HMM := Lib.hid hmm; clear hmm
  have HCK := Lib.hid hck; clear hck
  have HDT := Lib.hid hdt; clear hdt
  have S0 := Lib.hid s0; clear s0
  have B0 := Lib.hid b0; clear b0
  have HR := Lib.hid hr0; clear hr0
  clear hr
  rw [hC] at hch
  clear hC
  have hb : (C != 0) = false := by simp [hch]
  have t1 : decide (16 < L) = false := by simp; omega
  have t2 : decide (s < 0) = false := by simp; omega
  have t3 : decide (S ≤ s) = false := by simp; omega
  go_enter Try.func75, Try.ntmps75
  go_wp2_with fail
  go_at_call 107
  refine HCK.out.mono ?_
  rintro e w1 ⟨hq1, rfl⟩
  have s1 := S0.out.trans (hq1.mono S0.out.size)
  have hr1 := HR.out.below hq1 (Nat.le_refl _)
  have tk := B0.out.keep hq1; have x0 := tk.cell (j := 0) rfl; have x1 := tk.cell (j := 1) rfl; have x2 := tk.cell (j := 2) rfl; have C0 := Lib.hid tk; clear tk
  have S1 := Lib.hid s1; clear s1
  have HR1 := Lib.hid hr1; clear hr1
  clear hq1
  go_wp2_with fail
  go_at_call 108
  have hdd := HDT.out w1 HR1.out
  rw [decide_eq_true hch, if_pos hch, Bool.true_and, hdet] at hdd
  have HDD := Lib.hid hdd; clear hdd
  refine HDD.out.mono ?_
  rintro e w2 ⟨hq2, rfl⟩
  have s2 := S1.out.trans (hq2.mono S1.out.size)
  have tk := C0.out.keep hq2; have y0 := tk.cell (j := 0) rfl; have y1 := tk.cell (j := 1) rfl; have y2 := tk.cell (j := 2) rfl; have D0 := Lib.hid tk; clear tk
  have S2 := Lib.hid s2; clear s2
  clear hq2 x0 x1 x2
  go_wp2_with fail
  go_at_call 109
  refine (rcs_nil _ _ _ _).mono ?_
  rintro e w3 ⟨hq3, rfl⟩
  have s3 := S2.out.trans (hq3.mono S2.out.size)
  have tk := D0.out.keep hq3; have z0 := tk.cell (j := 0) rfl; have z1 := tk.cell (j := 1) rfl; have z2 := tk.cell (j := 2) rfl; have E0 := Lib.hid tk; clear tk
  have S3 := Lib.hid s3; clear s3
  clear hq3 y0 y1 y2
  go_wp2_with fail
  go_ret
  exact ⟨S3.out, rfl⟩
theorem rc29_any (L S s : Int) (es : List E3) (v : Value) (w : World) (hr : Row w v es.length (ce es)) :
    Calls Try.prog 75 #[.agg #[.int .i64 L, .int .i64 S, v], .slice none 0 0, .int .i64 s] w (Ret w (.int .i64 (rck L S es s))) := by
  by_cases hch : chk L S es = 0
  · by_cases hL : 16 < L
    · have h : rck L S es s = 12 := by unfold rck eck; simp [hch, hL]
      rw [h]; exact rc29_lab L S s es v w hr hch hL
    · cases hd : detB es with
      | false =>
        have h : rck L S es s = 8 := by unfold rck eck; simp [hch, hL, hd]
        rw [h]; exact rc29_det L S s es v w hr hch hL hd
      | true =>
        have he : eck L S es = 0 := by unfold eck; simp [hch, hL, hd]
        by_cases hs : s < 0
        · have h : rck L S es s = 25 := by unfold rck; simp [he, hs]
          rw [h]; exact rc29_neg L S s es v w hr hch hL hd hs
        · by_cases hs2 : S ≤ s
          · have h : rck L S es s = 25 := by unfold rck; simp [he, hs2]
            rw [h]; exact rc29_hi L S s es v w hr hch hL hd hs hs2
          · have h : rck L S es s = 0 := by unfold rck; simp [he, hs, hs2]
            rw [h]; exact rc29_ok L S s es v w hr hch hL hd hs hs2
  · have h : rck L S es s = 1 := by unfold rck eck; simp [hch]
    rw [h]; exact rc29_chk L S s es v w hr hch
theorem eck_vals (L S : Int) (es : List E3) : eck L S es = 0 ∨ eck L S es = 1 ∨ eck L S es = 12 ∨ eck L S es = 8 := by
  unfold eck
  repeat' split
  all_goals simp
set_option maxRecDepth 100000 in
set_option maxHeartbeats 3200000 in
theorem rcg_any (L S : Int) (es : List E3) (v : Value) (w : World) (hr : Row w v es.length (ce es)) :
    Calls Try.prog 36 #[.agg #[.int .i64 L, .int .i64 S, v]] w (Ret w (.int .i64 (eck L S es))) := by
  obtain ⟨va, vc, rfl, hle⟩ := hr.slice
  have s0 := (Below.refl w.heap.size w).alloc (Nat.le_refl _) (.cells #[.int .i64 L, .int .i64 S, .slice va es.length vc] 24)
  have hr0 := hr.below s0 (Nat.le_refl _)
  have hck := rc29_any L S 0 es _ _ hr0
  obtain ⟨mm, hmm⟩ : ∃ mm, mm = es.length := ⟨_, rfl⟩
  obtain ⟨R, hR⟩ : ∃ R, rck L S es 0 = R := ⟨_, rfl⟩
  obtain ⟨E, hE⟩ : ∃ E, eck L S es = E := ⟨_, rfl⟩
  have hv := eck_vals L S es
  have hRE : (R = 25 ∧ E = 0) ∨ (R = E ∧ E ≠ 25) := by
    rw [← hR]; unfold rck; rw [hE] at hv ⊢
    by_cases h0 : E = 0
    · subst h0
      by_cases h1 : (0 : Int) < 0 ∨ S ≤ 0
      · left; simp [h1]; omega
      · right; rw [if_neg (by simp), if_neg h1]; simp
    · right; rw [if_pos h0]; exact ⟨rfl, by omega⟩
  rw [hR] at hck
  rw [hE]
  rw [← hmm] at s0 hck hle ⊢
  have HMM := Lib.hid hmm; clear hmm
  have HCK := Lib.hid hck; clear hck
  have S0 := Lib.hid s0; clear s0
  clear hr hr0 hR hE hv
  rcases hRE with ⟨rfl, rfl⟩ | ⟨rfl, hne⟩
  · go_enter Try.func36, Try.ntmps36
    go_wp2_with fail
    go_at_call 75
    refine HCK.out.mono ?_
    rintro e w1 ⟨hq1, rfl⟩
    have s1 := S0.out.trans (hq1.mono S0.out.size)
    have S1 := Lib.hid s1; clear s1
    clear hq1
    go_wp2_with fail
    go_ret
    exact ⟨S1.out, rfl⟩
  · by_cases h0 : R = 0
    · subst h0
      go_enter Try.func36, Try.ntmps36
      go_wp2_with fail
      go_at_call 75
      refine HCK.out.mono ?_
      rintro e w1 ⟨hq1, rfl⟩
      have s1 := S0.out.trans (hq1.mono S0.out.size)
      have S1 := Lib.hid s1; clear s1
      clear hq1
      go_wp2_with fail
      go_ret
      exact ⟨S1.out, rfl⟩
    · have t1 : (R != 0) = true := by simp [h0]
      have t2 : (R != 25) = true := by simp [hne]
      go_enter Try.func36, Try.ntmps36
      go_wp2_with fail
      go_at_call 75
      refine HCK.out.mono ?_
      rintro e w1 ⟨hq1, rfl⟩
      have s1 := S0.out.trans (hq1.mono S0.out.size)
      have S1 := Lib.hid s1; clear s1
      clear hq1
      go_wp2_with fail
      go_ret
      exact ⟨S1.out, rfl⟩
def clen (n : Int) : Int := if n < 0 ∨ 4096 < n then 2 else 0
set_option maxRecDepth 100000 in
set_option maxHeartbeats 3200000 in
theorem rclen_any (n : Int) (w : World) : Calls Try.prog 37 #[.int .i64 n] w (Ret w (.int .i64 (clen n))) := by
  by_cases h1 : n < 0
  · have hc : clen n = 2 := by simp [clen, h1]
    have t1 : decide (n < 0) = true := by simpa using h1
    rw [hc]
    go_enter Try.func37, Try.ntmps37
    go_wp2_with fail
    go_ret
    exact ⟨Below.refl _ _, rfl⟩
  · have t1 : decide (n < 0) = false := by simp; omega
    by_cases h2 : 4096 < n
    · have hc : clen n = 2 := by simp [clen, h2]
      have t2 : decide (4096 < n) = true := by simpa using h2
      rw [hc]
      go_enter Try.func37, Try.ntmps37
      go_wp2_with fail
      go_ret
      exact ⟨Below.refl _ _, rfl⟩
    · have hc : clen n = 0 := by simp [clen]; omega
      have t2 : decide (4096 < n) = false := by simp; omega
      rw [hc]
      go_enter Try.func37, Try.ntmps37
      go_wp2_with fail
      go_ret
      exact ⟨Below.refl _ _, rfl⟩
/-- What all returns: a row of its own. -/
def AllRet (w : World) (l : List Int) (e : Ending) (w' : World) : Prop := Below w.heap.size w w' ∧ ∃ v, e = .returned v ∧ Row w' v l.length (ci l)
set_option maxRecDepth 100000 in
set_option maxHeartbeats 3200000 in
theorem rall_any (L : Int) (S : Nat) (es : List E3) (v : Value) (w : World) (hr : Row w v es.length (ce es)) (hch : chk L (S : Int) es = 0) :
    Calls Try.prog 78 #[.agg #[.int .i64 L, .int .i64 (S : Int), v]] w (AllRet w (uptoZ S)) := by
  obtain ⟨va, vc, rfl, hle⟩ := hr.slice
  obtain ⟨i0, hi, hz0, hz1', hz2'⟩ := info_parts infoIntP
  have hS64 : S ≤ 64 := by have := chk_all hch; omega
  have s0 := (Below.refl w.heap.size w).alloc (Nat.le_refl _) (.cells #[.int .i64 L, .int .i64 (S : Int), .slice va es.length vc] 24)
  have b0 := Blk.new w 24 [.int .i64 L, .int .i64 (S : Int), .slice va es.length vc]
  have hr0 := hr.below s0 (Nat.le_refl _)
  have hck := rcheck_any L (S : Int) es _ _ hr0
  rw [hch] at hck
  obtain ⟨mm, hmm⟩ : ∃ mm, mm = es.length := ⟨_, rfl⟩
  rw [← hmm] at s0 b0 hck hle ⊢
  have HMM := Lib.hid hmm; clear hmm
  have HCK := Lib.hid hck; clear hck
  have S0 := Lib.hid s0; clear s0
  have B0 := Lib.hid b0; clear b0
  clear hr hr0 hch
  go_enter Try.func78, Try.ntmps78
  go_wp2_with fail
  go_at_call 107
  refine HCK.out.mono ?_
  rintro e w1 ⟨hq1, rfl⟩
  have s1 := S0.out.trans (hq1.mono S0.out.size)
  have c0 := B0.out.keep hq1
  have S1 := Lib.hid s1; clear s1
  have C0 := Lib.hid c0; clear c0
  have hw1 : w.heap.size ≤ w1.heap.size := S1.out.size
  clear hq1
  go_wp2_with fail
  go_loopw [3, 4] (fun u i wr => ∃ k : Nat, k ≤ S ∧ i = .int .i64 k ∧ wr.ownsRow w1.heap.size 3 1 u k (ci (uptoZ k)) ∧ Below w1.heap.size w1 wr) (fun _ i _ => S - (intOf i).toNat)
  case atStart => exact ⟨0, by omega, rfl, World.ownsRow_nil _ _ _ _, Below.refl _ _⟩
  case round =>
    obtain ⟨k, hk, rfl, hown, hbel⟩ := hrel
    have hsz : w1.heap.size ≤ wr.heap.size := hbel.size
    obtain ⟨a, cap, rfl⟩ := own_slice hown
    have d0 := C0.out.keep hbel
    have x1 := d0.cell (j := 1) rfl
    have D0 := Lib.hid d0; clear d0
    have HO := Lib.hid hown; clear hown
    have HB := Lib.hid hbel; clear hbel
    by_cases hlt : k < S
    · have hci := uptoZ_succ k
      have HCI := Lib.hid hci; clear hci
      go_wp2_with (at_builtin; refine wpList_append_lies _ rfl (.tmp 15) (.tmp 17) 31 rfl w1.heap.size 3 i0 _ 1 8 Try.underlying31 hi hz0 hz1' hz2' rfl (by decide) _ _ _ rfl (HO.out.alloc _) _ 1 1 [.int .i64 (k : Int)] rfl rfl (World.news_of_block (heap_alloc_new _ _)) (by simp [Value.oneCell']) (by omega) (by unfold maxLen; omega) (by omega) (by simp; omega) _ rfl ?_; intro g cap' w3 hown' hg hat hlt'; have HG := Lib.hid hg; clear hg; have HO4 := Lib.hid hown'; clear hown'; have HAT := Lib.hid hat; clear hat)
      go_roundw
      case rel => exact ⟨k + 1, by omega, by go_num, by rw [HCI.out]; exact HO4.out, (HB.out.alloc hsz _).grown HG.out (by simp; omega) (fun j hj => (HO.out.lt j hj).1)⟩
      case measure => simp [intOf]; omega
    · obtain rfl : k = S := by omega
      have hrw := own_row HO.out
      have HRW := Lib.hid hrw; clear hrw
      go_wp2_with fail
      go_ret
      exact ⟨S1.out.trans (HB.out.mono hw1), _, rfl, by rw [uptoZ_length]; exact HRW.out⟩
end Go.Proofs.Ytalipfnbpnkgnaa

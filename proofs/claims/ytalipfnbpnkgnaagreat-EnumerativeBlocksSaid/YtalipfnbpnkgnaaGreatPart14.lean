/- Contracts and plain laws of several functions, one after the other: RCkS, REnc. -/
import Derived.Test.YtalipfnbpnkgnaaGreatRDet
import Derived.Test.YtalipfnbpnkgnaaGreatEPrin
import Derived.Test.YtalipfnbpnkgnaaGreatRSet
import Derived.Test.YtalipfnbpnkgnaaGreatPart15
import Derived.Test.YtalipfnbpnkgnaaGreatPart10
import Derived.Test.YtalipfnbpnkgnaaGreatRUnr
import Derived.Test.YtalipfnbpnkgnaaGreatEStr
/- grooveref29.check with a set. -/
namespace Go.Proofs.YtalipfnbpnkgnaaGreat
open Go.RowKit

/-- The errors of a graph, a set and a state. -/
def rcks (L S : Int) (es : List E3) (set : List Int) (s : Int) : Int := if eck L S es ≠ 0 then eck L S es else if cset S none set ≠ 0 then cset S none set else if s < 0 ∨ S ≤ s then 25 else 0
set_option maxRecDepth 100000 in
set_option maxHeartbeats 3200000 in
theorem rcks_chk (L : Int) (S : Nat) (s : Int) (es : List E3) (set : List Int) (v vs : Value) (w : World) (hr : Row w v es.length (ce es)) (hrs : Row w vs set.length (ci set)) (hsl : set.length ≤ 1000000) (hch : ¬ chk L (S : Int) es = 0) :
    Calls Tryz.prog 36 #[.agg #[.int .i64 L, .int .i64 (S : Int), v], vs, .int .i64 s] w (Ret w (.int .i64 (1))) := by
  obtain ⟨va, vc, rfl, hle⟩ := hr.slice
  have s0 := (Below.refl w.heap.size w).alloc (Nat.le_refl _) (.cells #[.int .i64 L, .int .i64 (S : Int), .slice va es.length vc] 24)
  obtain ⟨sa, sc, rfl, hsle⟩ := hrs.slice
  have hrs0 := hrs.below s0 (Nat.le_refl _)
  obtain ⟨ms, hms⟩ : ∃ ms, ms = set.length := ⟨_, rfl⟩
  have b0 := Blk.new w 24 [.int .i64 L, .int .i64 (S : Int), .slice va es.length vc]
  have hr0 := hr.below s0 (Nat.le_refl _)
  have hck := rcheck_any L (S : Int) es _ _ hr0
  have hdt := fun w' h => rdet_any L (S : Int) es (.slice va es.length vc) w' h
  obtain ⟨mm, hmm⟩ : ∃ mm, mm = es.length := ⟨_, rfl⟩
  obtain ⟨C, hC⟩ : ∃ C, chk L (S : Int) es = C := ⟨_, rfl⟩
  rw [hC] at hck hdt
  have hcs := fun w' (h : Row w' (.slice sa set.length sc) set.length (ci set)) => rcset_any L S (.slice va es.length vc) (.slice sa set.length sc) set w' h hsl
  rw [← hms] at hrs0 hsle hcs
  rw [← hmm] at s0 b0 hr0 hrs0 hck hdt hle hcs
  have HMM := Lib.hid hmm; clear hmm
  have HCK := Lib.hid hck; clear hck
  have HDT := Lib.hid hdt; clear hdt
  have S0 := Lib.hid s0; clear s0
  have B0 := Lib.hid b0; clear b0
  have HR := Lib.hid hr0; clear hr0
  have HRS := Lib.hid hrs0; clear hrs0
  have HMS := Lib.hid hms; clear hms
  have HCS := Lib.hid hcs; clear hcs
  clear hr hrs
  rw [hC] at hch
  clear hC
  have hb : (C != 0) = true := by simp; exact hch
  go_enter Tryz.func36, Tryz.ntmps36
  rw [← HMM.out, ← HMS.out]
  go_wp2_with fail
  go_at_call 73
  refine HCK.out.mono ?_
  rintro e w1 ⟨hq1, rfl⟩
  have s1 := S0.out.trans (hq1.mono S0.out.size)
  have hr1 := HR.out.below hq1 (Nat.le_refl _)
  have tk := B0.out.keep hq1; have x0 := tk.cell (j := 0) rfl; have x1 := tk.cell (j := 1) rfl; have x2 := tk.cell (j := 2) rfl; have C0 := Lib.hid tk; clear tk
  have S1 := Lib.hid s1; clear s1
  have hrs1 := HRS.out.below hq1 (Nat.le_refl _)
  have HR1 := Lib.hid hr1; clear hr1
  have HRS1 := Lib.hid hrs1; clear hrs1
  clear hq1
  go_wp2_with fail
  go_ret
  exact ⟨S1.out, rfl⟩
set_option maxRecDepth 100000 in
set_option maxHeartbeats 3200000 in
theorem rcks_lab (L : Int) (S : Nat) (s : Int) (es : List E3) (set : List Int) (v vs : Value) (w : World) (hr : Row w v es.length (ce es)) (hrs : Row w vs set.length (ci set)) (hsl : set.length ≤ 1000000) (hch : chk L (S : Int) es = 0) (hL : 16 < L) :
    Calls Tryz.prog 36 #[.agg #[.int .i64 L, .int .i64 (S : Int), v], vs, .int .i64 s] w (Ret w (.int .i64 (12))) := by
  obtain ⟨va, vc, rfl, hle⟩ := hr.slice
  have s0 := (Below.refl w.heap.size w).alloc (Nat.le_refl _) (.cells #[.int .i64 L, .int .i64 (S : Int), .slice va es.length vc] 24)
  obtain ⟨sa, sc, rfl, hsle⟩ := hrs.slice
  have hrs0 := hrs.below s0 (Nat.le_refl _)
  obtain ⟨ms, hms⟩ : ∃ ms, ms = set.length := ⟨_, rfl⟩
  have b0 := Blk.new w 24 [.int .i64 L, .int .i64 (S : Int), .slice va es.length vc]
  have hr0 := hr.below s0 (Nat.le_refl _)
  have hck := rcheck_any L (S : Int) es _ _ hr0
  have hdt := fun w' h => rdet_any L (S : Int) es (.slice va es.length vc) w' h
  obtain ⟨mm, hmm⟩ : ∃ mm, mm = es.length := ⟨_, rfl⟩
  obtain ⟨C, hC⟩ : ∃ C, chk L (S : Int) es = C := ⟨_, rfl⟩
  rw [hC] at hck hdt
  have hcs := fun w' (h : Row w' (.slice sa set.length sc) set.length (ci set)) => rcset_any L S (.slice va es.length vc) (.slice sa set.length sc) set w' h hsl
  rw [← hms] at hrs0 hsle hcs
  rw [← hmm] at s0 b0 hr0 hrs0 hck hdt hle hcs
  have HMM := Lib.hid hmm; clear hmm
  have HCK := Lib.hid hck; clear hck
  have HDT := Lib.hid hdt; clear hdt
  have S0 := Lib.hid s0; clear s0
  have B0 := Lib.hid b0; clear b0
  have HR := Lib.hid hr0; clear hr0
  have HRS := Lib.hid hrs0; clear hrs0
  have HMS := Lib.hid hms; clear hms
  have HCS := Lib.hid hcs; clear hcs
  clear hr hrs
  rw [hC] at hch
  clear hC
  have hb : (C != 0) = false := by simp [hch]
  have t1 : decide (16 < L) = true := by simpa using hL
  go_enter Tryz.func36, Tryz.ntmps36
  rw [← HMM.out, ← HMS.out]
  go_wp2_with fail
  go_at_call 73
  refine HCK.out.mono ?_
  rintro e w1 ⟨hq1, rfl⟩
  have s1 := S0.out.trans (hq1.mono S0.out.size)
  have hr1 := HR.out.below hq1 (Nat.le_refl _)
  have tk := B0.out.keep hq1; have x0 := tk.cell (j := 0) rfl; have x1 := tk.cell (j := 1) rfl; have x2 := tk.cell (j := 2) rfl; have C0 := Lib.hid tk; clear tk
  have S1 := Lib.hid s1; clear s1
  have hrs1 := HRS.out.below hq1 (Nat.le_refl _)
  have HR1 := Lib.hid hr1; clear hr1
  have HRS1 := Lib.hid hrs1; clear hrs1
  clear hq1
  go_wp2_with fail
  go_ret
  exact ⟨S1.out, rfl⟩
set_option maxRecDepth 100000 in
set_option maxHeartbeats 3200000 in
theorem rcks_det (L : Int) (S : Nat) (s : Int) (es : List E3) (set : List Int) (v vs : Value) (w : World) (hr : Row w v es.length (ce es)) (hrs : Row w vs set.length (ci set)) (hsl : set.length ≤ 1000000) (hch : chk L (S : Int) es = 0) (hL : ¬ 16 < L) (hdet : detB es = false) :
    Calls Tryz.prog 36 #[.agg #[.int .i64 L, .int .i64 (S : Int), v], vs, .int .i64 s] w (Ret w (.int .i64 (8))) := by
  obtain ⟨va, vc, rfl, hle⟩ := hr.slice
  have s0 := (Below.refl w.heap.size w).alloc (Nat.le_refl _) (.cells #[.int .i64 L, .int .i64 (S : Int), .slice va es.length vc] 24)
  obtain ⟨sa, sc, rfl, hsle⟩ := hrs.slice
  have hrs0 := hrs.below s0 (Nat.le_refl _)
  obtain ⟨ms, hms⟩ : ∃ ms, ms = set.length := ⟨_, rfl⟩
  have b0 := Blk.new w 24 [.int .i64 L, .int .i64 (S : Int), .slice va es.length vc]
  have hr0 := hr.below s0 (Nat.le_refl _)
  have hck := rcheck_any L (S : Int) es _ _ hr0
  have hdt := fun w' h => rdet_any L (S : Int) es (.slice va es.length vc) w' h
  obtain ⟨mm, hmm⟩ : ∃ mm, mm = es.length := ⟨_, rfl⟩
  obtain ⟨C, hC⟩ : ∃ C, chk L (S : Int) es = C := ⟨_, rfl⟩
  rw [hC] at hck hdt
  have hcs := fun w' (h : Row w' (.slice sa set.length sc) set.length (ci set)) => rcset_any L S (.slice va es.length vc) (.slice sa set.length sc) set w' h hsl
  rw [← hms] at hrs0 hsle hcs
  rw [← hmm] at s0 b0 hr0 hrs0 hck hdt hle hcs
  have HMM := Lib.hid hmm; clear hmm
  have HCK := Lib.hid hck; clear hck
  have HDT := Lib.hid hdt; clear hdt
  have S0 := Lib.hid s0; clear s0
  have B0 := Lib.hid b0; clear b0
  have HR := Lib.hid hr0; clear hr0
  have HRS := Lib.hid hrs0; clear hrs0
  have HMS := Lib.hid hms; clear hms
  have HCS := Lib.hid hcs; clear hcs
  clear hr hrs
  rw [hC] at hch
  clear hC
  have hb : (C != 0) = false := by simp [hch]
  have t1 : decide (16 < L) = false := by simp; omega
  go_enter Tryz.func36, Tryz.ntmps36
  rw [← HMM.out, ← HMS.out]
  go_wp2_with fail
  go_at_call 73
  refine HCK.out.mono ?_
  rintro e w1 ⟨hq1, rfl⟩
  have s1 := S0.out.trans (hq1.mono S0.out.size)
  have hr1 := HR.out.below hq1 (Nat.le_refl _)
  have tk := B0.out.keep hq1; have x0 := tk.cell (j := 0) rfl; have x1 := tk.cell (j := 1) rfl; have x2 := tk.cell (j := 2) rfl; have C0 := Lib.hid tk; clear tk
  have S1 := Lib.hid s1; clear s1
  have hrs1 := HRS.out.below hq1 (Nat.le_refl _)
  have HR1 := Lib.hid hr1; clear hr1
  have HRS1 := Lib.hid hrs1; clear hrs1
  clear hq1
  go_wp2_with fail
  go_at_call 74
  have hdd := HDT.out w1 HR1.out
  rw [decide_eq_true hch, if_pos hch, Bool.true_and, hdet] at hdd
  have HDD := Lib.hid hdd; clear hdd
  refine HDD.out.mono ?_
  rintro e w2 ⟨hq2, rfl⟩
  have s2 := S1.out.trans (hq2.mono S1.out.size)
  have tk := C0.out.keep hq2; have y0 := tk.cell (j := 0) rfl; have y1 := tk.cell (j := 1) rfl; have y2 := tk.cell (j := 2) rfl; have D0 := Lib.hid tk; clear tk
  have hrs2 := HRS1.out.below hq2 (Nat.le_refl _)
  have HRS2 := Lib.hid hrs2; clear hrs2
  have S2 := Lib.hid s2; clear s2
  clear hq2 x0 x1 x2
  go_wp2_with fail
  go_ret
  exact ⟨S2.out, rfl⟩
set_option maxRecDepth 100000 in
set_option maxHeartbeats 3200000 in
theorem rcks_set (L : Int) (S : Nat) (s : Int) (es : List E3) (set : List Int) (v vs : Value) (w : World) (hr : Row w v es.length (ce es)) (hrs : Row w vs set.length (ci set)) (hsl : set.length ≤ 1000000) (hch : chk L (S : Int) es = 0) (hL : ¬ 16 < L) (hdet : detB es = true) (hset : cset (S : Int) none set ≠ 0) :
    Calls Tryz.prog 36 #[.agg #[.int .i64 L, .int .i64 (S : Int), v], vs, .int .i64 s] w (Ret w (.int .i64 (cset (S : Int) none set))) := by
  obtain ⟨va, vc, rfl, hle⟩ := hr.slice
  have s0 := (Below.refl w.heap.size w).alloc (Nat.le_refl _) (.cells #[.int .i64 L, .int .i64 (S : Int), .slice va es.length vc] 24)
  obtain ⟨sa, sc, rfl, hsle⟩ := hrs.slice
  have hrs0 := hrs.below s0 (Nat.le_refl _)
  obtain ⟨ms, hms⟩ : ∃ ms, ms = set.length := ⟨_, rfl⟩
  have b0 := Blk.new w 24 [.int .i64 L, .int .i64 (S : Int), .slice va es.length vc]
  have hr0 := hr.below s0 (Nat.le_refl _)
  have hck := rcheck_any L (S : Int) es _ _ hr0
  have hdt := fun w' h => rdet_any L (S : Int) es (.slice va es.length vc) w' h
  obtain ⟨mm, hmm⟩ : ∃ mm, mm = es.length := ⟨_, rfl⟩
  obtain ⟨C, hC⟩ : ∃ C, chk L (S : Int) es = C := ⟨_, rfl⟩
  rw [hC] at hck hdt
  have hcs := fun w' (h : Row w' (.slice sa set.length sc) set.length (ci set)) => rcset_any L S (.slice va es.length vc) (.slice sa set.length sc) set w' h hsl
  obtain ⟨Z, hZ⟩ : ∃ Z, Z = cset (S : Int) none set := ⟨_, rfl⟩
  rw [← hZ] at hcs hset ⊢
  clear hZ
  have t4 : (Z != 0) = true := by simpa using hset
  rw [← hms] at hrs0 hsle hcs
  rw [← hmm] at s0 b0 hr0 hrs0 hck hdt hle hcs
  have HMM := Lib.hid hmm; clear hmm
  have HCK := Lib.hid hck; clear hck
  have HDT := Lib.hid hdt; clear hdt
  have S0 := Lib.hid s0; clear s0
  have B0 := Lib.hid b0; clear b0
  have HR := Lib.hid hr0; clear hr0
  have HRS := Lib.hid hrs0; clear hrs0
  have HMS := Lib.hid hms; clear hms
  have HCS := Lib.hid hcs; clear hcs
  clear hr hrs
  rw [hC] at hch
  clear hC
  have hb : (C != 0) = false := by simp [hch]
  have t1 : decide (16 < L) = false := by simp; omega
  go_enter Tryz.func36, Tryz.ntmps36
  rw [← HMM.out, ← HMS.out]
  go_wp2_with fail
  go_at_call 73
  refine HCK.out.mono ?_
  rintro e w1 ⟨hq1, rfl⟩
  have s1 := S0.out.trans (hq1.mono S0.out.size)
  have hr1 := HR.out.below hq1 (Nat.le_refl _)
  have tk := B0.out.keep hq1; have x0 := tk.cell (j := 0) rfl; have x1 := tk.cell (j := 1) rfl; have x2 := tk.cell (j := 2) rfl; have C0 := Lib.hid tk; clear tk
  have S1 := Lib.hid s1; clear s1
  have hrs1 := HRS.out.below hq1 (Nat.le_refl _)
  have HR1 := Lib.hid hr1; clear hr1
  have HRS1 := Lib.hid hrs1; clear hrs1
  clear hq1
  go_wp2_with fail
  go_at_call 74
  have hdd := HDT.out w1 HR1.out
  rw [decide_eq_true hch, if_pos hch, Bool.true_and, hdet] at hdd
  have HDD := Lib.hid hdd; clear hdd
  refine HDD.out.mono ?_
  rintro e w2 ⟨hq2, rfl⟩
  have s2 := S1.out.trans (hq2.mono S1.out.size)
  have tk := C0.out.keep hq2; have y0 := tk.cell (j := 0) rfl; have y1 := tk.cell (j := 1) rfl; have y2 := tk.cell (j := 2) rfl; have D0 := Lib.hid tk; clear tk
  have hrs2 := HRS1.out.below hq2 (Nat.le_refl _)
  have HRS2 := Lib.hid hrs2; clear hrs2
  have S2 := Lib.hid s2; clear s2
  clear hq2 x0 x1 x2
  go_wp2_with fail
  go_at_call 75
  refine (HCS.out _ HRS2.out).mono ?_
  rintro e w3 ⟨hq3, rfl⟩
  have s3 := S2.out.trans (hq3.mono S2.out.size)
  have tk := D0.out.keep hq3; have z0 := tk.cell (j := 0) rfl; have z1 := tk.cell (j := 1) rfl; have z2 := tk.cell (j := 2) rfl; have E0 := Lib.hid tk; clear tk
  have S3 := Lib.hid s3; clear s3
  clear hq3 y0 y1 y2
  go_wp2_with fail
  go_ret
  exact ⟨S3.out, rfl⟩
set_option maxRecDepth 100000 in
set_option maxHeartbeats 3200000 in
theorem rcks_neg (L : Int) (S : Nat) (s : Int) (es : List E3) (set : List Int) (v vs : Value) (w : World) (hr : Row w v es.length (ce es)) (hrs : Row w vs set.length (ci set)) (hsl : set.length ≤ 1000000) (hch : chk L (S : Int) es = 0) (hL : ¬ 16 < L) (hdet : detB es = true) (hset : cset (S : Int) none set = 0) (hs : s < 0) :
    Calls Tryz.prog 36 #[.agg #[.int .i64 L, .int .i64 (S : Int), v], vs, .int .i64 s] w (Ret w (.int .i64 (25))) := by
  obtain ⟨va, vc, rfl, hle⟩ := hr.slice
  have s0 := (Below.refl w.heap.size w).alloc (Nat.le_refl _) (.cells #[.int .i64 L, .int .i64 (S : Int), .slice va es.length vc] 24)
  obtain ⟨sa, sc, rfl, hsle⟩ := hrs.slice
  have hrs0 := hrs.below s0 (Nat.le_refl _)
  obtain ⟨ms, hms⟩ : ∃ ms, ms = set.length := ⟨_, rfl⟩
  have b0 := Blk.new w 24 [.int .i64 L, .int .i64 (S : Int), .slice va es.length vc]
  have hr0 := hr.below s0 (Nat.le_refl _)
  have hck := rcheck_any L (S : Int) es _ _ hr0
  have hdt := fun w' h => rdet_any L (S : Int) es (.slice va es.length vc) w' h
  obtain ⟨mm, hmm⟩ : ∃ mm, mm = es.length := ⟨_, rfl⟩
  obtain ⟨C, hC⟩ : ∃ C, chk L (S : Int) es = C := ⟨_, rfl⟩
  rw [hC] at hck hdt
  have hcs := fun w' (h : Row w' (.slice sa set.length sc) set.length (ci set)) => rcset_any L S (.slice va es.length vc) (.slice sa set.length sc) set w' h hsl
  rw [hset] at hcs
  rw [← hms] at hrs0 hsle hcs
  rw [← hmm] at s0 b0 hr0 hrs0 hck hdt hle hcs
  have HMM := Lib.hid hmm; clear hmm
  have HCK := Lib.hid hck; clear hck
  have HDT := Lib.hid hdt; clear hdt
  have S0 := Lib.hid s0; clear s0
  have B0 := Lib.hid b0; clear b0
  have HR := Lib.hid hr0; clear hr0
  have HRS := Lib.hid hrs0; clear hrs0
  have HMS := Lib.hid hms; clear hms
  have HCS := Lib.hid hcs; clear hcs
  clear hr hrs
  rw [hC] at hch
  clear hC
  have hb : (C != 0) = false := by simp [hch]
  have t1 : decide (16 < L) = false := by simp; omega
  have t2 : decide (s < 0) = true := by simpa using hs
  go_enter Tryz.func36, Tryz.ntmps36
  rw [← HMM.out, ← HMS.out]
  go_wp2_with fail
  go_at_call 73
  refine HCK.out.mono ?_
  rintro e w1 ⟨hq1, rfl⟩
  have s1 := S0.out.trans (hq1.mono S0.out.size)
  have hr1 := HR.out.below hq1 (Nat.le_refl _)
  have tk := B0.out.keep hq1; have x0 := tk.cell (j := 0) rfl; have x1 := tk.cell (j := 1) rfl; have x2 := tk.cell (j := 2) rfl; have C0 := Lib.hid tk; clear tk
  have S1 := Lib.hid s1; clear s1
  have hrs1 := HRS.out.below hq1 (Nat.le_refl _)
  have HR1 := Lib.hid hr1; clear hr1
  have HRS1 := Lib.hid hrs1; clear hrs1
  clear hq1
  go_wp2_with fail
  go_at_call 74
  have hdd := HDT.out w1 HR1.out
  rw [decide_eq_true hch, if_pos hch, Bool.true_and, hdet] at hdd
  have HDD := Lib.hid hdd; clear hdd
  refine HDD.out.mono ?_
  rintro e w2 ⟨hq2, rfl⟩
  have s2 := S1.out.trans (hq2.mono S1.out.size)
  have tk := C0.out.keep hq2; have y0 := tk.cell (j := 0) rfl; have y1 := tk.cell (j := 1) rfl; have y2 := tk.cell (j := 2) rfl; have D0 := Lib.hid tk; clear tk
  have hrs2 := HRS1.out.below hq2 (Nat.le_refl _)
  have HRS2 := Lib.hid hrs2; clear hrs2
  have S2 := Lib.hid s2; clear s2
  clear hq2 x0 x1 x2
  go_wp2_with fail
  go_at_call 75
  refine (HCS.out _ HRS2.out).mono ?_
  rintro e w3 ⟨hq3, rfl⟩
  have s3 := S2.out.trans (hq3.mono S2.out.size)
  have tk := D0.out.keep hq3; have z0 := tk.cell (j := 0) rfl; have z1 := tk.cell (j := 1) rfl; have z2 := tk.cell (j := 2) rfl; have E0 := Lib.hid tk; clear tk
  have S3 := Lib.hid s3; clear s3
  clear hq3 y0 y1 y2
  go_wp2_with fail
  go_ret
  exact ⟨S3.out, rfl⟩
set_option maxRecDepth 100000 in
set_option maxHeartbeats 3200000 in
theorem rcks_hi (L : Int) (S : Nat) (s : Int) (es : List E3) (set : List Int) (v vs : Value) (w : World) (hr : Row w v es.length (ce es)) (hrs : Row w vs set.length (ci set)) (hsl : set.length ≤ 1000000) (hch : chk L (S : Int) es = 0) (hL : ¬ 16 < L) (hdet : detB es = true) (hset : cset (S : Int) none set = 0) (hs : ¬ s < 0) (hs2 : (S : Int) ≤ s) :
    Calls Tryz.prog 36 #[.agg #[.int .i64 L, .int .i64 (S : Int), v], vs, .int .i64 s] w (Ret w (.int .i64 (25))) := by
  obtain ⟨va, vc, rfl, hle⟩ := hr.slice
  have s0 := (Below.refl w.heap.size w).alloc (Nat.le_refl _) (.cells #[.int .i64 L, .int .i64 (S : Int), .slice va es.length vc] 24)
  obtain ⟨sa, sc, rfl, hsle⟩ := hrs.slice
  have hrs0 := hrs.below s0 (Nat.le_refl _)
  obtain ⟨ms, hms⟩ : ∃ ms, ms = set.length := ⟨_, rfl⟩
  have b0 := Blk.new w 24 [.int .i64 L, .int .i64 (S : Int), .slice va es.length vc]
  have hr0 := hr.below s0 (Nat.le_refl _)
  have hck := rcheck_any L (S : Int) es _ _ hr0
  have hdt := fun w' h => rdet_any L (S : Int) es (.slice va es.length vc) w' h
  obtain ⟨mm, hmm⟩ : ∃ mm, mm = es.length := ⟨_, rfl⟩
  obtain ⟨C, hC⟩ : ∃ C, chk L (S : Int) es = C := ⟨_, rfl⟩
  rw [hC] at hck hdt
  have hcs := fun w' (h : Row w' (.slice sa set.length sc) set.length (ci set)) => rcset_any L S (.slice va es.length vc) (.slice sa set.length sc) set w' h hsl
  rw [hset] at hcs
  rw [← hms] at hrs0 hsle hcs
  rw [← hmm] at s0 b0 hr0 hrs0 hck hdt hle hcs
  have HMM := Lib.hid hmm; clear hmm
  have HCK := Lib.hid hck; clear hck
  have HDT := Lib.hid hdt; clear hdt
  have S0 := Lib.hid s0; clear s0
  have B0 := Lib.hid b0; clear b0
  have HR := Lib.hid hr0; clear hr0
  have HRS := Lib.hid hrs0; clear hrs0
  have HMS := Lib.hid hms; clear hms
  have HCS := Lib.hid hcs; clear hcs
  clear hr hrs
  rw [hC] at hch
  clear hC
  have hb : (C != 0) = false := by simp [hch]
  have t1 : decide (16 < L) = false := by simp; omega
  have t2 : decide (s < 0) = false := by simp; omega
  have t3 : decide ((S : Int) ≤ s) = true := by simpa using hs2
  go_enter Tryz.func36, Tryz.ntmps36
  rw [← HMM.out, ← HMS.out]
  go_wp2_with fail
  go_at_call 73
  refine HCK.out.mono ?_
  rintro e w1 ⟨hq1, rfl⟩
  have s1 := S0.out.trans (hq1.mono S0.out.size)
  have hr1 := HR.out.below hq1 (Nat.le_refl _)
  have tk := B0.out.keep hq1; have x0 := tk.cell (j := 0) rfl; have x1 := tk.cell (j := 1) rfl; have x2 := tk.cell (j := 2) rfl; have C0 := Lib.hid tk; clear tk
  have S1 := Lib.hid s1; clear s1
  have hrs1 := HRS.out.below hq1 (Nat.le_refl _)
  have HR1 := Lib.hid hr1; clear hr1
  have HRS1 := Lib.hid hrs1; clear hrs1
  clear hq1
  go_wp2_with fail
  go_at_call 74
  have hdd := HDT.out w1 HR1.out
  rw [decide_eq_true hch, if_pos hch, Bool.true_and, hdet] at hdd
  have HDD := Lib.hid hdd; clear hdd
  refine HDD.out.mono ?_
  rintro e w2 ⟨hq2, rfl⟩
  have s2 := S1.out.trans (hq2.mono S1.out.size)
  have tk := C0.out.keep hq2; have y0 := tk.cell (j := 0) rfl; have y1 := tk.cell (j := 1) rfl; have y2 := tk.cell (j := 2) rfl; have D0 := Lib.hid tk; clear tk
  have hrs2 := HRS1.out.below hq2 (Nat.le_refl _)
  have HRS2 := Lib.hid hrs2; clear hrs2
  have S2 := Lib.hid s2; clear s2
  clear hq2 x0 x1 x2
  go_wp2_with fail
  go_at_call 75
  refine (HCS.out _ HRS2.out).mono ?_
  rintro e w3 ⟨hq3, rfl⟩
  have s3 := S2.out.trans (hq3.mono S2.out.size)
  have tk := D0.out.keep hq3; have z0 := tk.cell (j := 0) rfl; have z1 := tk.cell (j := 1) rfl; have z2 := tk.cell (j := 2) rfl; have E0 := Lib.hid tk; clear tk
  have S3 := Lib.hid s3; clear s3
  clear hq3 y0 y1 y2
  go_wp2_with fail
  go_ret
  exact ⟨S3.out, rfl⟩
set_option maxRecDepth 100000 in
set_option maxHeartbeats 3200000 in
theorem rcks_ok (L : Int) (S : Nat) (s : Int) (es : List E3) (set : List Int) (v vs : Value) (w : World) (hr : Row w v es.length (ce es)) (hrs : Row w vs set.length (ci set)) (hsl : set.length ≤ 1000000) (hch : chk L (S : Int) es = 0) (hL : ¬ 16 < L) (hdet : detB es = true) (hset : cset (S : Int) none set = 0) (hs : ¬ s < 0) (hs2 : ¬ (S : Int) ≤ s) :
    Calls Tryz.prog 36 #[.agg #[.int .i64 L, .int .i64 (S : Int), v], vs, .int .i64 s] w (Ret w (.int .i64 (0))) := by
  obtain ⟨va, vc, rfl, hle⟩ := hr.slice
  have s0 := (Below.refl w.heap.size w).alloc (Nat.le_refl _) (.cells #[.int .i64 L, .int .i64 (S : Int), .slice va es.length vc] 24)
  obtain ⟨sa, sc, rfl, hsle⟩ := hrs.slice
  have hrs0 := hrs.below s0 (Nat.le_refl _)
  obtain ⟨ms, hms⟩ : ∃ ms, ms = set.length := ⟨_, rfl⟩
  have b0 := Blk.new w 24 [.int .i64 L, .int .i64 (S : Int), .slice va es.length vc]
  have hr0 := hr.below s0 (Nat.le_refl _)
  have hck := rcheck_any L (S : Int) es _ _ hr0
  have hdt := fun w' h => rdet_any L (S : Int) es (.slice va es.length vc) w' h
  obtain ⟨mm, hmm⟩ : ∃ mm, mm = es.length := ⟨_, rfl⟩
  obtain ⟨C, hC⟩ : ∃ C, chk L (S : Int) es = C := ⟨_, rfl⟩
  rw [hC] at hck hdt
  have hcs := fun w' (h : Row w' (.slice sa set.length sc) set.length (ci set)) => rcset_any L S (.slice va es.length vc) (.slice sa set.length sc) set w' h hsl
  rw [hset] at hcs
  rw [← hms] at hrs0 hsle hcs
  rw [← hmm] at s0 b0 hr0 hrs0 hck hdt hle hcs
  have HMM := Lib.hid hmm; clear hmm
  have HCK := Lib.hid hck; clear hck
  have HDT := Lib.hid hdt; clear hdt
  have S0 := Lib.hid s0; clear s0
  have B0 := Lib.hid b0; clear b0
  have HR := Lib.hid hr0; clear hr0
  have HRS := Lib.hid hrs0; clear hrs0
  have HMS := Lib.hid hms; clear hms
  have HCS := Lib.hid hcs; clear hcs
  clear hr hrs
  rw [hC] at hch
  clear hC
  have hb : (C != 0) = false := by simp [hch]
  have t1 : decide (16 < L) = false := by simp; omega
  have t2 : decide (s < 0) = false := by simp; omega
  have t3 : decide ((S : Int) ≤ s) = false := by simp; omega
  go_enter Tryz.func36, Tryz.ntmps36
  rw [← HMM.out, ← HMS.out]
  go_wp2_with fail
  go_at_call 73
  refine HCK.out.mono ?_
  rintro e w1 ⟨hq1, rfl⟩
  have s1 := S0.out.trans (hq1.mono S0.out.size)
  have hr1 := HR.out.below hq1 (Nat.le_refl _)
  have tk := B0.out.keep hq1; have x0 := tk.cell (j := 0) rfl; have x1 := tk.cell (j := 1) rfl; have x2 := tk.cell (j := 2) rfl; have C0 := Lib.hid tk; clear tk
  have S1 := Lib.hid s1; clear s1
  have hrs1 := HRS.out.below hq1 (Nat.le_refl _)
  have HR1 := Lib.hid hr1; clear hr1
  have HRS1 := Lib.hid hrs1; clear hrs1
  clear hq1
  go_wp2_with fail
  go_at_call 74
  have hdd := HDT.out w1 HR1.out
  rw [decide_eq_true hch, if_pos hch, Bool.true_and, hdet] at hdd
  have HDD := Lib.hid hdd; clear hdd
  refine HDD.out.mono ?_
  rintro e w2 ⟨hq2, rfl⟩
  have s2 := S1.out.trans (hq2.mono S1.out.size)
  have tk := C0.out.keep hq2; have y0 := tk.cell (j := 0) rfl; have y1 := tk.cell (j := 1) rfl; have y2 := tk.cell (j := 2) rfl; have D0 := Lib.hid tk; clear tk
  have hrs2 := HRS1.out.below hq2 (Nat.le_refl _)
  have HRS2 := Lib.hid hrs2; clear hrs2
  have S2 := Lib.hid s2; clear s2
  clear hq2 x0 x1 x2
  go_wp2_with fail
  go_at_call 75
  refine (HCS.out _ HRS2.out).mono ?_
  rintro e w3 ⟨hq3, rfl⟩
  have s3 := S2.out.trans (hq3.mono S2.out.size)
  have tk := D0.out.keep hq3; have z0 := tk.cell (j := 0) rfl; have z1 := tk.cell (j := 1) rfl; have z2 := tk.cell (j := 2) rfl; have E0 := Lib.hid tk; clear tk
  have S3 := Lib.hid s3; clear s3
  clear hq3 y0 y1 y2
  go_wp2_with fail
  go_ret
  exact ⟨S3.out, rfl⟩
theorem rcks_any (L : Int) (S : Nat) (s : Int) (es : List E3) (set : List Int) (v vs : Value) (w : World) (hr : Row w v es.length (ce es)) (hrs : Row w vs set.length (ci set)) (hsl : set.length ≤ 1000000) :
    Calls Tryz.prog 36 #[.agg #[.int .i64 L, .int .i64 (S : Int), v], vs, .int .i64 s] w (Ret w (.int .i64 (rcks L (S : Int) es set s))) := by
  by_cases hch : chk L (S : Int) es = 0
  · by_cases hL : 16 < L
    · have h : rcks L S es set s = 12 := by unfold rcks eck; simp [hch, hL]
      rw [h]; exact rcks_lab L S s es set v vs w hr hrs hsl hch hL
    · cases hd : detB es with
      | false =>
        have h : rcks L S es set s = 8 := by unfold rcks eck; simp [hch, hL, hd]
        rw [h]; exact rcks_det L S s es set v vs w hr hrs hsl hch hL hd
      | true =>
        have he : eck L S es = 0 := by unfold eck; simp [hch, hL, hd]
        by_cases hset : cset (S : Int) none set = 0
        · by_cases hs : s < 0
          · have h : rcks L S es set s = 25 := by unfold rcks; simp [he, hset, hs]
            rw [h]; exact rcks_neg L S s es set v vs w hr hrs hsl hch hL hd hset hs
          · by_cases hs2 : (S : Int) ≤ s
            · have h : rcks L S es set s = 25 := by unfold rcks; simp [he, hset, hs2]
              rw [h]; exact rcks_hi L S s es set v vs w hr hrs hsl hch hL hd hset hs hs2
            · have h : rcks L S es set s = 0 := by unfold rcks; simp [he, hset, hs, hs2]
              rw [h]; exact rcks_ok L S s es set v vs w hr hrs hsl hch hL hd hset hs hs2
        · have h : rcks L S es set s = cset (S : Int) none set := by unfold rcks; simp [he, hset]
          rw [h]; exact rcks_set L S s es set v vs w hr hrs hsl hch hL hd hset
  · have h : rcks L S es set s = 1 := by unfold rcks eck; simp [hch]
    rw [h]; exact rcks_chk L S s es set v vs w hr hrs hsl hch
def clen (n : Int) : Int := if n < 0 ∨ 4096 < n then 2 else 0
set_option maxRecDepth 100000 in
set_option maxHeartbeats 3200000 in
theorem rclen_any (n : Int) (w : World) : Calls Tryz.prog 37 #[.int .i64 n] w (Ret w (.int .i64 (clen n))) := by
  by_cases h1 : n < 0
  · have hc : clen n = 2 := by simp [clen, h1]
    have t1 : decide (n < 0) = true := by simpa using h1
    rw [hc]
    go_enter Tryz.func37, Tryz.ntmps37
    go_wp2_with fail
    go_ret
    exact ⟨Below.refl _ _, rfl⟩
  · have t1 : decide (n < 0) = false := by simp; omega
    by_cases h2 : 4096 < n
    · have hc : clen n = 2 := by simp [clen, h2]
      have t2 : decide (4096 < n) = true := by simpa using h2
      rw [hc]
      go_enter Tryz.func37, Tryz.ntmps37
      go_wp2_with fail
      go_ret
      exact ⟨Below.refl _ _, rfl⟩
    · have hc : clen n = 0 := by simp [clen]; omega
      have t2 : decide (4096 < n) = false := by simp; omega
      rw [hc]
      go_enter Tryz.func37, Tryz.ntmps37
      go_wp2_with fail
      go_ret
      exact ⟨Below.refl _ _, rfl⟩
set_option maxRecDepth 100000 in
set_option maxHeartbeats 3200000 in
theorem rckw_any (L S : Int) (a : Option Addr) (n c : Nat) (s : ByteArray) (w : World) (hs : s.size ≤ 9223372036854775807) :
    Calls Tryz.prog 38 #[.agg #[.int .i64 L, .int .i64 S, .slice a n c], .string s] w (Ret w (.int .i64 (ckw L s.data.toList))) := by
  have hw := fun w' => rwcheck_any L s w' hs
  obtain ⟨C, hC⟩ : ∃ C, wchk L s.data.toList = C := ⟨_, rfl⟩
  have hz : s.data.toList.length = s.size := bytes_size s
  rw [hC] at hw
  have b0 := Blk.new w 24 [.int .i64 L, .int .i64 S, .slice a n c]
  have x0 := b0.cell (j := 0) rfl
  have s0 := (Below.refl w.heap.size w).alloc (Nat.le_refl _) (.cells #[.int .i64 L, .int .i64 S, .slice a n c] 24)
  have hres : ckw L s.data.toList = if C ≠ 0 then C else if 4096 < s.size then 4 else 0 := by unfold ckw; rw [hC, hz]
  rw [hres]
  have HW := Lib.hid hw; clear hw
  have S0 := Lib.hid s0; clear s0
  clear hC hres b0 hz
  by_cases h1 : C = 0
  · subst h1
    by_cases h2 : 4096 < s.size
    · rw [if_neg (by simp), if_pos h2]
      have h2i : (4096 : Int) < (s.size : Int) := by omega
      go_enter Tryz.func38, Tryz.ntmps38
      go_wp2_with fail
      go_at_call 76
      refine (HW.out _).mono ?_
      rintro e w1 ⟨rfl, rfl⟩
      go_wp2_with fail
      go_ret
      exact ⟨S0.out, rfl⟩
    · rw [if_neg (by simp), if_neg h2]
      have h2i : ¬ (4096 : Int) < (s.size : Int) := by omega
      go_enter Tryz.func38, Tryz.ntmps38
      go_wp2_with fail
      go_at_call 76
      refine (HW.out _).mono ?_
      rintro e w1 ⟨rfl, rfl⟩
      go_wp2_with fail
      go_ret
      exact ⟨S0.out, rfl⟩
  · rw [if_pos h1]
    have hb : (C != 0) = true := by simpa using h1
    go_enter Tryz.func38, Tryz.ntmps38
    go_wp2_with fail
    go_at_call 76
    refine (HW.out _).mono ?_
    rintro e w1 ⟨rfl, rfl⟩
    go_wp2_with fail
    go_ret
    exact ⟨S0.out, rfl⟩
end Go.Proofs.YtalipfnbpnkgnaaGreat

/- grooveref29.Encode (printed by gen_renc.py). -/
namespace Go.Proofs.YtalipfnbpnkgnaaGreat
open Go.RowKit

set_option maxRecDepth 100000 in
set_option maxHeartbeats 3200000 in
theorem renc_bad (L S s n e0 : Int) (es : List E3) (set : List Int) (ng : Bool) (sg : ByteArray) (v vs : Value) (w : World) (hr : Row w v es.length (ce es)) (hrs : Row w vs set.length (ci set)) (hchk : ∀ v vs w', Row w' v es.length (ce es) → Row w' vs set.length (ci set) → Calls Tryz.prog 36 #[.agg #[.int .i64 L, .int .i64 S, v], vs, .int .i64 s] w' (Ret w' (.int .i64 e0))) (he : e0 ≠ 0) :
    Calls Tryz.prog 16 #[.agg #[.int .i64 L, .int .i64 S, v], vs, .int .i64 s, .int .i64 n, .agg #[.bool ng, .string sg]] w (Ret w (.tuple #[.string ⟨#[]⟩, .int .i64 0, .int .i64 e0])) := by
  obtain ⟨va, vc, rfl, hle⟩ := hr.slice
  obtain ⟨sa, sc, rfl, hsle⟩ := hrs.slice
  have sb0 := ((Below.refl w.heap.size w).alloc (Nat.le_refl _) (.cells #[.int .i64 L, .int .i64 S, .slice va es.length vc] 24)).alloc (by simp) (.cells #[.bool ng, .string sg] 33)
  have b0 := (Blk.new w 24 [.int .i64 L, .int .i64 S, .slice va es.length vc]).alloc (.cells #[.bool ng, .string sg] 33)
  have b1 := Blk.new (w.alloc (.cells #[.int .i64 L, .int .i64 S, .slice va es.length vc] 24)) 33 [.bool ng, .string sg]
  simp only [World.size_alloc] at b1
  have hr0 := hr.below sb0 (Nat.le_refl _)
  have hrs0 := hrs.below sb0 (Nat.le_refl _)
  have hck := hchk (.slice va es.length vc) (.slice sa set.length sc) _ hr0 hrs0
  have hb : (e0 != 0) = true := by simpa using he
  obtain ⟨mm, hmm⟩ : ∃ mm, mm = es.length := ⟨_, rfl⟩
  obtain ⟨ms, hms⟩ : ∃ ms, ms = set.length := ⟨_, rfl⟩
  rw [← hmm] at sb0 b0 b1 hr0 hrs0 hck hle
  rw [← hms] at hrs0 hck hsle
  have HMM := Lib.hid hmm; clear hmm
  have HMS := Lib.hid hms; clear hms
  have HCK := Lib.hid hck; clear hck
  have S0 := Lib.hid sb0; clear sb0
  have B0 := Lib.hid b0; clear b0
  have B1 := Lib.hid b1; clear b1
  have HR := Lib.hid hr0; clear hr0
  have HRS := Lib.hid hrs0; clear hrs0
  clear hr hrs hchk 
  go_enter Tryz.func16, Tryz.ntmps16
  rw [← HMM.out, ← HMS.out]
  go_wp2_with fail
  go_at_call 36
  refine HCK.out.mono ?_
  rintro e w1 ⟨hq, rfl⟩
  have s1 := S0.out.trans (hq.mono S0.out.size)
  have hr1 := HR.out.below hq (Nat.le_refl _)
  have hrs1 := HRS.out.below hq (Nat.le_refl _)
  have tk := B0.out.keep hq; have x0 := tk.cell (j := 0) rfl; have x1 := tk.cell (j := 1) rfl; have x2 := tk.cell (j := 2) rfl; have C0 := Lib.hid tk; clear tk
  have tk := B1.out.keep hq; have y0 := tk.cell (j := 0) rfl; have y1 := tk.cell (j := 1) rfl; have C1 := Lib.hid tk; clear tk
  have S1 := Lib.hid s1; clear s1
  have HR1 := Lib.hid hr1; clear hr1
  have HRS1 := Lib.hid hrs1; clear hrs1
  clear hq
  go_wp2_with fail
  go_ret3
  exact ⟨S1.out, rfl⟩
set_option maxRecDepth 100000 in
set_option maxHeartbeats 3200000 in
theorem renc_len (L S s n : Int) (es : List E3) (set : List Int) (ng : Bool) (sg : ByteArray) (v vs : Value) (w : World) (hr : Row w v es.length (ce es)) (hrs : Row w vs set.length (ci set)) (hchk : ∀ v vs w', Row w' v es.length (ce es) → Row w' vs set.length (ci set) → Calls Tryz.prog 36 #[.agg #[.int .i64 L, .int .i64 S, v], vs, .int .i64 s] w' (Ret w' (.int .i64 0))) (hn : clen n ≠ 0) :
    Calls Tryz.prog 16 #[.agg #[.int .i64 L, .int .i64 S, v], vs, .int .i64 s, .int .i64 n, .agg #[.bool ng, .string sg]] w (Ret w (.tuple #[.string ⟨#[]⟩, .int .i64 0, .int .i64 (clen n)])) := by
  obtain ⟨va, vc, rfl, hle⟩ := hr.slice
  obtain ⟨sa, sc, rfl, hsle⟩ := hrs.slice
  have sb0 := ((Below.refl w.heap.size w).alloc (Nat.le_refl _) (.cells #[.int .i64 L, .int .i64 S, .slice va es.length vc] 24)).alloc (by simp) (.cells #[.bool ng, .string sg] 33)
  have b0 := (Blk.new w 24 [.int .i64 L, .int .i64 S, .slice va es.length vc]).alloc (.cells #[.bool ng, .string sg] 33)
  have b1 := Blk.new (w.alloc (.cells #[.int .i64 L, .int .i64 S, .slice va es.length vc] 24)) 33 [.bool ng, .string sg]
  simp only [World.size_alloc] at b1
  have hr0 := hr.below sb0 (Nat.le_refl _)
  have hrs0 := hrs.below sb0 (Nat.le_refl _)
  have hck := hchk (.slice va es.length vc) (.slice sa set.length sc) _ hr0 hrs0
  have hln := fun w' => rclen_any n w'
  obtain ⟨z, hz⟩ : ∃ z, z = clen n := ⟨_, rfl⟩
  rw [← hz] at hln hn ⊢
  clear hz
  have hb : (z != 0) = true := by simpa using hn
  obtain ⟨mm, hmm⟩ : ∃ mm, mm = es.length := ⟨_, rfl⟩
  obtain ⟨ms, hms⟩ : ∃ ms, ms = set.length := ⟨_, rfl⟩
  rw [← hmm] at sb0 b0 b1 hr0 hrs0 hck hle
  rw [← hms] at hrs0 hck hsle
  have HMM := Lib.hid hmm; clear hmm
  have HMS := Lib.hid hms; clear hms
  have HCK := Lib.hid hck; clear hck
  have HLN := Lib.hid hln; clear hln
  have S0 := Lib.hid sb0; clear sb0
  have B0 := Lib.hid b0; clear b0
  have B1 := Lib.hid b1; clear b1
  have HR := Lib.hid hr0; clear hr0
  have HRS := Lib.hid hrs0; clear hrs0
  clear hr hrs hchk 
  go_enter Tryz.func16, Tryz.ntmps16
  rw [← HMM.out, ← HMS.out]
  go_wp2_with fail
  go_at_call 36
  refine HCK.out.mono ?_
  rintro e w1 ⟨hq, rfl⟩
  have s1 := S0.out.trans (hq.mono S0.out.size)
  have hr1 := HR.out.below hq (Nat.le_refl _)
  have hrs1 := HRS.out.below hq (Nat.le_refl _)
  have tk := B0.out.keep hq; have x0 := tk.cell (j := 0) rfl; have x1 := tk.cell (j := 1) rfl; have x2 := tk.cell (j := 2) rfl; have C0 := Lib.hid tk; clear tk
  have tk := B1.out.keep hq; have y0 := tk.cell (j := 0) rfl; have y1 := tk.cell (j := 1) rfl; have C1 := Lib.hid tk; clear tk
  have S1 := Lib.hid s1; clear s1
  have HR1 := Lib.hid hr1; clear hr1
  have HRS1 := Lib.hid hrs1; clear hrs1
  clear hq
  go_wp2_with fail
  go_at_call 37
  refine (HLN.out _).mono ?_
  rintro e w2 ⟨hq, rfl⟩
  have s2 := S1.out.trans (hq.mono S1.out.size)
  have hr2 := HR1.out.below hq (Nat.le_refl _)
  have hrs2 := HRS1.out.below hq (Nat.le_refl _)
  clear x0 x1 x2 y0 y1
  have tk := C0.out.keep hq; have x0 := tk.cell (j := 0) rfl; have x1 := tk.cell (j := 1) rfl; have x2 := tk.cell (j := 2) rfl; have D0 := Lib.hid tk; clear tk
  have tk := C1.out.keep hq; have y0 := tk.cell (j := 0) rfl; have y1 := tk.cell (j := 1) rfl; have D1 := Lib.hid tk; clear tk
  have S2 := Lib.hid s2; clear s2
  have HR2 := Lib.hid hr2; clear hr2
  have HRS2 := Lib.hid hrs2; clear hrs2
  clear hq
  go_wp2_with fail
  go_ret3
  exact ⟨S2.out, rfl⟩
set_option maxRecDepth 100000 in
set_option maxHeartbeats 3200000 in
theorem renc_arg (L S s n : Int) (es : List E3) (set : List Int) (ng : Bool) (sg : ByteArray) (v vs : Value) (w : World) (hr : Row w v es.length (ce es)) (hrs : Row w vs set.length (ci set)) (hchk : ∀ v vs w', Row w' v es.length (ce es) → Row w' vs set.length (ci set) → Calls Tryz.prog 36 #[.agg #[.int .i64 L, .int .i64 S, v], vs, .int .i64 s] w' (Ret w' (.int .i64 0))) (hn : clen n = 0) (hsz : sg.size ≤ 1099511627775) (hcn : cnB ng sg = false) :
    Calls Tryz.prog 16 #[.agg #[.int .i64 L, .int .i64 S, v], vs, .int .i64 s, .int .i64 n, .agg #[.bool ng, .string sg]] w (Ret w (.tuple #[.string ⟨#[]⟩, .int .i64 0, .int .i64 1])) := by
  obtain ⟨va, vc, rfl, hle⟩ := hr.slice
  obtain ⟨sa, sc, rfl, hsle⟩ := hrs.slice
  have sb0 := ((Below.refl w.heap.size w).alloc (Nat.le_refl _) (.cells #[.int .i64 L, .int .i64 S, .slice va es.length vc] 24)).alloc (by simp) (.cells #[.bool ng, .string sg] 33)
  have b0 := (Blk.new w 24 [.int .i64 L, .int .i64 S, .slice va es.length vc]).alloc (.cells #[.bool ng, .string sg] 33)
  have b1 := Blk.new (w.alloc (.cells #[.int .i64 L, .int .i64 S, .slice va es.length vc] 24)) 33 [.bool ng, .string sg]
  simp only [World.size_alloc] at b1
  have hr0 := hr.below sb0 (Nat.le_refl _)
  have hrs0 := hrs.below sb0 (Nat.le_refl _)
  have hck := hchk (.slice va es.length vc) (.slice sa set.length sc) _ hr0 hrs0
  have hln := fun w' => rclen_any n w'
  rw [hn] at hln
  have hic := fun w' => rcheck01_any ng sg w' hsz
  rw [hcn] at hic
  obtain ⟨mm, hmm⟩ : ∃ mm, mm = es.length := ⟨_, rfl⟩
  obtain ⟨ms, hms⟩ : ∃ ms, ms = set.length := ⟨_, rfl⟩
  rw [← hmm] at sb0 b0 b1 hr0 hrs0 hck hle
  rw [← hms] at hrs0 hck hsle
  have HMM := Lib.hid hmm; clear hmm
  have HMS := Lib.hid hms; clear hms
  have HCK := Lib.hid hck; clear hck
  have HLN := Lib.hid hln; clear hln
  have HIC := Lib.hid hic; clear hic
  have S0 := Lib.hid sb0; clear sb0
  have B0 := Lib.hid b0; clear b0
  have B1 := Lib.hid b1; clear b1
  have HR := Lib.hid hr0; clear hr0
  have HRS := Lib.hid hrs0; clear hrs0
  clear hr hrs hchk 
  go_enter Tryz.func16, Tryz.ntmps16
  rw [← HMM.out, ← HMS.out]
  go_wp2_with fail
  go_at_call 36
  refine HCK.out.mono ?_
  rintro e w1 ⟨hq, rfl⟩
  have s1 := S0.out.trans (hq.mono S0.out.size)
  have hr1 := HR.out.below hq (Nat.le_refl _)
  have hrs1 := HRS.out.below hq (Nat.le_refl _)
  have tk := B0.out.keep hq; have x0 := tk.cell (j := 0) rfl; have x1 := tk.cell (j := 1) rfl; have x2 := tk.cell (j := 2) rfl; have C0 := Lib.hid tk; clear tk
  have tk := B1.out.keep hq; have y0 := tk.cell (j := 0) rfl; have y1 := tk.cell (j := 1) rfl; have C1 := Lib.hid tk; clear tk
  have S1 := Lib.hid s1; clear s1
  have HR1 := Lib.hid hr1; clear hr1
  have HRS1 := Lib.hid hrs1; clear hrs1
  clear hq
  go_wp2_with fail
  go_at_call 37
  refine (HLN.out _).mono ?_
  rintro e w2 ⟨hq, rfl⟩
  have s2 := S1.out.trans (hq.mono S1.out.size)
  have hr2 := HR1.out.below hq (Nat.le_refl _)
  have hrs2 := HRS1.out.below hq (Nat.le_refl _)
  clear x0 x1 x2 y0 y1
  have tk := C0.out.keep hq; have x0 := tk.cell (j := 0) rfl; have x1 := tk.cell (j := 1) rfl; have x2 := tk.cell (j := 2) rfl; have D0 := Lib.hid tk; clear tk
  have tk := C1.out.keep hq; have y0 := tk.cell (j := 0) rfl; have y1 := tk.cell (j := 1) rfl; have D1 := Lib.hid tk; clear tk
  have S2 := Lib.hid s2; clear s2
  have HR2 := Lib.hid hr2; clear hr2
  have HRS2 := Lib.hid hrs2; clear hrs2
  clear hq
  go_wp2_with fail
  go_at_call 46
  refine (HIC.out _).mono ?_
  rintro e w3 ⟨hq, rfl⟩
  have s3 := S2.out.trans (hq.mono S2.out.size)
  have hr3 := HR2.out.below hq (Nat.le_refl _)
  have hrs3 := HRS2.out.below hq (Nat.le_refl _)
  clear x0 x1 x2 y0 y1
  have tk := D0.out.keep hq; have x0 := tk.cell (j := 0) rfl; have x1 := tk.cell (j := 1) rfl; have x2 := tk.cell (j := 2) rfl; have E0 := Lib.hid tk; clear tk
  have tk := D1.out.keep hq; have y0 := tk.cell (j := 0) rfl; have y1 := tk.cell (j := 1) rfl; have E1 := Lib.hid tk; clear tk
  have S3 := Lib.hid s3; clear s3
  have HR3 := Lib.hid hr3; clear hr3
  have HRS3 := Lib.hid hrs3; clear hrs3
  clear hq
  go_wp2_with fail
  go_ret3
  exact ⟨S3.out, rfl⟩
set_option maxRecDepth 100000 in
set_option maxHeartbeats 3200000 in
theorem renc_ok (L : Int) (S s0 n0 : Nat) (a0 : Int) (es : List E3) (set : List Int) (v vs : Value) (w : World) (hr : Row w v es.length (ce es)) (hrs : Row w vs set.length (ci set)) (hchk : ∀ v vs w', Row w' v es.length (ce es) → Row w' vs set.length (ci set) → Calls Tryz.prog 36 #[.agg #[.int .i64 L, .int .i64 (S : Int), v], vs, .int .i64 (s0 : Int)] w' (Ret w' (.int .i64 0))) (hE : eck L S es = 0) (hset : SomeS S set) (hs0 : s0 < S) (hn0 : n0 ≤ 4096) (sA : small a0) :
    Calls Tryz.prog 16 #[.agg #[.int .i64 L, .int .i64 (S : Int), v], vs, .int .i64 (s0 : Int), .int .i64 (n0 : Int), .agg #[.bool (ineg a0), .string (imag a0)]] w (Ret w (strV (ure es (pin set) n0 (s0 : Int) a0))) := by
  have hz := eck_zero hE
  have hca := chk_all hz.1
  have hcl : clen (n0 : Int) = 0 := by unfold clen; rw [if_neg (by omega)]
  have hcn : cnB (ineg a0) (imag a0) = true := by rw [cnB_canon]
  obtain ⟨va, vc, rfl, hle⟩ := hr.slice
  obtain ⟨sa, sc, rfl, hsle⟩ := hrs.slice
  have sb0 := ((Below.refl w.heap.size w).alloc (Nat.le_refl _) (.cells #[.int .i64 L, .int .i64 (S : Int), .slice va es.length vc] 24)).alloc (by simp) (.cells #[.bool (ineg a0), .string (imag a0)] 33)
  have b0 := (Blk.new w 24 [.int .i64 L, .int .i64 (S : Int), .slice va es.length vc]).alloc (.cells #[.bool (ineg a0), .string (imag a0)] 33)
  have b1 := Blk.new (w.alloc (.cells #[.int .i64 L, .int .i64 (S : Int), .slice va es.length vc] 24)) 33 [.bool (ineg a0), .string (imag a0)]
  simp only [World.size_alloc] at b1
  have hr0 := hr.below sb0 (Nat.le_refl _)
  have hrs0 := hrs.below sb0 (Nat.le_refl _)
  have hck := hchk (.slice va es.length vc) (.slice sa set.length sc) _ hr0 hrs0
  have hln := fun w' => rclen_any (n0 : Int) w'
  rw [hcl] at hln
  have hic := fun w' => rcheck01_any (ineg a0) (imag a0) w' sA
  rw [hcn] at hic
  have hun := fun v' vs' w' h h2 => runr_any L S s0 n0 a0 es set v' vs' w' h h2 hset (by omega) (by omega) (chk_inS hz.1) (chk_lab hz.1 hz.2.1) hs0 hn0 sA
  obtain ⟨R, hR⟩ : ∃ R, R = ure es (pin set) n0 (s0 : Int) a0 := ⟨_, rfl⟩
  rw [← hR] at hun ⊢
  have hun2 := hun (.slice va es.length vc) (.slice sa set.length sc)
  obtain ⟨mm, hmm⟩ : ∃ mm, mm = es.length := ⟨_, rfl⟩
  obtain ⟨ms, hms⟩ : ∃ ms, ms = set.length := ⟨_, rfl⟩
  rw [← hmm] at sb0 b0 b1 hr0 hrs0 hck hle hun2
  rw [← hms] at hrs0 hck hsle hun2
  have HMM := Lib.hid hmm; clear hmm
  have HMS := Lib.hid hms; clear hms
  have HCK := Lib.hid hck; clear hck
  have HLN := Lib.hid hln; clear hln
  have HIC := Lib.hid hic; clear hic
  have HUN := Lib.hid hun2; clear hun2
  have S0 := Lib.hid sb0; clear sb0
  have B0 := Lib.hid b0; clear b0
  have B1 := Lib.hid b1; clear b1
  have HR := Lib.hid hr0; clear hr0
  have HRS := Lib.hid hrs0; clear hrs0
  clear hr hrs hchk hE hz hca hun hR hset sA hcl hcn
  go_enter Tryz.func16, Tryz.ntmps16
  rw [← HMM.out, ← HMS.out]
  go_wp2_with fail
  go_at_call 36
  refine HCK.out.mono ?_
  rintro e w1 ⟨hq, rfl⟩
  have s1 := S0.out.trans (hq.mono S0.out.size)
  have hr1 := HR.out.below hq (Nat.le_refl _)
  have hrs1 := HRS.out.below hq (Nat.le_refl _)
  have tk := B0.out.keep hq; have x0 := tk.cell (j := 0) rfl; have x1 := tk.cell (j := 1) rfl; have x2 := tk.cell (j := 2) rfl; have C0 := Lib.hid tk; clear tk
  have tk := B1.out.keep hq; have y0 := tk.cell (j := 0) rfl; have y1 := tk.cell (j := 1) rfl; have C1 := Lib.hid tk; clear tk
  have S1 := Lib.hid s1; clear s1
  have HR1 := Lib.hid hr1; clear hr1
  have HRS1 := Lib.hid hrs1; clear hrs1
  clear hq
  go_wp2_with fail
  go_at_call 37
  refine (HLN.out _).mono ?_
  rintro e w2 ⟨hq, rfl⟩
  have s2 := S1.out.trans (hq.mono S1.out.size)
  have hr2 := HR1.out.below hq (Nat.le_refl _)
  have hrs2 := HRS1.out.below hq (Nat.le_refl _)
  clear x0 x1 x2 y0 y1
  have tk := C0.out.keep hq; have x0 := tk.cell (j := 0) rfl; have x1 := tk.cell (j := 1) rfl; have x2 := tk.cell (j := 2) rfl; have D0 := Lib.hid tk; clear tk
  have tk := C1.out.keep hq; have y0 := tk.cell (j := 0) rfl; have y1 := tk.cell (j := 1) rfl; have D1 := Lib.hid tk; clear tk
  have S2 := Lib.hid s2; clear s2
  have HR2 := Lib.hid hr2; clear hr2
  have HRS2 := Lib.hid hrs2; clear hrs2
  clear hq
  go_wp2_with fail
  go_at_call 46
  refine (HIC.out _).mono ?_
  rintro e w3 ⟨hq, rfl⟩
  have s3 := S2.out.trans (hq.mono S2.out.size)
  have hr3 := HR2.out.below hq (Nat.le_refl _)
  have hrs3 := HRS2.out.below hq (Nat.le_refl _)
  clear x0 x1 x2 y0 y1
  have tk := D0.out.keep hq; have x0 := tk.cell (j := 0) rfl; have x1 := tk.cell (j := 1) rfl; have x2 := tk.cell (j := 2) rfl; have E0 := Lib.hid tk; clear tk
  have tk := D1.out.keep hq; have y0 := tk.cell (j := 0) rfl; have y1 := tk.cell (j := 1) rfl; have E1 := Lib.hid tk; clear tk
  have S3 := Lib.hid s3; clear s3
  have HR3 := Lib.hid hr3; clear hr3
  have HRS3 := Lib.hid hrs3; clear hrs3
  clear hq
  go_wp2_with fail
  go_at_call 47
  refine (HUN.out _ HR3.out HRS3.out).mono ?_
  rintro e w4 ⟨hq, rfl⟩
  have s4 := S3.out.trans (hq.mono S3.out.size)
  have S4 := Lib.hid s4; clear s4
  clear hq
  cases R with
  | none =>
    simp only [rUrV]
    go_wp2_with fail
    go_ret3
    exact ⟨S4.out, rfl⟩
  | some R =>
    simp only [rUrV]
    go_wp2_with fail
    go_ret3
    exact ⟨S4.out, rfl⟩
end Go.Proofs.YtalipfnbpnkgnaaGreat


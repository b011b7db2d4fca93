/- grooveref29.Principal. -/
import Derived.Test.YtalipfnbpnkgnaaRPrin
import Derived.Test.YtalipfnbpnkgnaaEPrc
namespace Go.Proofs.Ytalipfnbpnkgnaa
open Go.RowKit

theorem cmpZ_low (z : Int) : decide (cmpZ z 0 < 1) = decide (z < 1) := by
  unfold cmpZ
  split
  · have : z < 1 := by omega
    simp [this]
  · split
    · have : z < 1 := by omega
      simp [this]
    · have : ¬ z < 1 := by omega
      simp [this]
set_option maxRecDepth 100000 in
set_option maxHeartbeats 3200000 in
theorem rprc_chk (L S : Int) (es : List E3) (v : Value) (n : Int) (ng : Bool) (s : ByteArray) (w : World) (hr : Row w v es.length (ce es)) (hs : s.size ≤ 1099511627775) (hne : eck L S es ≠ 0) :
    Calls Try.prog 13 #[.agg #[.int .i64 L, .int .i64 S, v], .int .i64 n, .agg #[.bool ng, .string s]] w (POut [] (eck L S es) w) := by
  obtain ⟨E, hE⟩ : ∃ E, eck L S es = E := ⟨_, rfl⟩
  rw [hE] at hne ⊢
  obtain ⟨va, vc, rfl, hle⟩ := hr.slice
  obtain ⟨mm, hmm⟩ : ∃ mm, mm = es.length := ⟨_, rfl⟩
  have s0 := ((Below.refl w.heap.size w).alloc (Nat.le_refl _) (.cells #[.int .i64 L, .int .i64 S, .slice va es.length vc] 24)).alloc (by simp) (.cells #[.bool ng, .string s] 26)
  have b0 := (Blk.new w 24 [.int .i64 L, .int .i64 S, .slice va es.length vc]).alloc (.cells #[.bool ng, .string s] 26)
  have b1 := Blk.new (w.alloc (.cells #[.int .i64 L, .int .i64 S, .slice va es.length vc] 24)) 26 [.bool ng, .string s]
  simp only [World.size_alloc] at b1
  have hr0 := hr.below s0 (Nat.le_refl _)
  have hck := rcg_any L S es _ _ hr0
  rw [← hmm] at s0 b0 b1 hr0 hck hle
  have HMM := Lib.hid hmm; clear hmm
  rw [hE] at hck
  have HCK := Lib.hid hck; clear hck
  have HE := Lib.hid hE; clear hE
  have S0 := Lib.hid s0; clear s0
  have B0 := Lib.hid b0; clear b0
  have B1 := Lib.hid b1; clear b1
  have HR := Lib.hid hr0; clear hr0
  clear hr
  go_enter Try.func13, Try.ntmps13
  rw [← HMM.out]
  go_wp2_with fail
  go_at_call 36
  refine HCK.out.mono ?_
  rintro e w1 ⟨hq1, rfl⟩
  have s1 := S0.out.trans (hq1.mono S0.out.size)
  have hr1 := HR.out.below hq1 (Nat.le_refl _)
  have tk := B0.out.keep hq1; have x0 := tk.cell (j := 0) rfl; have x1 := tk.cell (j := 1) rfl; have x2 := tk.cell (j := 2) rfl; have C0 := Lib.hid tk; clear tk
  have tk := B1.out.keep hq1; have y0 := tk.cell (j := 0) rfl; have y1 := tk.cell (j := 1) rfl; have C1 := Lib.hid tk; clear tk
  have S1 := Lib.hid s1; clear s1
  have HR1 := Lib.hid hr1; clear hr1
  clear hq1
  have hb : (E != 0) = true := by simp; exact hne
  go_wp2_with fail
  go_ret2
  exact ⟨S1.out, _, rfl, Row.nil _⟩
set_option maxRecDepth 100000 in
set_option maxHeartbeats 3200000 in
theorem rprc_rng (L S : Int) (es : List E3) (v : Value) (n : Int) (ng : Bool) (s : ByteArray) (w : World) (hr : Row w v es.length (ce es)) (hs : s.size ≤ 1099511627775) (hE : eck L S es = 0) (hn : n < 0 ∨ 4096 < n) :
    Calls Try.prog 13 #[.agg #[.int .i64 L, .int .i64 S, v], .int .i64 n, .agg #[.bool ng, .string s]] w (POut [] 2 w) := by
  have hclv : clen n = 2 := by rw [clen, if_pos hn]
  obtain ⟨va, vc, rfl, hle⟩ := hr.slice
  obtain ⟨mm, hmm⟩ : ∃ mm, mm = es.length := ⟨_, rfl⟩
  have s0 := ((Below.refl w.heap.size w).alloc (Nat.le_refl _) (.cells #[.int .i64 L, .int .i64 S, .slice va es.length vc] 24)).alloc (by simp) (.cells #[.bool ng, .string s] 26)
  have b0 := (Blk.new w 24 [.int .i64 L, .int .i64 S, .slice va es.length vc]).alloc (.cells #[.bool ng, .string s] 26)
  have b1 := Blk.new (w.alloc (.cells #[.int .i64 L, .int .i64 S, .slice va es.length vc] 24)) 26 [.bool ng, .string s]
  simp only [World.size_alloc] at b1
  have hr0 := hr.below s0 (Nat.le_refl _)
  have hck := rcg_any L S es _ _ hr0
  rw [← hmm] at s0 b0 b1 hr0 hck hle
  have HMM := Lib.hid hmm; clear hmm
  rw [hE] at hck
  have HCK := Lib.hid hck; clear hck
  clear hE
  have S0 := Lib.hid s0; clear s0
  have B0 := Lib.hid b0; clear b0
  have B1 := Lib.hid b1; clear b1
  have HR := Lib.hid hr0; clear hr0
  clear hr
  go_enter Try.func13, Try.ntmps13
  rw [← HMM.out]
  go_wp2_with fail
  go_at_call 36
  refine HCK.out.mono ?_
  rintro e w1 ⟨hq1, rfl⟩
  have s1 := S0.out.trans (hq1.mono S0.out.size)
  have hr1 := HR.out.below hq1 (Nat.le_refl _)
  have tk := B0.out.keep hq1; have x0 := tk.cell (j := 0) rfl; have x1 := tk.cell (j := 1) rfl; have x2 := tk.cell (j := 2) rfl; have C0 := Lib.hid tk; clear tk
  have tk := B1.out.keep hq1; have y0 := tk.cell (j := 0) rfl; have y1 := tk.cell (j := 1) rfl; have C1 := Lib.hid tk; clear tk
  have S1 := Lib.hid s1; clear s1
  have HR1 := Lib.hid hr1; clear hr1
  clear hq1
  have hcl := fun w' => rclen_any n w'
  rw [hclv] at hcl
  have HCL := Lib.hid hcl; clear hcl
  go_wp2_with fail
  go_at_call 37
  refine (HCL.out _).mono ?_
  rintro e w2 ⟨hq2, rfl⟩
  have s2 := S1.out.trans (hq2.mono S1.out.size)
  have hr2 := HR1.out.below hq2 (Nat.le_refl _)
  have tk := C0.out.keep hq2; have u0 := tk.cell (j := 0) rfl; have u1 := tk.cell (j := 1) rfl; have u2 := tk.cell (j := 2) rfl; have D0 := Lib.hid tk; clear tk
  have tk := C1.out.keep hq2; have z0 := tk.cell (j := 0) rfl; have z1 := tk.cell (j := 1) rfl; have D1 := Lib.hid tk; clear tk
  have S2 := Lib.hid s2; clear s2
  have HR2 := Lib.hid hr2; clear hr2
  clear hq2 x0 x1 x2 y0 y1
  go_wp2_with fail
  go_ret2
  exact ⟨S2.out, _, rfl, Row.nil _⟩
set_option maxRecDepth 100000 in
set_option maxHeartbeats 3200000 in
theorem rprc_cn (L S : Int) (es : List E3) (v : Value) (n : Int) (ng : Bool) (s : ByteArray) (w : World) (hr : Row w v es.length (ce es)) (hs : s.size ≤ 1099511627775) (hE : eck L S es = 0) (hn0 : 0 ≤ n) (hn : n ≤ 4096) (hcn : cnB ng s = false) :
    Calls Try.prog 13 #[.agg #[.int .i64 L, .int .i64 S, v], .int .i64 n, .agg #[.bool ng, .string s]] w (POut [] 1 w) := by
  have hclv : clen n = 0 := by rw [clen, if_neg (by omega)]
  obtain ⟨va, vc, rfl, hle⟩ := hr.slice
  obtain ⟨mm, hmm⟩ : ∃ mm, mm = es.length := ⟨_, rfl⟩
  have s0 := ((Below.refl w.heap.size w).alloc (Nat.le_refl _) (.cells #[.int .i64 L, .int .i64 S, .slice va es.length vc] 24)).alloc (by simp) (.cells #[.bool ng, .string s] 26)
  have b0 := (Blk.new w 24 [.int .i64 L, .int .i64 S, .slice va es.length vc]).alloc (.cells #[.bool ng, .string s] 26)
  have b1 := Blk.new (w.alloc (.cells #[.int .i64 L, .int .i64 S, .slice va es.length vc] 24)) 26 [.bool ng, .string s]
  simp only [World.size_alloc] at b1
  have hr0 := hr.below s0 (Nat.le_refl _)
  have hck := rcg_any L S es _ _ hr0
  rw [← hmm] at s0 b0 b1 hr0 hck hle
  have HMM := Lib.hid hmm; clear hmm
  rw [hE] at hck
  have HCK := Lib.hid hck; clear hck
  clear hE
  have S0 := Lib.hid s0; clear s0
  have B0 := Lib.hid b0; clear b0
  have B1 := Lib.hid b1; clear b1
  have HR := Lib.hid hr0; clear hr0
  clear hr
  go_enter Try.func13, Try.ntmps13
  rw [← HMM.out]
  go_wp2_with fail
  go_at_call 36
  refine HCK.out.mono ?_
  rintro e w1 ⟨hq1, rfl⟩
  have s1 := S0.out.trans (hq1.mono S0.out.size)
  have hr1 := HR.out.below hq1 (Nat.le_refl _)
  have tk := B0.out.keep hq1; have x0 := tk.cell (j := 0) rfl; have x1 := tk.cell (j := 1) rfl; have x2 := tk.cell (j := 2) rfl; have C0 := Lib.hid tk; clear tk
  have tk := B1.out.keep hq1; have y0 := tk.cell (j := 0) rfl; have y1 := tk.cell (j := 1) rfl; have C1 := Lib.hid tk; clear tk
  have S1 := Lib.hid s1; clear s1
  have HR1 := Lib.hid hr1; clear hr1
  clear hq1
  have hcl := fun w' => rclen_any n w'
  rw [hclv] at hcl
  have HCL := Lib.hid hcl; clear hcl
  go_wp2_with fail
  go_at_call 37
  refine (HCL.out _).mono ?_
  rintro e w2 ⟨hq2, rfl⟩
  have s2 := S1.out.trans (hq2.mono S1.out.size)
  have hr2 := HR1.out.below hq2 (Nat.le_refl _)
  have tk := C0.out.keep hq2; have u0 := tk.cell (j := 0) rfl; have u1 := tk.cell (j := 1) rfl; have u2 := tk.cell (j := 2) rfl; have D0 := Lib.hid tk; clear tk
  have tk := C1.out.keep hq2; have z0 := tk.cell (j := 0) rfl; have z1 := tk.cell (j := 1) rfl; have D1 := Lib.hid tk; clear tk
  have S2 := Lib.hid s2; clear s2
  have HR2 := Lib.hid hr2; clear hr2
  clear hq2 x0 x1 x2 y0 y1
  have hic := fun w' => rcheck01_any ng s w' hs
  rw [hcn] at hic
  have HIC := Lib.hid hic; clear hic
  go_wp2_with fail
  go_at_call 38
  refine (HIC.out _).mono ?_
  rintro e w3 ⟨hq3, rfl⟩
  have s3 := S2.out.trans (hq3.mono S2.out.size)
  have hr3 := HR2.out.below hq3 (Nat.le_refl _)
  have tk := D0.out.keep hq3; have x0 := tk.cell (j := 0) rfl; have x1 := tk.cell (j := 1) rfl; have x2 := tk.cell (j := 2) rfl; have E0 := Lib.hid tk; clear tk
  have tk := D1.out.keep hq3; have y0 := tk.cell (j := 0) rfl; have y1 := tk.cell (j := 1) rfl; have E1 := Lib.hid tk; clear tk
  have S3 := Lib.hid s3; clear s3
  have HR3 := Lib.hid hr3; clear hr3
  clear hq3 u0 u1 u2 z0 z1
  have hb : (chkZ false != 0) = true := rfl
  go_wp2_with fail
  go_ret2
  exact ⟨S3.out, _, rfl, Row.nil _⟩
set_option maxRecDepth 100000 in
set_option maxHeartbeats 3200000 in
theorem rprc_low (L S : Int) (es : List E3) (v : Value) (n : Int) (ng : Bool) (s : ByteArray) (w : World) (hr : Row w v es.length (ce es)) (hs : s.size ≤ 1099511627775) (hE : eck L S es = 0) (hn0 : 0 ≤ n) (hn : n ≤ 4096) (hcn : cnB ng s = true) (hz : ival ng s < 1) :
    Calls Try.prog 13 #[.agg #[.int .i64 L, .int .i64 S, v], .int .i64 n, .agg #[.bool ng, .string s]] w (POut [] 2 w) := by
  have hclv : clen n = 0 := by rw [clen, if_neg (by omega)]
  obtain ⟨va, vc, rfl, hle⟩ := hr.slice
  obtain ⟨mm, hmm⟩ : ∃ mm, mm = es.length := ⟨_, rfl⟩
  have s0 := ((Below.refl w.heap.size w).alloc (Nat.le_refl _) (.cells #[.int .i64 L, .int .i64 S, .slice va es.length vc] 24)).alloc (by simp) (.cells #[.bool ng, .string s] 26)
  have b0 := (Blk.new w 24 [.int .i64 L, .int .i64 S, .slice va es.length vc]).alloc (.cells #[.bool ng, .string s] 26)
  have b1 := Blk.new (w.alloc (.cells #[.int .i64 L, .int .i64 S, .slice va es.length vc] 24)) 26 [.bool ng, .string s]
  simp only [World.size_alloc] at b1
  have hr0 := hr.below s0 (Nat.le_refl _)
  have hck := rcg_any L S es _ _ hr0
  rw [← hmm] at s0 b0 b1 hr0 hck hle
  have HMM := Lib.hid hmm; clear hmm
  rw [hE] at hck
  have HCK := Lib.hid hck; clear hck
  clear hE
  have S0 := Lib.hid s0; clear s0
  have B0 := Lib.hid b0; clear b0
  have B1 := Lib.hid b1; clear b1
  have HR := Lib.hid hr0; clear hr0
  clear hr
  go_enter Try.func13, Try.ntmps13
  rw [← HMM.out]
  go_wp2_with fail
  go_at_call 36
  refine HCK.out.mono ?_
  rintro e w1 ⟨hq1, rfl⟩
  have s1 := S0.out.trans (hq1.mono S0.out.size)
  have hr1 := HR.out.below hq1 (Nat.le_refl _)
  have tk := B0.out.keep hq1; have x0 := tk.cell (j := 0) rfl; have x1 := tk.cell (j := 1) rfl; have x2 := tk.cell (j := 2) rfl; have C0 := Lib.hid tk; clear tk
  have tk := B1.out.keep hq1; have y0 := tk.cell (j := 0) rfl; have y1 := tk.cell (j := 1) rfl; have C1 := Lib.hid tk; clear tk
  have S1 := Lib.hid s1; clear s1
  have HR1 := Lib.hid hr1; clear hr1
  clear hq1
  have hcl := fun w' => rclen_any n w'
  rw [hclv] at hcl
  have HCL := Lib.hid hcl; clear hcl
  go_wp2_with fail
  go_at_call 37
  refine (HCL.out _).mono ?_
  rintro e w2 ⟨hq2, rfl⟩
  have s2 := S1.out.trans (hq2.mono S1.out.size)
  have hr2 := HR1.out.below hq2 (Nat.le_refl _)
  have tk := C0.out.keep hq2; have u0 := tk.cell (j := 0) rfl; have u1 := tk.cell (j := 1) rfl; have u2 := tk.cell (j := 2) rfl; have D0 := Lib.hid tk; clear tk
  have tk := C1.out.keep hq2; have z0 := tk.cell (j := 0) rfl; have z1 := tk.cell (j := 1) rfl; have D1 := Lib.hid tk; clear tk
  have S2 := Lib.hid s2; clear s2
  have HR2 := Lib.hid hr2; clear hr2
  clear hq2 x0 x1 x2 y0 y1
  have hic := fun w' => rcheck01_any ng s w' hs
  rw [hcn] at hic
  have HIC := Lib.hid hic; clear hic
  go_wp2_with fail
  go_at_call 38
  refine (HIC.out _).mono ?_
  rintro e w3 ⟨hq3, rfl⟩
  have s3 := S2.out.trans (hq3.mono S2.out.size)
  have hr3 := HR2.out.below hq3 (Nat.le_refl _)
  have tk := D0.out.keep hq3; have x0 := tk.cell (j := 0) rfl; have x1 := tk.cell (j := 1) rfl; have x2 := tk.cell (j := 2) rfl; have E0 := Lib.hid tk; clear tk
  have tk := D1.out.keep hq3; have y0 := tk.cell (j := 0) rfl; have y1 := tk.cell (j := 1) rfl; have E1 := Lib.hid tk; clear tk
  have S3 := Lib.hid s3; clear s3
  have HR3 := Lib.hid hr3; clear hr3
  clear hq3 u0 u1 u2 z0 z1
  have hb : (chkZ true != 0) = false := rfl
  have hsm : small (ival ng s) := Nat.le_trans (imag_size_ival ng s) hs
  have hsg := fun w' => rsign_any (ival ng s) w' hsm
  obtain ⟨hcc1, hcc2⟩ := (cnB_iff ng s).1 hcn
  rw [hcc1, hcc2] at hsg
  obtain ⟨cz, hcz⟩ : ∃ cz, cz = cmpZ (ival ng s) 0 := ⟨_, rfl⟩
  simp only [← hcz] at hsg
  have hlt2 : decide (cz < 1) = true := by rw [hcz, cmpZ_low]; simpa using hz
  have HSG := Lib.hid hsg; clear hsg
  clear hcz hcc1 hcc2
  go_wp2_with fail
  go_at_call 39
  refine (HSG.out _).mono ?_
  rintro e w4 ⟨hq4, rfl⟩
  have s4 := S3.out.trans (hq4.mono S3.out.size)
  have hr4 := HR3.out.below hq4 (Nat.le_refl _)
  have tk := E0.out.keep hq4; have u0 := tk.cell (j := 0) rfl; have u1 := tk.cell (j := 1) rfl; have u2 := tk.cell (j := 2) rfl; have F0 := Lib.hid tk; clear tk
  have tk := E1.out.keep hq4; have z0 := tk.cell (j := 0) rfl; have z1 := tk.cell (j := 1) rfl; have F1 := Lib.hid tk; clear tk
  have S4 := Lib.hid s4; clear s4
  have HR4 := Lib.hid hr4; clear hr4
  clear hq4 x0 x1 x2 y0 y1
  go_wp2_with fail
  go_ret2
  exact ⟨S4.out, _, rfl, Row.nil _⟩
set_option maxRecDepth 100000 in
set_option maxHeartbeats 3200000 in
theorem rprc_none (L S : Int) (es : List E3) (v : Value) (n : Int) (ng : Bool) (s : ByteArray) (w : World) (hr : Row w v es.length (ce es)) (hs : s.size ≤ 1099511627775) (hE : eck L S es = 0) (hn0 : 0 ≤ n) (hn : n ≤ 4096) (hcn : cnB ng s = true) (hz : ¬ ival ng s < 1) (hp : prin es n.toNat (ival ng s) (uptoZ S.toNat) = []) :
    Calls Try.prog 13 #[.agg #[.int .i64 L, .int .i64 S, v], .int .i64 n, .agg #[.bool ng, .string s]] w (POut [] 15 w) := by
  obtain ⟨hchk, -, -⟩ := eck_zero hE
  have hca := chk_all hchk
  obtain ⟨S', rfl⟩ : ∃ S' : Nat, S = S' := ⟨S.toNat, by omega⟩
  obtain ⟨n', rfl⟩ : ∃ n' : Nat, n = n' := ⟨n.toNat, by omega⟩
  rw [Int.toNat_natCast, Int.toNat_natCast] at hp
  clear hca
  have hclv : clen (n' : Int) = 0 := by rw [clen, if_neg (by omega)]
  obtain ⟨va, vc, rfl, hle⟩ := hr.slice
  obtain ⟨mm, hmm⟩ : ∃ mm, mm = es.length := ⟨_, rfl⟩
  have s0 := ((Below.refl w.heap.size w).alloc (Nat.le_refl _) (.cells #[.int .i64 L, .int .i64 (S' : Int), .slice va es.length vc] 24)).alloc (by simp) (.cells #[.bool ng, .string s] 26)
  have b0 := (Blk.new w 24 [.int .i64 L, .int .i64 (S' : Int), .slice va es.length vc]).alloc (.cells #[.bool ng, .string s] 26)
  have b1 := Blk.new (w.alloc (.cells #[.int .i64 L, .int .i64 (S' : Int), .slice va es.length vc] 24)) 26 [.bool ng, .string s]
  simp only [World.size_alloc] at b1
  have hr0 := hr.below s0 (Nat.le_refl _)
  have hck := rcg_any L (S' : Int) es _ _ hr0
  rw [← hmm] at s0 b0 b1 hr0 hck hle
  have HMM := Lib.hid hmm; clear hmm
  rw [hE] at hck
  have HCK := Lib.hid hck; clear hck
  clear hE
  have S0 := Lib.hid s0; clear s0
  have B0 := Lib.hid b0; clear b0
  have B1 := Lib.hid b1; clear b1
  have HR := Lib.hid hr0; clear hr0
  have HCHK := Lib.hid hchk; clear hchk
  clear hr
  go_enter Try.func13, Try.ntmps13
  rw [← HMM.out]
  go_wp2_with fail
  go_at_call 36
  refine HCK.out.mono ?_
  rintro e w1 ⟨hq1, rfl⟩
  have s1 := S0.out.trans (hq1.mono S0.out.size)
  have hr1 := HR.out.below hq1 (Nat.le_refl _)
  have tk := B0.out.keep hq1; have x0 := tk.cell (j := 0) rfl; have x1 := tk.cell (j := 1) rfl; have x2 := tk.cell (j := 2) rfl; have C0 := Lib.hid tk; clear tk
  have tk := B1.out.keep hq1; have y0 := tk.cell (j := 0) rfl; have y1 := tk.cell (j := 1) rfl; have C1 := Lib.hid tk; clear tk
  have S1 := Lib.hid s1; clear s1
  have HR1 := Lib.hid hr1; clear hr1
  clear hq1
  have hcl := fun w' => rclen_any (n' : Int) w'
  rw [hclv] at hcl
  have HCL := Lib.hid hcl; clear hcl
  go_wp2_with fail
  go_at_call 37
  refine (HCL.out _).mono ?_
  rintro e w2 ⟨hq2, rfl⟩
  have s2 := S1.out.trans (hq2.mono S1.out.size)
  have hr2 := HR1.out.below hq2 (Nat.le_refl _)
  have tk := C0.out.keep hq2; have u0 := tk.cell (j := 0) rfl; have u1 := tk.cell (j := 1) rfl; have u2 := tk.cell (j := 2) rfl; have D0 := Lib.hid tk; clear tk
  have tk := C1.out.keep hq2; have z0 := tk.cell (j := 0) rfl; have z1 := tk.cell (j := 1) rfl; have D1 := Lib.hid tk; clear tk
  have S2 := Lib.hid s2; clear s2
  have HR2 := Lib.hid hr2; clear hr2
  clear hq2 x0 x1 x2 y0 y1
  have hic := fun w' => rcheck01_any ng s w' hs
  rw [hcn] at hic
  have HIC := Lib.hid hic; clear hic
  go_wp2_with fail
  go_at_call 38
  refine (HIC.out _).mono ?_
  rintro e w3 ⟨hq3, rfl⟩
  have s3 := S2.out.trans (hq3.mono S2.out.size)
  have hr3 := HR2.out.below hq3 (Nat.le_refl _)
  have tk := D0.out.keep hq3; have x0 := tk.cell (j := 0) rfl; have x1 := tk.cell (j := 1) rfl; have x2 := tk.cell (j := 2) rfl; have E0 := Lib.hid tk; clear tk
  have tk := D1.out.keep hq3; have y0 := tk.cell (j := 0) rfl; have y1 := tk.cell (j := 1) rfl; have E1 := Lib.hid tk; clear tk
  have S3 := Lib.hid s3; clear s3
  have HR3 := Lib.hid hr3; clear hr3
  clear hq3 u0 u1 u2 z0 z1
  have hb : (chkZ true != 0) = false := rfl
  have hsm : small (ival ng s) := Nat.le_trans (imag_size_ival ng s) hs
  have hsg := fun w' => rsign_any (ival ng s) w' hsm
  obtain ⟨hcc1, hcc2⟩ := (cnB_iff ng s).1 hcn
  rw [hcc1, hcc2] at hsg
  obtain ⟨cz, hcz⟩ : ∃ cz, cz = cmpZ (ival ng s) 0 := ⟨_, rfl⟩
  simp only [← hcz] at hsg
  have hlt2 : decide (cz < 1) = false := by rw [hcz, cmpZ_low]; simp; omega
  have HSG := Lib.hid hsg; clear hsg
  clear hcz hcc1 hcc2
  go_wp2_with fail
  go_at_call 39
  refine (HSG.out _).mono ?_
  rintro e w4 ⟨hq4, rfl⟩
  have s4 := S3.out.trans (hq4.mono S3.out.size)
  have hr4 := HR3.out.below hq4 (Nat.le_refl _)
  have tk := E0.out.keep hq4; have u0 := tk.cell (j := 0) rfl; have u1 := tk.cell (j := 1) rfl; have u2 := tk.cell (j := 2) rfl; have F0 := Lib.hid tk; clear tk
  have tk := E1.out.keep hq4; have z0 := tk.cell (j := 0) rfl; have z1 := tk.cell (j := 1) rfl; have F1 := Lib.hid tk; clear tk
  have S4 := Lib.hid s4; clear s4
  have HR4 := Lib.hid hr4; clear hr4
  clear hq4 x0 x1 x2 y0 y1
  have hchk := HCHK.out
  have hpr := fun w' h => rprincipal_any L (ival ng s) S' n' es (.slice va mm vc) w' h hchk (by omega) hsm
  rw [← HMM.out] at hpr
  obtain ⟨hc1, hc2⟩ := (cnB_iff ng s).1 hcn
  rw [hc1, hc2] at hpr
  obtain ⟨l, hl⟩ : ∃ l, l = prin es n' (ival ng s) (uptoZ S') := ⟨_, rfl⟩
  rw [← hl] at hpr hp
  have HPR := Lib.hid hpr; clear hpr
  have HL := Lib.hid hl; clear hl
  clear hcn hc1 hc2 hz hchk
  go_wp2_with fail
  go_at_call 40
  refine (HPR.out _ HR4.out).mono ?_
  rintro e w6 ⟨hq6, vl, rfl, hrl⟩
  obtain ⟨la, lc, rfl, -⟩ := hrl.slice
  have s6 := S4.out.trans (hq6.mono S4.out.size)
  have S6 := Lib.hid s6; clear s6
  clear hq6
  have hb2 : ((l.length : Int) == 0) = true := by rw [hp]; rfl
  clear hp
  go_wp2_with fail
  go_ret2
  exact ⟨S6.out, _, rfl, Row.nil _⟩
set_option maxRecDepth 100000 in
set_option maxHeartbeats 3200000 in
theorem rprc_some (L S : Int) (es : List E3) (v : Value) (n : Int) (ng : Bool) (s : ByteArray) (w : World) (hr : Row w v es.length (ce es)) (hs : s.size ≤ 1099511627775) (hE : eck L S es = 0) (hn0 : 0 ≤ n) (hn : n ≤ 4096) (hcn : cnB ng s = true) (hz : ¬ ival ng s < 1) (hp : ¬ prin es n.toNat (ival ng s) (uptoZ S.toNat) = []) :
    Calls Try.prog 13 #[.agg #[.int .i64 L, .int .i64 S, v], .int .i64 n, .agg #[.bool ng, .string s]] w (POut (prin es n.toNat (ival ng s) (uptoZ S.toNat)) 0 w) := by
  obtain ⟨hchk, -, -⟩ := eck_zero hE
  have hca := chk_all hchk
  obtain ⟨S', rfl⟩ : ∃ S' : Nat, S = S' := ⟨S.toNat, by omega⟩
  obtain ⟨n', rfl⟩ : ∃ n' : Nat, n = n' := ⟨n.toNat, by omega⟩
  rw [Int.toNat_natCast, Int.toNat_natCast] at hp ⊢
  clear hca
  have hclv : clen (n' : Int) = 0 := by rw [clen, if_neg (by omega)]
  obtain ⟨va, vc, rfl, hle⟩ := hr.slice
  obtain ⟨mm, hmm⟩ : ∃ mm, mm = es.length := ⟨_, rfl⟩
  have s0 := ((Below.refl w.heap.size w).alloc (Nat.le_refl _) (.cells #[.int .i64 L, .int .i64 (S' : Int), .slice va es.length vc] 24)).alloc (by simp) (.cells #[.bool ng, .string s] 26)
  have b0 := (Blk.new w 24 [.int .i64 L, .int .i64 (S' : Int), .slice va es.length vc]).alloc (.cells #[.bool ng, .string s] 26)
  have b1 := Blk.new (w.alloc (.cells #[.int .i64 L, .int .i64 (S' : Int), .slice va es.length vc] 24)) 26 [.bool ng, .string s]
  simp only [World.size_alloc] at b1
  have hr0 := hr.below s0 (Nat.le_refl _)
  have hck := rcg_any L (S' : Int) es _ _ hr0
  rw [← hmm] at s0 b0 b1 hr0 hck hle
  have HMM := Lib.hid hmm; clear hmm
  rw [hE] at hck
  have HCK := Lib.hid hck; clear hck
  clear hE
  have S0 := Lib.hid s0; clear s0
  have B0 := Lib.hid b0; clear b0
  have B1 := Lib.hid b1; clear b1
  have HR := Lib.hid hr0; clear hr0
  have HCHK := Lib.hid hchk; clear hchk
  clear hr
  go_enter Try.func13, Try.ntmps13
  rw [← HMM.out]
  go_wp2_with fail
  go_at_call 36
  refine HCK.out.mono ?_
  rintro e w1 ⟨hq1, rfl⟩
  have s1 := S0.out.trans (hq1.mono S0.out.size)
  have hr1 := HR.out.below hq1 (Nat.le_refl _)
  have tk := B0.out.keep hq1; have x0 := tk.cell (j := 0) rfl; have x1 := tk.cell (j := 1) rfl; have x2 := tk.cell (j := 2) rfl; have C0 := Lib.hid tk; clear tk
  have tk := B1.out.keep hq1; have y0 := tk.cell (j := 0) rfl; have y1 := tk.cell (j := 1) rfl; have C1 := Lib.hid tk; clear tk
  have S1 := Lib.hid s1; clear s1
  have HR1 := Lib.hid hr1; clear hr1
  clear hq1
  have hcl := fun w' => rclen_any (n' : Int) w'
  rw [hclv] at hcl
  have HCL := Lib.hid hcl; clear hcl
  go_wp2_with fail
  go_at_call 37
  refine (HCL.out _).mono ?_
  rintro e w2 ⟨hq2, rfl⟩
  have s2 := S1.out.trans (hq2.mono S1.out.size)
  have hr2 := HR1.out.below hq2 (Nat.le_refl _)
  have tk := C0.out.keep hq2; have u0 := tk.cell (j := 0) rfl; have u1 := tk.cell (j := 1) rfl; have u2 := tk.cell (j := 2) rfl; have D0 := Lib.hid tk; clear tk
  have tk := C1.out.keep hq2; have z0 := tk.cell (j := 0) rfl; have z1 := tk.cell (j := 1) rfl; have D1 := Lib.hid tk; clear tk
  have S2 := Lib.hid s2; clear s2
  have HR2 := Lib.hid hr2; clear hr2
  clear hq2 x0 x1 x2 y0 y1
  have hic := fun w' => rcheck01_any ng s w' hs
  rw [hcn] at hic
  have HIC := Lib.hid hic; clear hic
  go_wp2_with fail
  go_at_call 38
  refine (HIC.out _).mono ?_
  rintro e w3 ⟨hq3, rfl⟩
  have s3 := S2.out.trans (hq3.mono S2.out.size)
  have hr3 := HR2.out.below hq3 (Nat.le_refl _)
  have tk := D0.out.keep hq3; have x0 := tk.cell (j := 0) rfl; have x1 := tk.cell (j := 1) rfl; have x2 := tk.cell (j := 2) rfl; have E0 := Lib.hid tk; clear tk
  have tk := D1.out.keep hq3; have y0 := tk.cell (j := 0) rfl; have y1 := tk.cell (j := 1) rfl; have E1 := Lib.hid tk; clear tk
  have S3 := Lib.hid s3; clear s3
  have HR3 := Lib.hid hr3; clear hr3
  clear hq3 u0 u1 u2 z0 z1
  have hb : (chkZ true != 0) = false := rfl
  have hsm : small (ival ng s) := Nat.le_trans (imag_size_ival ng s) hs
  have hsg := fun w' => rsign_any (ival ng s) w' hsm
  obtain ⟨hcc1, hcc2⟩ := (cnB_iff ng s).1 hcn
  rw [hcc1, hcc2] at hsg
  obtain ⟨cz, hcz⟩ : ∃ cz, cz = cmpZ (ival ng s) 0 := ⟨_, rfl⟩
  simp only [← hcz] at hsg
  have hlt2 : decide (cz < 1) = false := by rw [hcz, cmpZ_low]; simp; omega
  have HSG := Lib.hid hsg; clear hsg
  clear hcz hcc1 hcc2
  go_wp2_with fail
  go_at_call 39
  refine (HSG.out _).mono ?_
  rintro e w4 ⟨hq4, rfl⟩
  have s4 := S3.out.trans (hq4.mono S3.out.size)
  have hr4 := HR3.out.below hq4 (Nat.le_refl _)
  have tk := E0.out.keep hq4; have u0 := tk.cell (j := 0) rfl; have u1 := tk.cell (j := 1) rfl; have u2 := tk.cell (j := 2) rfl; have F0 := Lib.hid tk; clear tk
  have tk := E1.out.keep hq4; have z0 := tk.cell (j := 0) rfl; have z1 := tk.cell (j := 1) rfl; have F1 := Lib.hid tk; clear tk
  have S4 := Lib.hid s4; clear s4
  have HR4 := Lib.hid hr4; clear hr4
  clear hq4 x0 x1 x2 y0 y1
  have hchk := HCHK.out
  have hpr := fun w' h => rprincipal_any L (ival ng s) S' n' es (.slice va mm vc) w' h hchk (by omega) hsm
  rw [← HMM.out] at hpr
  obtain ⟨hc1, hc2⟩ := (cnB_iff ng s).1 hcn
  rw [hc1, hc2] at hpr
  obtain ⟨l, hl⟩ : ∃ l, l = prin es n' (ival ng s) (uptoZ S') := ⟨_, rfl⟩
  rw [← hl] at hpr hp ⊢
  have HPR := Lib.hid hpr; clear hpr
  have HL := Lib.hid hl; clear hl
  clear hcn hc1 hc2 hz hchk
  go_wp2_with fail
  go_at_call 40
  refine (HPR.out _ HR4.out).mono ?_
  rintro e w6 ⟨hq6, vl, rfl, hrl⟩
  obtain ⟨la, lc, rfl, -⟩ := hrl.slice
  have s6 := S4.out.trans (hq6.mono S4.out.size)
  have S6 := Lib.hid s6; clear s6
  clear hq6
  have hb2 : ((l.length : Int) == 0) = false := by
    have := List.length_pos_iff.2 hp
    simp; omega
  clear hp
  have HRL := Lib.hid hrl; clear hrl
  go_wp2_with fail
  go_ret2
  exact ⟨S6.out, _, rfl, by rw [← HL.out]; exact HRL.out⟩
theorem rprc_any (L S : Int) (es : List E3) (v : Value) (n : Int) (ng : Bool) (s : ByteArray) (w : World) (hr : Row w v es.length (ce es)) (hs : s.size ≤ 1099511627775) :
    Calls Try.prog 13 #[.agg #[.int .i64 L, .int .i64 S, v], .int .i64 n, .agg #[.bool ng, .string s]] w (POut (prcP L S es n ng s).1 (prcP L S es n ng s).2 w) := by
  unfold prcP
  by_cases hE : eck L S es = 0
  · rw [if_neg (by simpa using hE)]
    by_cases hn : n < 0 ∨ 4096 < n
    · rw [if_pos hn]; exact rprc_rng L S es v n ng s w hr hs hE hn
    · rw [if_neg hn]
      cases hcn : cnB ng s with
      | false => rw [if_pos rfl]; exact rprc_cn L S es v n ng s w hr hs hE (by omega) (by omega) hcn
      | true =>
        rw [if_neg (by decide)]
        by_cases hz : ival ng s < 1
        · rw [if_pos hz]; exact rprc_low L S es v n ng s w hr hs hE (by omega) (by omega) hcn hz
        · rw [if_neg hz]
          by_cases hp : prin es n.toNat (ival ng s) (uptoZ S.toNat) = []
          · rw [if_pos hp]; exact rprc_none L S es v n ng s w hr hs hE (by omega) (by omega) hcn hz hp
          · rw [if_neg hp]; exact rprc_some L S es v n ng s w hr hs hE (by omega) (by omega) hcn hz hp
  · rw [if_pos (by simpa using hE)]
    exact rprc_chk L S es v n ng s w hr hs hE
end Go.Proofs.Ytalipfnbpnkgnaa

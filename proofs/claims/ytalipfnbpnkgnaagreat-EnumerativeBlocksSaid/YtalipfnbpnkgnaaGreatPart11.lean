/- Contracts and plain laws of several functions, one after the other: EBad, SBad, Both. -/
import Derived.Test.YtalipfnbpnkgnaaGreatEStr
import Derived.Test.YtalipfnbpnkgnaaGreatEDec
import Derived.Test.YtalipfnbpnkgnaaGreatEEnc
import Derived.Test.YtalipfnbpnkgnaaGreatPart1
import Derived.Test.YtalipfnbpnkgnaaGreatRStr
import Derived.Test.YtalipfnbpnkgnaaGreatEDecN
import Derived.Test.YtalipfnbpnkgnaaGreatRDec
/- enumerative.Encode, Decode and Stream where their checks refuse (printed by gen_ebad.py). -/
namespace Go.Proofs.YtalipfnbpnkgnaaGreat
open Go.RowKit

set_option maxRecDepth 100000 in
set_option maxHeartbeats 3200000 in
theorem eenc_bad (L S s n e0 : Int) (es : List E3) (set : List Int) (ng : Bool) (sg : ByteArray) (v vs : Value) (w : World) (hr : Row w v es.length (ce es)) (hrs : Row w vs set.length (ci set)) (hchk : ∀ v vs w', Row w' v es.length (ce es) → Row w' vs set.length (ci set) → Calls Tryz.prog 31 #[.agg #[.int .i64 L, .int .i64 S, v], vs, .int .i64 s, .int .i64 n] w' (Ret w' (.int .i64 e0))) (he : e0 ≠ 0) :
    Calls Tryz.prog 15 #[.agg #[.int .i64 L, .int .i64 S, v], vs, .int .i64 s, .int .i64 n, .agg #[.bool ng, .string sg]] w (Ret w (.tuple #[.string ⟨#[]⟩, .int .i64 0, .int .i64 e0])) := by
  obtain ⟨va, vc, rfl, hle⟩ := hr.slice
  obtain ⟨sa, sc, rfl, hsle⟩ := hrs.slice
  have sb0 := ((Below.refl w.heap.size w).alloc (Nat.le_refl _) (.cells #[.int .i64 L, .int .i64 S, .slice va es.length vc] 24)).alloc (by simp) (.cells #[.bool ng, .string sg] 33)
  have b0 := (Blk.new w 24 [.int .i64 L, .int .i64 S, .slice va es.length vc]).alloc (.cells #[.bool ng, .string sg] 33)
  have b1 := Blk.new (w.alloc (.cells #[.int .i64 L, .int .i64 S, .slice va es.length vc] 24)) 33 [.bool ng, .string sg]
  simp only [World.size_alloc] at b1
  have hr0 := hr.below sb0 (Nat.le_refl _)
  have hrs0 := hrs.below sb0 (Nat.le_refl _)
  have hck := hchk (.slice va es.length vc) (.slice sa set.length sc) _ hr0 hrs0
  have hb : (e0 != 0) = true := by simpa using he
  obtain ⟨mm, hmm⟩ : ∃ mm, mm = es.length := ⟨_, rfl⟩
  obtain ⟨ms, hms⟩ : ∃ ms, ms = set.length := ⟨_, rfl⟩
  have hne : ¬ w.heap.size + 1 = w.heap.size := by omega
  rw [← hmm] at sb0 b0 b1 hr0 hrs0 hck hle
  rw [← hms] at hrs0 hck hsle
  have HMM := Lib.hid hmm; clear hmm
  have HMS := Lib.hid hms; clear hms
  have HCK := Lib.hid hck; clear hck
  have S0 := Lib.hid sb0; clear sb0
  have B0 := Lib.hid b0; clear b0
  have B1 := Lib.hid b1; clear b1
  clear hr hrs hchk hr0 hrs0 
  go_enter Tryz.func15, Tryz.ntmps15
  rw [← HMM.out, ← HMS.out]
  go_wp2_with fail
  go_at_call 31
  refine HCK.out.mono ?_
  rintro e w1 ⟨hq, rfl⟩
  have s1 := S0.out.trans (hq.mono S0.out.size)
  have tk := B0.out.keep hq; have x0 := tk.cell (j := 0) rfl; have x1 := tk.cell (j := 1) rfl; have x2 := tk.cell (j := 2) rfl; have C0 := Lib.hid tk; clear tk
  have tk := B1.out.keep hq
  have y0 := tk.cell (j := 0) rfl
  have y1 := tk.cell (j := 1) rfl
  have f0 := tk.frozen 0
  have f1 := tk.frozen 1
  have C1 := Lib.hid tk
  clear tk
  have S1 := Lib.hid s1; clear s1
  clear hq
  go_wp2_with fail
  go_ret3
  exact ⟨S1.out, rfl⟩
set_option maxRecDepth 100000 in
set_option maxHeartbeats 3200000 in
theorem eenc_arg (L S s n : Int) (es : List E3) (set : List Int) (ng : Bool) (sg : ByteArray) (v vs : Value) (w : World) (hr : Row w v es.length (ce es)) (hrs : Row w vs set.length (ci set)) (hchk : ∀ v vs w', Row w' v es.length (ce es) → Row w' vs set.length (ci set) → Calls Tryz.prog 31 #[.agg #[.int .i64 L, .int .i64 S, v], vs, .int .i64 s, .int .i64 n] w' (Ret w' (.int .i64 0))) (hsz : sg.size ≤ 1099511627775) (hcn : cnB ng sg = false) :
    Calls Tryz.prog 15 #[.agg #[.int .i64 L, .int .i64 S, v], vs, .int .i64 s, .int .i64 n, .agg #[.bool ng, .string sg]] w (Ret w (.tuple #[.string ⟨#[]⟩, .int .i64 0, .int .i64 1])) := by
  obtain ⟨va, vc, rfl, hle⟩ := hr.slice
  obtain ⟨sa, sc, rfl, hsle⟩ := hrs.slice
  have sb0 := ((Below.refl w.heap.size w).alloc (Nat.le_refl _) (.cells #[.int .i64 L, .int .i64 S, .slice va es.length vc] 24)).alloc (by simp) (.cells #[.bool ng, .string sg] 33)
  have b0 := (Blk.new w 24 [.int .i64 L, .int .i64 S, .slice va es.length vc]).alloc (.cells #[.bool ng, .string sg] 33)
  have b1 := Blk.new (w.alloc (.cells #[.int .i64 L, .int .i64 S, .slice va es.length vc] 24)) 33 [.bool ng, .string sg]
  simp only [World.size_alloc] at b1
  have hr0 := hr.below sb0 (Nat.le_refl _)
  have hrs0 := hrs.below sb0 (Nat.le_refl _)
  have hck := hchk (.slice va es.length vc) (.slice sa set.length sc) _ hr0 hrs0
  have hic := fun w' => icheck_any ng sg w' hsz
  rw [hcn] at hic
  obtain ⟨mm, hmm⟩ : ∃ mm, mm = es.length := ⟨_, rfl⟩
  obtain ⟨ms, hms⟩ : ∃ ms, ms = set.length := ⟨_, rfl⟩
  have hne : ¬ w.heap.size + 1 = w.heap.size := by omega
  rw [← hmm] at sb0 b0 b1 hr0 hrs0 hck hle
  rw [← hms] at hrs0 hck hsle
  have HMM := Lib.hid hmm; clear hmm
  have HMS := Lib.hid hms; clear hms
  have HCK := Lib.hid hck; clear hck
  have HIC := Lib.hid hic; clear hic
  have S0 := Lib.hid sb0; clear sb0
  have B0 := Lib.hid b0; clear b0
  have B1 := Lib.hid b1; clear b1
  clear hr hrs hchk hr0 hrs0 
  go_enter Tryz.func15, Tryz.ntmps15
  rw [← HMM.out, ← HMS.out]
  go_wp2_with fail
  go_at_call 31
  refine HCK.out.mono ?_
  rintro e w1 ⟨hq, rfl⟩
  have s1 := S0.out.trans (hq.mono S0.out.size)
  have tk := B0.out.keep hq; have x0 := tk.cell (j := 0) rfl; have x1 := tk.cell (j := 1) rfl; have x2 := tk.cell (j := 2) rfl; have C0 := Lib.hid tk; clear tk
  have tk := B1.out.keep hq
  have y0 := tk.cell (j := 0) rfl
  have y1 := tk.cell (j := 1) rfl
  have f0 := tk.frozen 0
  have f1 := tk.frozen 1
  have C1 := Lib.hid tk
  clear tk
  have S1 := Lib.hid s1; clear s1
  clear hq
  go_wp2_with fail
  go_at_call 41
  refine (HIC.out _).mono ?_
  rintro e w2 ⟨hq, rfl⟩
  have s2 := S1.out.trans (hq.mono S1.out.size)
  clear x0 x1 x2 y0 y1 f0 f1
  have tk := C0.out.keep hq; have x0 := tk.cell (j := 0) rfl; have x1 := tk.cell (j := 1) rfl; have x2 := tk.cell (j := 2) rfl; have D0 := Lib.hid tk; clear tk
  have tk := C1.out.keep hq
  have y0 := tk.cell (j := 0) rfl
  have y1 := tk.cell (j := 1) rfl
  have f0 := tk.frozen 0
  have f1 := tk.frozen 1
  have D1 := Lib.hid tk
  clear tk
  have S2 := Lib.hid s2; clear s2
  clear hq
  go_wp2_with fail
  go_ret3
  exact ⟨S2.out, rfl⟩
set_option maxRecDepth 100000 in
set_option maxHeartbeats 3200000 in
theorem edec_bad (L S s n e0 : Int) (es : List E3) (set : List Int) (wd : ByteArray) (v vs : Value) (w : World) (hr : Row w v es.length (ce es)) (hrs : Row w vs set.length (ci set)) (hchk : ∀ v vs w', Row w' v es.length (ce es) → Row w' vs set.length (ci set) → Calls Tryz.prog 31 #[.agg #[.int .i64 L, .int .i64 S, v], vs, .int .i64 s, .int .i64 n] w' (Ret w' (.int .i64 e0))) (he : e0 ≠ 0) :
    Calls Tryz.prog 11 #[.agg #[.int .i64 L, .int .i64 S, v], vs, .int .i64 s, .int .i64 n, .string wd] w (Ret w (.tuple #[IntV 0, .int .i64 0, .int .i64 e0])) := by
  obtain ⟨va, vc, rfl, hle⟩ := hr.slice
  obtain ⟨sa, sc, rfl, hsle⟩ := hrs.slice
  have sb0 := ((Below.refl w.heap.size w).alloc (Nat.le_refl _) (.cells #[.int .i64 L, .int .i64 S, .slice va es.length vc] 24)).alloc (by simp) (.cells #[.bool false, .string ⟨#[]⟩] 33)
  have b0 := (Blk.new w 24 [.int .i64 L, .int .i64 S, .slice va es.length vc]).alloc (.cells #[.bool false, .string ⟨#[]⟩] 33)
  have b1 := Blk.new (w.alloc (.cells #[.int .i64 L, .int .i64 S, .slice va es.length vc] 24)) 33 [.bool false, .string ⟨#[]⟩]
  simp only [World.size_alloc] at b1
  have hr0 := hr.below sb0 (Nat.le_refl _)
  have hrs0 := hrs.below sb0 (Nat.le_refl _)
  have hck := hchk (.slice va es.length vc) (.slice sa set.length sc) _ hr0 hrs0
  have hb : (e0 != 0) = true := by simpa using he
  obtain ⟨mm, hmm⟩ : ∃ mm, mm = es.length := ⟨_, rfl⟩
  obtain ⟨ms, hms⟩ : ∃ ms, ms = set.length := ⟨_, rfl⟩
  have hne : ¬ w.heap.size + 1 = w.heap.size := by omega
  rw [← hmm] at sb0 b0 b1 hr0 hrs0 hck hle
  rw [← hms] at hrs0 hck hsle
  have HMM := Lib.hid hmm; clear hmm
  have HMS := Lib.hid hms; clear hms
  have HCK := Lib.hid hck; clear hck
  have S0 := Lib.hid sb0; clear sb0
  have B0 := Lib.hid b0; clear b0
  have B1 := Lib.hid b1; clear b1
  clear hr hrs hchk hr0 hrs0 
  go_enter Tryz.func11, Tryz.ntmps11
  rw [← HMM.out, ← HMS.out]
  go_wp2_with fail
  go_at_call 31
  refine HCK.out.mono ?_
  rintro e w1 ⟨hq, rfl⟩
  have s1 := S0.out.trans (hq.mono S0.out.size)
  have tk := B0.out.keep hq; have x0 := tk.cell (j := 0) rfl; have x1 := tk.cell (j := 1) rfl; have x2 := tk.cell (j := 2) rfl; have C0 := Lib.hid tk; clear tk
  have tk := B1.out.keep hq
  have y0 := tk.cell (j := 0) rfl
  have y1 := tk.cell (j := 1) rfl
  have f0 := tk.frozen 0
  have f1 := tk.frozen 1
  have C1 := Lib.hid tk
  clear tk
  have S1 := Lib.hid s1; clear s1
  clear hq
  go_wp2_with fail
  refine bodyPost_ret (v := .tuple #[IntV 0, .int .i64 0, .int .i64 e0]) ?_ rfl ?_
  · simp [results, Tryz.results11, go_sem, y0, y1, hne, IntV, ineg_zero, imag_zero]
  · exact ⟨(S1.out.setCell (p := ⟨w.heap.size + 1, 0, none⟩) (Nat.le_succ _) _).setCell (p := ⟨w.heap.size + 1, 1, none⟩) (Nat.le_succ _) _, rfl⟩
set_option maxRecDepth 100000 in
set_option maxHeartbeats 3200000 in
theorem edec_word (L S s n : Int) (es : List E3) (set : List Int) (wd : ByteArray) (v vs : Value) (w : World) (hr : Row w v es.length (ce es)) (hrs : Row w vs set.length (ci set)) (hchk : ∀ v vs w', Row w' v es.length (ce es) → Row w' vs set.length (ci set) → Calls Tryz.prog 31 #[.agg #[.int .i64 L, .int .i64 S, v], vs, .int .i64 s, .int .i64 n] w' (Ret w' (.int .i64 0))) (hsz : wd.size ≤ 9223372036854775807) (hw : ckw L wd.data.toList ≠ 0) :
    Calls Tryz.prog 11 #[.agg #[.int .i64 L, .int .i64 S, v], vs, .int .i64 s, .int .i64 n, .string wd] w (Ret w (.tuple #[IntV 0, .int .i64 0, .int .i64 (ckw L wd.data.toList)])) := by
  obtain ⟨va, vc, rfl, hle⟩ := hr.slice
  obtain ⟨sa, sc, rfl, hsle⟩ := hrs.slice
  have sb0 := ((Below.refl w.heap.size w).alloc (Nat.le_refl _) (.cells #[.int .i64 L, .int .i64 S, .slice va es.length vc] 24)).alloc (by simp) (.cells #[.bool false, .string ⟨#[]⟩] 33)
  have b0 := (Blk.new w 24 [.int .i64 L, .int .i64 S, .slice va es.length vc]).alloc (.cells #[.bool false, .string ⟨#[]⟩] 33)
  have b1 := Blk.new (w.alloc (.cells #[.int .i64 L, .int .i64 S, .slice va es.length vc] 24)) 33 [.bool false, .string ⟨#[]⟩]
  simp only [World.size_alloc] at b1
  have hr0 := hr.below sb0 (Nat.le_refl _)
  have hrs0 := hrs.below sb0 (Nat.le_refl _)
  have hck := hchk (.slice va es.length vc) (.slice sa set.length sc) _ hr0 hrs0
  have hkw := fun w' => eckw_any L S va es.length vc wd w' hsz
  obtain ⟨z, hz⟩ : ∃ z, z = ckw L wd.data.toList := ⟨_, rfl⟩
  rw [← hz] at hkw hw ⊢
  clear hz
  have hb : (z != 0) = true := by simpa using hw
  obtain ⟨mm, hmm⟩ : ∃ mm, mm = es.length := ⟨_, rfl⟩
  obtain ⟨ms, hms⟩ : ∃ ms, ms = set.length := ⟨_, rfl⟩
  have hne : ¬ w.heap.size + 1 = w.heap.size := by omega
  rw [← hmm] at sb0 b0 b1 hr0 hrs0 hck hle hkw
  rw [← hms] at hrs0 hck hsle
  have HMM := Lib.hid hmm; clear hmm
  have HMS := Lib.hid hms; clear hms
  have HCK := Lib.hid hck; clear hck
  have HKW := Lib.hid hkw; clear hkw
  have S0 := Lib.hid sb0; clear sb0
  have B0 := Lib.hid b0; clear b0
  have B1 := Lib.hid b1; clear b1
  clear hr hrs hchk hr0 hrs0 
  go_enter Tryz.func11, Tryz.ntmps11
  rw [← HMM.out, ← HMS.out]
  go_wp2_with fail
  go_at_call 31
  refine HCK.out.mono ?_
  rintro e w1 ⟨hq, rfl⟩
  have s1 := S0.out.trans (hq.mono S0.out.size)
  have tk := B0.out.keep hq; have x0 := tk.cell (j := 0) rfl; have x1 := tk.cell (j := 1) rfl; have x2 := tk.cell (j := 2) rfl; have C0 := Lib.hid tk; clear tk
  have tk := B1.out.keep hq
  have y0 := tk.cell (j := 0) rfl
  have y1 := tk.cell (j := 1) rfl
  have f0 := tk.frozen 0
  have f1 := tk.frozen 1
  have C1 := Lib.hid tk
  clear tk
  have S1 := Lib.hid s1; clear s1
  clear hq
  go_wp2_with fail
  go_at_call 32
  refine (HKW.out _).mono ?_
  rintro e w2 ⟨hq, rfl⟩
  have s2 := S1.out.trans (hq.mono S1.out.size)
  clear x0 x1 x2 y0 y1 f0 f1
  have tk := C0.out.keep hq; have x0 := tk.cell (j := 0) rfl; have x1 := tk.cell (j := 1) rfl; have x2 := tk.cell (j := 2) rfl; have D0 := Lib.hid tk; clear tk
  have tk := C1.out.keep hq
  have y0 := tk.cell (j := 0) rfl
  have y1 := tk.cell (j := 1) rfl
  have f0 := tk.frozen 0
  have f1 := tk.frozen 1
  have D1 := Lib.hid tk
  clear tk
  have S2 := Lib.hid s2; clear s2
  clear hq
  go_wp2_with fail
  refine bodyPost_ret (v := .tuple #[IntV 0, .int .i64 0, .int .i64 z]) ?_ rfl ?_
  · simp [results, Tryz.results11, go_sem, y0, y1, hne, IntV, ineg_zero, imag_zero]
  · exact ⟨(S2.out.setCell (p := ⟨w.heap.size + 1, 0, none⟩) (Nat.le_succ _) _).setCell (p := ⟨w.heap.size + 1, 1, none⟩) (Nat.le_succ _) _, rfl⟩
set_option maxRecDepth 100000 in
set_option maxHeartbeats 3200000 in
theorem edec_mis (L S s n : Int) (es : List E3) (set : List Int) (wd : ByteArray) (v vs : Value) (w : World) (hr : Row w v es.length (ce es)) (hrs : Row w vs set.length (ci set)) (hchk : ∀ v vs w', Row w' v es.length (ce es) → Row w' vs set.length (ci set) → Calls Tryz.prog 31 #[.agg #[.int .i64 L, .int .i64 S, v], vs, .int .i64 s, .int .i64 n] w' (Ret w' (.int .i64 0))) (hsz : wd.size ≤ 9223372036854775807) (hw : ckw L wd.data.toList = 0) (hm : ¬ (wd.size : Int) = n) :
    Calls Tryz.prog 11 #[.agg #[.int .i64 L, .int .i64 S, v], vs, .int .i64 s, .int .i64 n, .string wd] w (Ret w (.tuple #[IntV 0, .int .i64 0, .int .i64 11])) := by
  obtain ⟨va, vc, rfl, hle⟩ := hr.slice
  obtain ⟨sa, sc, rfl, hsle⟩ := hrs.slice
  have sb0 := ((Below.refl w.heap.size w).alloc (Nat.le_refl _) (.cells #[.int .i64 L, .int .i64 S, .slice va es.length vc] 24)).alloc (by simp) (.cells #[.bool false, .string ⟨#[]⟩] 33)
  have b0 := (Blk.new w 24 [.int .i64 L, .int .i64 S, .slice va es.length vc]).alloc (.cells #[.bool false, .string ⟨#[]⟩] 33)
  have b1 := Blk.new (w.alloc (.cells #[.int .i64 L, .int .i64 S, .slice va es.length vc] 24)) 33 [.bool false, .string ⟨#[]⟩]
  simp only [World.size_alloc] at b1
  have hr0 := hr.below sb0 (Nat.le_refl _)
  have hrs0 := hrs.below sb0 (Nat.le_refl _)
  have hck := hchk (.slice va es.length vc) (.slice sa set.length sc) _ hr0 hrs0
  have hkw := fun w' => eckw_any L S va es.length vc wd w' hsz
  rw [hw] at hkw
  have hb : ((wd.size : Int) != n) = true := by simpa using hm
  obtain ⟨mm, hmm⟩ : ∃ mm, mm = es.length := ⟨_, rfl⟩
  obtain ⟨ms, hms⟩ : ∃ ms, ms = set.length := ⟨_, rfl⟩
  have hne : ¬ w.heap.size + 1 = w.heap.size := by omega
  rw [← hmm] at sb0 b0 b1 hr0 hrs0 hck hle hkw
  rw [← hms] at hrs0 hck hsle
  have HMM := Lib.hid hmm; clear hmm
  have HMS := Lib.hid hms; clear hms
  have HCK := Lib.hid hck; clear hck
  have HKW := Lib.hid hkw; clear hkw
  have S0 := Lib.hid sb0; clear sb0
  have B0 := Lib.hid b0; clear b0
  have B1 := Lib.hid b1; clear b1
  clear hr hrs hchk hr0 hrs0 
  go_enter Tryz.func11, Tryz.ntmps11
  rw [← HMM.out, ← HMS.out]
  go_wp2_with fail
  go_at_call 31
  refine HCK.out.mono ?_
  rintro e w1 ⟨hq, rfl⟩
  have s1 := S0.out.trans (hq.mono S0.out.size)
  have tk := B0.out.keep hq; have x0 := tk.cell (j := 0) rfl; have x1 := tk.cell (j := 1) rfl; have x2 := tk.cell (j := 2) rfl; have C0 := Lib.hid tk; clear tk
  have tk := B1.out.keep hq
  have y0 := tk.cell (j := 0) rfl
  have y1 := tk.cell (j := 1) rfl
  have f0 := tk.frozen 0
  have f1 := tk.frozen 1
  have C1 := Lib.hid tk
  clear tk
  have S1 := Lib.hid s1; clear s1
  clear hq
  go_wp2_with fail
  go_at_call 32
  refine (HKW.out _).mono ?_
  rintro e w2 ⟨hq, rfl⟩
  have s2 := S1.out.trans (hq.mono S1.out.size)
  clear x0 x1 x2 y0 y1 f0 f1
  have tk := C0.out.keep hq; have x0 := tk.cell (j := 0) rfl; have x1 := tk.cell (j := 1) rfl; have x2 := tk.cell (j := 2) rfl; have D0 := Lib.hid tk; clear tk
  have tk := C1.out.keep hq
  have y0 := tk.cell (j := 0) rfl
  have y1 := tk.cell (j := 1) rfl
  have f0 := tk.frozen 0
  have f1 := tk.frozen 1
  have D1 := Lib.hid tk
  clear tk
  have S2 := Lib.hid s2; clear s2
  clear hq
  go_wp2_with fail
  refine bodyPost_ret (v := .tuple #[IntV 0, .int .i64 0, .int .i64 11]) ?_ rfl ?_
  · simp [results, Tryz.results11, go_sem, y0, y1, hne, IntV, ineg_zero, imag_zero]
  · exact ⟨(S2.out.setCell (p := ⟨w.heap.size + 1, 0, none⟩) (Nat.le_succ _) _).setCell (p := ⟨w.heap.size + 1, 1, none⟩) (Nat.le_succ _) _, rfl⟩
set_option maxRecDepth 100000 in
set_option maxHeartbeats 3200000 in
theorem estr_bad (L S s n e0 : Int) (es : List E3) (set : List Int) (vl : Value) (v vs : Value) (w : World) (hr : Row w v es.length (ce es)) (hrs : Row w vs set.length (ci set)) (hchk : ∀ v vs w', Row w' v es.length (ce es) → Row w' vs set.length (ci set) → Calls Tryz.prog 31 #[.agg #[.int .i64 L, .int .i64 S, v], vs, .int .i64 s, .int .i64 n] w' (Ret w' (.int .i64 e0))) (he : e0 ≠ 0) :
    Calls Tryz.prog 13 #[.agg #[.int .i64 L, .int .i64 S, v], vs, .int .i64 s, .int .i64 n, vl] w (Ret w (.tuple #[.string ⟨#[]⟩, .int .i64 0, .int .i64 e0])) := by
  obtain ⟨va, vc, rfl, hle⟩ := hr.slice
  obtain ⟨sa, sc, rfl, hsle⟩ := hrs.slice
  have sb0 := (Below.refl w.heap.size w).alloc (Nat.le_refl _) (.cells #[.int .i64 L, .int .i64 S, .slice va es.length vc] 24)
  have b0 := Blk.new w 24 [.int .i64 L, .int .i64 S, .slice va es.length vc]
  have hr0 := hr.below sb0 (Nat.le_refl _)
  have hrs0 := hrs.below sb0 (Nat.le_refl _)
  have hck := hchk (.slice va es.length vc) (.slice sa set.length sc) _ hr0 hrs0
  have hb : (e0 != 0) = true := by simpa using he
  obtain ⟨mm, hmm⟩ : ∃ mm, mm = es.length := ⟨_, rfl⟩
  obtain ⟨ms, hms⟩ : ∃ ms, ms = set.length := ⟨_, rfl⟩
  have hne : ¬ w.heap.size + 1 = w.heap.size := by omega
  rw [← hmm] at sb0 b0 hr0 hrs0 hck hle
  rw [← hms] at hrs0 hck hsle
  have HMM := Lib.hid hmm; clear hmm
  have HMS := Lib.hid hms; clear hms
  have HCK := Lib.hid hck; clear hck
  have S0 := Lib.hid sb0; clear sb0
  have B0 := Lib.hid b0; clear b0
  clear hr hrs hchk hr0 hrs0 
  go_enter Tryz.func13, Tryz.ntmps13
  rw [← HMM.out, ← HMS.out]
  go_wp2_with fail
  go_at_call 31
  refine HCK.out.mono ?_
  rintro e w1 ⟨hq, rfl⟩
  have s1 := S0.out.trans (hq.mono S0.out.size)
  have tk := B0.out.keep hq; have x0 := tk.cell (j := 0) rfl; have x1 := tk.cell (j := 1) rfl; have x2 := tk.cell (j := 2) rfl; have C0 := Lib.hid tk; clear tk
  have S1 := Lib.hid s1; clear s1
  clear hq
  go_wp2_with fail
  go_ret3
  exact ⟨S1.out, rfl⟩
end Go.Proofs.YtalipfnbpnkgnaaGreat

/- enumerative.Stream and grooveref29.Stream where they refuse (printed by gen_sbad.py). -/
namespace Go.Proofs.YtalipfnbpnkgnaaGreat
open Go.RowKit

set_option maxRecDepth 100000 in
set_option maxHeartbeats 8000000 in
theorem estr_arg (L S s n : Int) (es : List E3) (set : List Int) (l : List (Bool × ByteArray)) (v vs vl : Value) (w : World) (hr : Row w v es.length (ce es)) (hrs : Row w vs set.length (ci set)) (hrl : Row w vl l.length (cnv l)) (hchk : ∀ v vs w', Row w' v es.length (ce es) → Row w' vs set.length (ci set) → Calls Tryz.prog 31 #[.agg #[.int .i64 L, .int .i64 S, v], vs, .int .i64 s, .int .i64 n] w' (Ret w' (.int .i64 0))) (hlz : ∀ x ∈ l, x.2.size ≤ 1099511627775) (hodd : oddB l = true) :
    Calls Tryz.prog 13 #[.agg #[.int .i64 L, .int .i64 S, v], vs, .int .i64 s, .int .i64 n, vl] w (Ret w (.tuple #[.string ⟨#[]⟩, .int .i64 0, .int .i64 1])) := by
  obtain ⟨va, vc, rfl, hle⟩ := hr.slice
  obtain ⟨sa, sc, rfl, hsle⟩ := hrs.slice
  obtain ⟨la, lc, rfl, hlle⟩ := hrl.slice
  have sb0 := (Below.refl w.heap.size w).alloc (Nat.le_refl _) (.cells #[.int .i64 L, .int .i64 S, .slice va es.length vc] 24)
  have b0 := Blk.new w 24 [.int .i64 L, .int .i64 S, .slice va es.length vc]
  have hr0 := hr.below sb0 (Nat.le_refl _)
  have hrs0 := hrs.below sb0 (Nat.le_refl _)
  have hrl0 := hrl.below sb0 (Nat.le_refl _)
  have hck := hchk (.slice va es.length vc) (.slice sa set.length sc) _ hr0 hrs0
  have hcf := fun w' (h : Row w' (.slice la l.length lc) l.length (cnv l)) => cfG_any l _ w' h hlz
  rw [hodd] at hcf
  obtain ⟨mm, hmm⟩ : ∃ mm, mm = es.length := ⟨_, rfl⟩
  obtain ⟨ms, hms⟩ : ∃ ms, ms = set.length := ⟨_, rfl⟩
  obtain ⟨ml, hml⟩ : ∃ ml, ml = l.length := ⟨_, rfl⟩
  rw [← hmm] at sb0 b0 hr0 hrs0 hrl0 hck hle
  rw [← hms] at hrs0 hck hsle
  rw [← hml] at hrl0 hlle hcf
  have HMM := Lib.hid hmm; clear hmm
  have HMS := Lib.hid hms; clear hms
  have HML := Lib.hid hml; clear hml
  have HCK := Lib.hid hck; clear hck
  have HCF := Lib.hid hcf; clear hcf
  have S0 := Lib.hid sb0; clear sb0
  have B0 := Lib.hid b0; clear b0
  have HRL := Lib.hid hrl0; clear hrl0
  clear hr hrs hrl hchk hr0 hrs0
  go_enter Tryz.func13, Tryz.ntmps13
  rw [← HMM.out, ← HMS.out, ← HML.out]
  go_wp2_with fail
  go_at_call 31
  refine HCK.out.mono ?_
  rintro e w1 ⟨hq, rfl⟩
  have s1 := S0.out.trans (hq.mono S0.out.size)
  have hrl1 := HRL.out.below hq (Nat.le_refl _)
  have S1 := Lib.hid s1; clear s1
  have HRL1 := Lib.hid hrl1; clear hrl1
  clear hq
  go_wp2_with fail
  go_at_call 8
  refine (HCF.out _ HRL1.out).mono ?_
  rintro e w2 ⟨hq, rfl⟩
  have s2 := S1.out.trans (hq.mono S1.out.size)
  have S2 := Lib.hid s2; clear s2
  clear hq
  go_wp2_with fail
  go_ret3
  exact ⟨S2.out, rfl⟩
set_option maxRecDepth 100000 in
set_option maxHeartbeats 8000000 in
theorem rstr_bad (L S s n e0 : Int) (es : List E3) (set : List Int) (l : List (Bool × ByteArray)) (v vs vl : Value) (w : World) (hr : Row w v es.length (ce es)) (hrs : Row w vs set.length (ci set)) (hrl : Row w vl l.length (cnv l)) (hchk : ∀ v vs w', Row w' v es.length (ce es) → Row w' vs set.length (ci set) → Calls Tryz.prog 36 #[.agg #[.int .i64 L, .int .i64 S, v], vs, .int .i64 s] w' (Ret w' (.int .i64 e0))) (he : e0 ≠ 0) :
    Calls Tryz.prog 14 #[.agg #[.int .i64 L, .int .i64 S, v], vs, .int .i64 s, .int .i64 n, vl] w (Ret w (.tuple #[.string ⟨#[]⟩, .int .i64 0, .int .i64 e0])) := by
  obtain ⟨va, vc, rfl, hle⟩ := hr.slice
  obtain ⟨sa, sc, rfl, hsle⟩ := hrs.slice
  obtain ⟨la, lc, rfl, hlle⟩ := hrl.slice
  have sb0 := (Below.refl w.heap.size w).alloc (Nat.le_refl _) (.cells #[.int .i64 L, .int .i64 S, .slice va es.length vc] 24)
  have b0 := Blk.new w 24 [.int .i64 L, .int .i64 S, .slice va es.length vc]
  have hr0 := hr.below sb0 (Nat.le_refl _)
  have hrs0 := hrs.below sb0 (Nat.le_refl _)
  have hrl0 := hrl.below sb0 (Nat.le_refl _)
  have hck := hchk (.slice va es.length vc) (.slice sa set.length sc) _ hr0 hrs0
  have hb : (e0 != 0) = true := by simpa using he
  obtain ⟨mm, hmm⟩ : ∃ mm, mm = es.length := ⟨_, rfl⟩
  obtain ⟨ms, hms⟩ : ∃ ms, ms = set.length := ⟨_, rfl⟩
  obtain ⟨ml, hml⟩ : ∃ ml, ml = l.length := ⟨_, rfl⟩
  rw [← hmm] at sb0 b0 hr0 hrs0 hrl0 hck hle
  rw [← hms] at hrs0 hck hsle
  rw [← hml] at hrl0 hlle
  have HMM := Lib.hid hmm; clear hmm
  have HMS := Lib.hid hms; clear hms
  have HML := Lib.hid hml; clear hml
  have HCK := Lib.hid hck; clear hck
  have S0 := Lib.hid sb0; clear sb0
  have B0 := Lib.hid b0; clear b0
  have HRL := Lib.hid hrl0; clear hrl0
  clear hr hrs hrl hchk hr0 hrs0
  go_enter Tryz.func14, Tryz.ntmps14
  rw [← HMM.out, ← HMS.out, ← HML.out]
  go_wp2_with fail
  go_at_call 36
  refine HCK.out.mono ?_
  rintro e w1 ⟨hq, rfl⟩
  have s1 := S0.out.trans (hq.mono S0.out.size)
  have hrl1 := HRL.out.below hq (Nat.le_refl _)
  have S1 := Lib.hid s1; clear s1
  have HRL1 := Lib.hid hrl1; clear hrl1
  clear hq
  go_wp2_with fail
  go_ret3
  exact ⟨S1.out, rfl⟩
set_option maxRecDepth 100000 in
set_option maxHeartbeats 8000000 in
theorem rstr_len (L S s n : Int) (es : List E3) (set : List Int) (l : List (Bool × ByteArray)) (v vs vl : Value) (w : World) (hr : Row w v es.length (ce es)) (hrs : Row w vs set.length (ci set)) (hrl : Row w vl l.length (cnv l)) (hchk : ∀ v vs w', Row w' v es.length (ce es) → Row w' vs set.length (ci set) → Calls Tryz.prog 36 #[.agg #[.int .i64 L, .int .i64 S, v], vs, .int .i64 s] w' (Ret w' (.int .i64 0))) (hn : clen n ≠ 0) :
    Calls Tryz.prog 14 #[.agg #[.int .i64 L, .int .i64 S, v], vs, .int .i64 s, .int .i64 n, vl] w (Ret w (.tuple #[.string ⟨#[]⟩, .int .i64 0, .int .i64 (clen n)])) := by
  obtain ⟨va, vc, rfl, hle⟩ := hr.slice
  obtain ⟨sa, sc, rfl, hsle⟩ := hrs.slice
  obtain ⟨la, lc, rfl, hlle⟩ := hrl.slice
  have sb0 := (Below.refl w.heap.size w).alloc (Nat.le_refl _) (.cells #[.int .i64 L, .int .i64 S, .slice va es.length vc] 24)
  have b0 := Blk.new w 24 [.int .i64 L, .int .i64 S, .slice va es.length vc]
  have hr0 := hr.below sb0 (Nat.le_refl _)
  have hrs0 := hrs.below sb0 (Nat.le_refl _)
  have hrl0 := hrl.below sb0 (Nat.le_refl _)
  have hck := hchk (.slice va es.length vc) (.slice sa set.length sc) _ hr0 hrs0
  have hln := fun w' => rclen_any n w'
  obtain ⟨z, hz⟩ : ∃ z, z = clen n := ⟨_, rfl⟩
  rw [← hz] at hln hn ⊢
  clear hz
  have hb : (z != 0) = true := by simpa using hn
  obtain ⟨mm, hmm⟩ : ∃ mm, mm = es.length := ⟨_, rfl⟩
  obtain ⟨ms, hms⟩ : ∃ ms, ms = set.length := ⟨_, rfl⟩
  obtain ⟨ml, hml⟩ : ∃ ml, ml = l.length := ⟨_, rfl⟩
  rw [← hmm] at sb0 b0 hr0 hrs0 hrl0 hck hle
  rw [← hms] at hrs0 hck hsle
  rw [← hml] at hrl0 hlle
  have HMM := Lib.hid hmm; clear hmm
  have HMS := Lib.hid hms; clear hms
  have HML := Lib.hid hml; clear hml
  have HCK := Lib.hid hck; clear hck
  have HLN := Lib.hid hln; clear hln
  have S0 := Lib.hid sb0; clear sb0
  have B0 := Lib.hid b0; clear b0
  have HRL := Lib.hid hrl0; clear hrl0
  clear hr hrs hrl hchk hr0 hrs0
  go_enter Tryz.func14, Tryz.ntmps14
  rw [← HMM.out, ← HMS.out, ← HML.out]
  go_wp2_with fail
  go_at_call 36
  refine HCK.out.mono ?_
  rintro e w1 ⟨hq, rfl⟩
  have s1 := S0.out.trans (hq.mono S0.out.size)
  have hrl1 := HRL.out.below hq (Nat.le_refl _)
  have S1 := Lib.hid s1; clear s1
  have HRL1 := Lib.hid hrl1; clear hrl1
  clear hq
  go_wp2_with fail
  go_at_call 37
  refine (HLN.out _).mono ?_
  rintro e w2 ⟨hq, rfl⟩
  have s2 := S1.out.trans (hq.mono S1.out.size)
  have hrl2 := HRL1.out.below hq (Nat.le_refl _)
  have S2 := Lib.hid s2; clear s2
  have HRL2 := Lib.hid hrl2; clear hrl2
  clear hq
  go_wp2_with fail
  go_ret3
  exact ⟨S2.out, rfl⟩
set_option maxRecDepth 100000 in
set_option maxHeartbeats 8000000 in
theorem rstr_arg (L S s n : Int) (es : List E3) (set : List Int) (l : List (Bool × ByteArray)) (v vs vl : Value) (w : World) (hr : Row w v es.length (ce es)) (hrs : Row w vs set.length (ci set)) (hrl : Row w vl l.length (cnv l)) (hchk : ∀ v vs w', Row w' v es.length (ce es) → Row w' vs set.length (ci set) → Calls Tryz.prog 36 #[.agg #[.int .i64 L, .int .i64 S, v], vs, .int .i64 s] w' (Ret w' (.int .i64 0))) (hn : clen n = 0) (hlz : ∀ x ∈ l, x.2.size ≤ 1099511627775) (hodd : oddB l = true) :
    Calls Tryz.prog 14 #[.agg #[.int .i64 L, .int .i64 S, v], vs, .int .i64 s, .int .i64 n, vl] w (Ret w (.tuple #[.string ⟨#[]⟩, .int .i64 0, .int .i64 1])) := by
  obtain ⟨va, vc, rfl, hle⟩ := hr.slice
  obtain ⟨sa, sc, rfl, hsle⟩ := hrs.slice
  obtain ⟨la, lc, rfl, hlle⟩ := hrl.slice
  have sb0 := (Below.refl w.heap.size w).alloc (Nat.le_refl _) (.cells #[.int .i64 L, .int .i64 S, .slice va es.length vc] 24)
  have b0 := Blk.new w 24 [.int .i64 L, .int .i64 S, .slice va es.length vc]
  have hr0 := hr.below sb0 (Nat.le_refl _)
  have hrs0 := hrs.below sb0 (Nat.le_refl _)
  have hrl0 := hrl.below sb0 (Nat.le_refl _)
  have hck := hchk (.slice va es.length vc) (.slice sa set.length sc) _ hr0 hrs0
  have hln := fun w' => rclen_any n w'
  rw [hn] at hln
  obtain ⟨mm, hmm⟩ : ∃ mm, mm = es.length := ⟨_, rfl⟩
  obtain ⟨ms, hms⟩ : ∃ ms, ms = set.length := ⟨_, rfl⟩
  obtain ⟨ml, hml⟩ : ∃ ml, ml = l.length := ⟨_, rfl⟩
  rw [← hmm] at sb0 b0 hr0 hrs0 hrl0 hck hle
  rw [← hms] at hrs0 hck hsle
  rw [← hml] at hrl0 hlle
  have HMM := Lib.hid hmm; clear hmm
  have HMS := Lib.hid hms; clear hms
  have HML := Lib.hid hml; clear hml
  have HCK := Lib.hid hck; clear hck
  have HLN := Lib.hid hln; clear hln
  have HLZ := Lib.hid hlz; clear hlz
  have HODD := Lib.hid hodd; clear hodd
  have S0 := Lib.hid sb0; clear sb0
  have B0 := Lib.hid b0; clear b0
  have HRL := Lib.hid hrl0; clear hrl0
  clear hr hrs hrl hchk hr0 hrs0
  go_enter Tryz.func14, Tryz.ntmps14
  rw [← HMM.out, ← HMS.out, ← HML.out]
  go_wp2_with fail
  go_at_call 36
  refine HCK.out.mono ?_
  rintro e w1 ⟨hq, rfl⟩
  have s1 := S0.out.trans (hq.mono S0.out.size)
  have hrl1 := HRL.out.below hq (Nat.le_refl _)
  have S1 := Lib.hid s1; clear s1
  have HRL1 := Lib.hid hrl1; clear hrl1
  clear hq
  go_wp2_with fail
  go_at_call 37
  refine (HLN.out _).mono ?_
  rintro e w2 ⟨hq, rfl⟩
  have s2 := S1.out.trans (hq.mono S1.out.size)
  have hrl2 := HRL1.out.below hq (Nat.le_refl _)
  have S2 := Lib.hid s2; clear s2
  have HRL2 := Lib.hid hrl2; clear hrl2
  clear hq
  go_wp2_with fail
  go_loopw [15] (fun i wr => ∃ j : Nat, j ≤ ml ∧ i = .int .i64 j ∧ Below w.heap.size w wr ∧ Row wr (.slice la ml lc) ml (cnv l) ∧ oddB (l.drop j) = true) (fun i _ => ml - (intOf i).toNat)
  case atStart => exact ⟨0, Nat.zero_le _, rfl, S2.out, HRL2.out, HODD.out⟩
  case round =>
    obtain ⟨j, hj, rfl, hbel, hrx, hno⟩ := hrel
    by_cases hlt : j < ml
    · have hjl : j < l.length := by rw [← HML.out]; exact hlt
      have hget : l[j]? = some (l[j]'hjl) := List.getElem?_eq_getElem _
      have hsj := HLZ.out _ (List.getElem_mem hjl)
      rw [List.drop_eq_getElem_cons hjl] at hno
      obtain ⟨y, hy⟩ : ∃ y, y = l[j]'hjl := ⟨_, rfl⟩
      rw [← hy] at hget hsj hno
      obtain ⟨ng, sg⟩ := y
      have hstep : oddB ((ng, sg) :: l.drop (j + 1)) = (!cnB ng sg || oddB (l.drop (j + 1))) := rfl
      rw [hstep] at hno
      have hrx0 := hrx
      obtain ⟨b, off, rfl, hbw, hce⟩ := hrx.at_ (by omega)
      obtain ⟨c0, c1⟩ := num_cells hce (Below.refl wr.heap.size wr) hbw hget
      have hic := fun w' => rcheck01_any ng sg w' hsj
      obtain ⟨t, ht⟩ : ∃ t, cnB ng sg = t := ⟨_, rfl⟩
      rw [ht] at hic hno
      have hix : (0 : Int) ≤ (j : Int) := by omega
      have HIC := Lib.hid hic; clear hic
      have HBEL := Lib.hid hbel; clear hbel
      have HRX := Lib.hid hrx0; clear hrx0
      clear hce hget hy hstep ht hrx hsj
      cases t with
      | true =>
        have hno2 : oddB (l.drop (j + 1)) = true := by simpa using hno
        have HNO := Lib.hid hno2; clear hno2
        clear hno
        go_wp2_with fail
        go_at_call 46
        refine (HIC.out _).mono ?_
        rintro e w3 ⟨hq, rfl⟩
        have s3 := HBEL.out.trans (hq.mono HBEL.out.size)
        have hrx3 := HRX.out.below hq (Nat.le_refl _)
        have S3 := Lib.hid s3; clear s3
        have HRX3 := Lib.hid hrx3; clear hrx3
        clear hq c0 c1
        simp only [chkZ]
        go_wp2_with fail
        go_roundw
        case rel => exact ⟨j + 1, by omega, by go_num, S3.out, HRX3.out, HNO.out⟩
        case measure => simp [intOf]; omega
      | false =>
        clear hno
        go_wp2_with fail
        go_at_call 46
        refine (HIC.out _).mono ?_
        rintro e w3 ⟨hq, rfl⟩
        have s3 := HBEL.out.trans (hq.mono HBEL.out.size)
        have S3 := Lib.hid s3; clear s3
        clear hq c0 c1
        simp only [chkZ]
        go_wp2_with fail
        go_ret3
        exact ⟨S3.out, rfl⟩
    · exfalso
      rw [List.drop_of_length_le (by have := HML.out; omega)] at hno
      cases hno
end Go.Proofs.YtalipfnbpnkgnaaGreat

/- enumerative.Decode, Encode and Stream, and the reference's, tell the same at all inputs. -/
namespace Go.Proofs.YtalipfnbpnkgnaaGreat
open Go.RowKit

set_option maxRecDepth 100000 in
set_option maxHeartbeats 3200000 in
theorem checkall_eck (L S : Int) (s n : Int) (es : List E3) (v vs : Value) (l : List Int) (w : World) (hr : Row w v es.length (ce es)) (hok : okEs es) (hrs : Row w vs l.length (ci l)) (hne : eck L S es ≠ 0) :
    Calls Tryz.prog 31 #[.agg #[.int .i64 L, .int .i64 S, v], vs, .int .i64 s, .int .i64 n] w (Ret w (.int .i64 (eck L S es))) := by
  obtain ⟨va, vc, rfl, hle⟩ := hr.slice
  obtain ⟨sa, sc, rfl, hsle⟩ := hrs.slice
  obtain ⟨mm, hmm⟩ : ∃ mm, mm = es.length := ⟨_, rfl⟩
  obtain ⟨m, hm⟩ : ∃ m, m = l.length := ⟨_, rfl⟩
  have s0 := (Below.refl w.heap.size w).alloc (Nat.le_refl _) (.cells #[.int .i64 L, .int .i64 S, .slice va es.length vc] 24)
  have hck := echeck_any L S es _ _ (hr.below s0 (Nat.le_refl _)) hok
  obtain ⟨A, hA⟩ : ∃ A, A = eck L S es := ⟨_, rfl⟩
  rw [← hA] at hck hne ⊢
  rw [← hmm] at s0 hck hle
  rw [← hm] at hsle
  have hb : (A != 0) = true := by simpa using hne
  have HMM := Lib.hid hmm; clear hmm
  have HM := Lib.hid hm; clear hm
  have HCK := Lib.hid hck; clear hck
  have S0 := Lib.hid s0; clear s0
  clear hr hok hrs hA
  go_enter Tryz.func31, Tryz.ntmps31
  rw [← HMM.out, ← HM.out]
  go_wp2_with fail
  go_at_call 53
  refine HCK.out.mono ?_
  rintro e w1 ⟨hq, rfl⟩
  have s1 := S0.out.trans (hq.mono S0.out.size)
  have S1 := Lib.hid s1; clear s1
  clear hq
  go_wp2_with fail
  go_ret
  exact ⟨S1.out, rfl⟩
set_option maxRecDepth 100000 in
set_option maxHeartbeats 3200000 in
theorem rcheck_chk (L S : Int) (s : Int) (es : List E3) (v vs : Value) (l : List Int) (w : World) (hr : Row w v es.length (ce es)) (hrs : Row w vs l.length (ci l)) (hne : chk L S es ≠ 0) :
    Calls Tryz.prog 36 #[.agg #[.int .i64 L, .int .i64 S, v], vs, .int .i64 s] w (Ret w (.int .i64 1)) := by
  obtain ⟨va, vc, rfl, hle⟩ := hr.slice
  obtain ⟨sa, sc, rfl, hsle⟩ := hrs.slice
  obtain ⟨mm, hmm⟩ : ∃ mm, mm = es.length := ⟨_, rfl⟩
  obtain ⟨m, hm⟩ : ∃ m, m = l.length := ⟨_, rfl⟩
  have s0 := (Below.refl w.heap.size w).alloc (Nat.le_refl _) (.cells #[.int .i64 L, .int .i64 S, .slice va es.length vc] 24)
  have hck := rcheck_any L S es _ _ (hr.below s0 (Nat.le_refl _))
  obtain ⟨A, hA⟩ : ∃ A, A = chk L S es := ⟨_, rfl⟩
  rw [← hA] at hck hne
  rw [← hmm] at s0 hck hle
  rw [← hm] at hsle
  have hb : (A != 0) = true := by simpa using hne
  have HMM := Lib.hid hmm; clear hmm
  have HM := Lib.hid hm; clear hm
  have HCK := Lib.hid hck; clear hck
  have S0 := Lib.hid s0; clear s0
  clear hr hrs hA
  go_enter Tryz.func36, Tryz.ntmps36
  rw [← HMM.out, ← HM.out]
  go_wp2_with fail
  go_at_call 73
  refine HCK.out.mono ?_
  rintro e w1 ⟨hq, rfl⟩
  have s1 := S0.out.trans (hq.mono S0.out.size)
  have S1 := Lib.hid s1; clear s1
  clear hq
  go_wp2_with fail
  go_ret
  exact ⟨S1.out, rfl⟩
theorem cset_some {S : Nat} : ∀ (l : List Int) (pr : Option Int), cset (S : Int) pr l = 0 → (∀ x ∈ l, 0 ≤ x ∧ x < (S : Int)) ∧ l.Pairwise (· < ·) ∧ (∀ q, pr = some q → ∀ x ∈ l, q < x)
  | [], _, _ => ⟨fun x hx => (by cases hx), List.Pairwise.nil, fun q _ x hx => (by cases hx)⟩
  | s :: r, pr, h => by
    by_cases hs : s < 0 ∨ (S : Int) ≤ s
    · rw [cset_out hs] at h; cases h
    · have key : cset (S : Int) (some s) r = 0 ∧ (∀ q, pr = some q → q < s) := by
        cases pr with
        | none => rw [cset_first hs] at h; exact ⟨h, fun q hq => (by cases hq)⟩
        | some q =>
          by_cases hq : s ≤ q
          · rw [cset_le hs hq] at h; cases h
          · rw [cset_gt hs hq] at h
            refine ⟨h, fun q' hq' => ?_⟩
            have : q = q' := by injection hq'
            omega
      obtain ⟨h1, h2, h3⟩ := cset_some r (some s) key.1
      refine ⟨fun x hx => ?_, List.pairwise_cons.2 ⟨fun x hx => h3 s rfl x hx, h2⟩, fun q hq x hx => ?_⟩
      · rcases List.mem_cons.1 hx with rfl | hx
        · omega
        · exact h1 x hx
      · have := key.2 q hq
        rcases List.mem_cons.1 hx with rfl | hx
        · exact this
        · have := h3 s rfl x hx; omega
/-- What the checks of both tell. -/
structure Chks (L S s n : Int) (es : List E3) (set : List Int) (c : Int) : Prop where
  ref : ∀ v vs w', Row w' v es.length (ce es) → Row w' vs set.length (ci set) → Calls Tryz.prog 36 #[.agg #[.int .i64 L, .int .i64 S, v], vs, .int .i64 s] w' (Ret w' (.int .i64 c))
  all : ∀ v vs w', Row w' v es.length (ce es) → Row w' vs set.length (ci set) → Calls Tryz.prog 31 #[.agg #[.int .i64 L, .int .i64 S, v], vs, .int .i64 s, .int .i64 n] w' (Ret w' (.int .i64 (if c ≠ 0 then c else clen n)))
  ok : c = 0 → eck L S es = 0 ∧ 0 ≤ S ∧ SomeS S.toNat set ∧ 0 ≤ s ∧ s < S
theorem chks_any (L S s n : Int) (es : List E3) (set : List Int) (hok : okEs es) (hsl : set.length ≤ 1000000) : ∃ c, Chks L S s n es set c := by
  by_cases hS : 0 ≤ S
  · obtain ⟨S, rfl⟩ : ∃ k : Nat, S = k := ⟨S.toNat, by omega⟩
    refine ⟨rcks L (S : Int) es set s, ⟨fun v vs w' h h2 => rcks_any L S s es set v vs w' h h2 hsl, fun v vs w' h h2 => ?_, fun h => ?_⟩⟩
    · have h3 := checkall_any L S s n es v vs set w' h hok h2 hsl
      have e : eall L (S : Int) es set s n = if rcks L (S : Int) es set s ≠ 0 then rcks L (S : Int) es set s else clen n := by
        unfold eall rcks elen clen
        by_cases h1 : eck L (S : Int) es = 0
        · by_cases h2 : cset (S : Int) none set = 0
          · by_cases h3 : s < 0 ∨ (S : Int) ≤ s <;> simp [h1, h2, h3]
          · simp [h1, h2]
        · simp [h1]
      rw [e] at h3
      exact h3
    · unfold rcks at h
      by_cases h1 : eck L (S : Int) es = 0
      · by_cases h2 : cset (S : Int) none set = 0
        · by_cases h3 : s < 0 ∨ (S : Int) ≤ s
          · rw [if_neg (by simp [h1]), if_neg (by simp [h2]), if_pos h3] at h; cases h
          · obtain ⟨g1, g2, -⟩ := cset_some set none h2
            exact ⟨h1, by omega, ⟨fun x hx => g1 x hx, g2⟩, by omega, by omega⟩
        · rw [if_neg (by simp [h1]), if_pos h2] at h; exact absurd h h2
      · rw [if_pos h1] at h; exact absurd h h1
  · have hc : chk L S es ≠ 0 := fun h => by have := chk_all h; omega
    have he : eck L S es = 1 := by unfold eck; rw [if_pos hc]
    refine ⟨1, ⟨fun v vs w' h h2 => rcheck_chk L S s es v vs set w' h h2 hc, fun v vs w' h h2 => ?_, fun h => (by cases h)⟩⟩
    have h3 := checkall_eck L S s n es v vs set w' h hok h2 (by rw [he]; decide)
    rw [he] at h3
    exact h3
theorem clen_zero {n : Int} (h : clen n = 0) : 0 ≤ n ∧ n ≤ 4096 := by
  unfold clen at h
  split at h
  · cases h
  · omega
/-- Decode tells the same. -/
theorem dec_both (L S s n : Int) (es : List E3) (set : List Int) (wd : ByteArray) (hok : okEs es) (hsl : set.length ≤ 1000000) (hsz : wd.size ≤ 9223372036854775807) :
    ∃ a t e : Int, (∀ v vs w', Row w' v es.length (ce es) → Row w' vs set.length (ci set) → Calls Tryz.prog 11 #[.agg #[.int .i64 L, .int .i64 S, v], vs, .int .i64 s, .int .i64 n, .string wd] w' (Ret w' (.tuple #[IntV a, .int .i64 t, .int .i64 e]))) ∧
      (∀ v vs w', Row w' v es.length (ce es) → Row w' vs set.length (ci set) → Calls Tryz.prog 12 #[.agg #[.int .i64 L, .int .i64 S, v], vs, .int .i64 s, .int .i64 n, .string wd] w' (Ret w' (.tuple #[IntV a, .int .i64 t, .int .i64 e]))) := by
  obtain ⟨c, hc⟩ := chks_any L S s n es set hok hsl
  obtain ⟨h1, h2, h3⟩ := hc
  by_cases hc0 : c = 0
  · subst hc0
    rw [if_neg (by simp)] at h2
    by_cases hn : clen n = 0
    · rw [hn] at h2
      obtain ⟨hE, hS, hset, hs0, hs1⟩ := h3 rfl
      obtain ⟨S, rfl⟩ : ∃ k : Nat, S = k := ⟨S.toNat, by omega⟩
      obtain ⟨s, rfl⟩ : ∃ k : Nat, s = k := ⟨s.toNat, by omega⟩
      rw [Int.toNat_natCast] at hset
      have hcn := clen_zero hn
      by_cases hw : ckw L wd.data.toList = 0
      · by_cases hm : (wd.size : Int) = n
        · subst hm
          have hR := fun v vs w' h h4 => rdec_ok L S s es set wd v vs w' h h4 h1 hE hset (by omega) (by omega) hw
          rcases hk : rk es (pin set) wd.data.toList (s : Int) 0 with _ | ⟨a, t⟩
          · refine ⟨0, 0, 13, fun v vs w' h h4 => edec_no L S s es set v vs wd w' h hok h4 hE hset (by omega) hw (by omega) hk, fun v vs w' h h4 => ?_⟩
            have := hR v vs w' h h4
            rw [hk] at this
            exact this
          · cases hp : pin set t with
            | true =>
              refine ⟨a, t, 0, fun v vs w' h h4 => edec_some L S s es set v vs wd w' h hok h4 hE hset (by omega) hw (by omega) a t hk hp, fun v vs w' h h4 => ?_⟩
              have := hR v vs w' h h4
              rw [hk, show rkS (pin set) (some (a, t)) = some (a, t) from by simp [rkS, hp]] at this
              exact this
            | false =>
              refine ⟨0, 0, 13, fun v vs w' h h4 => edec_fin L S s es set v vs wd w' h hok h4 hE hset (by omega) hw (by omega) a t hk hp, fun v vs w' h h4 => ?_⟩
              have := hR v vs w' h h4
              rw [hk, show rkS (pin set) (some (a, t)) = none from by simp [rkS, hp]] at this
              exact this
        · exact ⟨0, 0, 11, fun v vs w' h h4 => edec_mis L S s n es set wd v vs w' h h4 h2 hsz hw hm, fun v vs w' h h4 => rdec_mis L S s n es set wd v vs w' h h4 h1 hn hsz hw hm⟩
      · exact ⟨0, 0, _, fun v vs w' h h4 => edec_word L S s n es set wd v vs w' h h4 h2 hsz hw, fun v vs w' h h4 => rdec_word L S s n es set wd v vs w' h h4 h1 hn hsz hw⟩
    · exact ⟨0, 0, _, fun v vs w' h h4 => edec_bad L S s n (clen n) es set wd v vs w' h h4 h2 hn, fun v vs w' h h4 => rdec_len L S s n es set wd v vs w' h h4 h1 hn⟩
  · rw [if_pos hc0] at h2
    exact ⟨0, 0, _, fun v vs w' h h4 => edec_bad L S s n c es set wd v vs w' h h4 h2 hc0, fun v vs w' h h4 => rdec_bad L S s n c es set wd v vs w' h h4 h1 hc0⟩
/-- Encode tells the same. -/
theorem enc_both (L S s n : Int) (es : List E3) (set : List Int) (ng : Bool) (sg : ByteArray) (hok : okEs es) (hsl : set.length ≤ 1000000) (hsz : sg.size ≤ 1099511627775) :
    ∃ (u : ByteArray) (t e : Int), (∀ v vs w', Row w' v es.length (ce es) → Row w' vs set.length (ci set) → Calls Tryz.prog 15 #[.agg #[.int .i64 L, .int .i64 S, v], vs, .int .i64 s, .int .i64 n, .agg #[.bool ng, .string sg]] w' (Ret w' (.tuple #[.string u, .int .i64 t, .int .i64 e]))) ∧
      (∀ v vs w', Row w' v es.length (ce es) → Row w' vs set.length (ci set) → Calls Tryz.prog 16 #[.agg #[.int .i64 L, .int .i64 S, v], vs, .int .i64 s, .int .i64 n, .agg #[.bool ng, .string sg]] w' (Ret w' (.tuple #[.string u, .int .i64 t, .int .i64 e]))) := by
  obtain ⟨c, hc⟩ := chks_any L S s n es set hok hsl
  obtain ⟨h1, h2, h3⟩ := hc
  by_cases hc0 : c = 0
  · subst hc0
    rw [if_neg (by simp)] at h2
    by_cases hn : clen n = 0
    · rw [hn] at h2
      cases hcn : cnB ng sg with
      | false => exact ⟨_, 0, 1, fun v vs w' h h4 => eenc_arg L S s n es set ng sg v vs w' h h4 h2 hsz hcn, fun v vs w' h h4 => renc_arg L S s n es set ng sg v vs w' h h4 h1 hn hsz hcn⟩
      | true =>
        obtain ⟨e1, e2⟩ := (cnB_iff ng sg).1 hcn
        obtain ⟨a0, ha0⟩ : ∃ a0, a0 = ival ng sg := ⟨_, rfl⟩
        rw [← ha0] at e1 e2
        subst e1 e2
        obtain ⟨hE, hS, hset, hs0, hs1⟩ := h3 rfl
        obtain ⟨S, rfl⟩ : ∃ k : Nat, S = k := ⟨S.toNat, by omega⟩
        obtain ⟨s, rfl⟩ : ∃ k : Nat, s = k := ⟨s.toNat, by omega⟩
        rw [Int.toNat_natCast] at hset
        have hcz := clen_zero hn
        obtain ⟨n, rfl⟩ : ∃ k : Nat, n = k := ⟨n.toNat, by omega⟩
        have hA := fun v vs w' h h4 => eenc_ok L S s n a0 es set v vs w' h hok h4 hE hset (by omega) (by omega) hsz
        have hB := fun v vs w' h h4 => renc_ok L S s n a0 es set v vs w' h h4 h1 hE hset (by omega) (by omega) hsz
        rcases hk : ure es (pin set) n (s : Int) a0 with _ | r
        · rw [hk] at hA hB
          exact ⟨_, _, _, hA, hB⟩
        · rw [hk] at hA hB
          exact ⟨_, _, _, hA, hB⟩
    · exact ⟨_, 0, _, fun v vs w' h h4 => eenc_bad L S s n (clen n) es set ng sg v vs w' h h4 h2 hn, fun v vs w' h h4 => renc_len L S s n es set ng sg v vs w' h h4 h1 hn⟩
  · rw [if_pos hc0] at h2
    exact ⟨_, 0, _, fun v vs w' h h4 => eenc_bad L S s n c es set ng sg v vs w' h h4 h2 hc0, fun v vs w' h h4 => renc_bad L S s n c es set ng sg v vs w' h h4 h1 hc0⟩
theorem cn_all : ∀ (l : List (Bool × ByteArray)), oddB l = false → ∃ z : List Int, l = z.map fun x => (ineg x, imag x)
  | [], _ => ⟨[], rfl⟩
  | (ng, sg) :: l, h => by
    have e : oddB ((ng, sg) :: l) = (!cnB ng sg || oddB l) := rfl
    rw [e, Bool.or_eq_false_iff] at h
    obtain ⟨z, rfl⟩ := cn_all l h.2
    obtain ⟨e1, e2⟩ := (cnB_iff ng sg).1 (by simpa using h.1)
    refine ⟨ival ng sg :: z, ?_⟩
    rw [List.map_cons, e1, e2]
/-- Stream tells the same. -/
theorem str_both (L S s n : Int) (es : List E3) (set : List Int) (l : List (Bool × ByteArray)) (hok : okEs es) (hsl : set.length ≤ 1000000) (hll : l.length ≤ 4) (hsz : ∀ x ∈ l, x.2.size ≤ 1099511627775) :
    ∃ (u : ByteArray) (t e : Int), (∀ v vs vl w', Row w' v es.length (ce es) → Row w' vs set.length (ci set) → Row w' vl l.length (cnv l) → Calls Tryz.prog 13 #[.agg #[.int .i64 L, .int .i64 S, v], vs, .int .i64 s, .int .i64 n, vl] w' (Ret w' (.tuple #[.string u, .int .i64 t, .int .i64 e]))) ∧
      (∀ v vs vl w', Row w' v es.length (ce es) → Row w' vs set.length (ci set) → Row w' vl l.length (cnv l) → Calls Tryz.prog 14 #[.agg #[.int .i64 L, .int .i64 S, v], vs, .int .i64 s, .int .i64 n, vl] w' (Ret w' (.tuple #[.string u, .int .i64 t, .int .i64 e]))) := by
  obtain ⟨c, hc⟩ := chks_any L S s n es set hok hsl
  obtain ⟨h1, h2, h3⟩ := hc
  by_cases hc0 : c = 0
  · subst hc0
    rw [if_neg (by simp)] at h2
    by_cases hn : clen n = 0
    · rw [hn] at h2
      cases hod : oddB l with
      | true => exact ⟨_, 0, 1, fun v vs vl w' h h4 h5 => estr_arg L S s n es set l v vs vl w' h h4 h5 h2 hsz hod, fun v vs vl w' h h4 h5 => rstr_arg L S s n es set l v vs vl w' h h4 h5 h1 hn hsz hod⟩
      | false =>
        obtain ⟨z, rfl⟩ := cn_all l hod
        obtain ⟨hE, hS, hset, hs0, hs1⟩ := h3 rfl
        obtain ⟨S, rfl⟩ : ∃ k : Nat, S = k := ⟨S.toNat, by omega⟩
        obtain ⟨s, rfl⟩ : ∃ k : Nat, s = k := ⟨s.toNat, by omega⟩
        rw [Int.toNat_natCast] at hset
        have hcz := clen_zero hn
        obtain ⟨n, rfl⟩ : ∃ k : Nat, n = k := ⟨n.toNat, by omega⟩
        rw [List.length_map] at hll
        have hsm : ∀ a ∈ z, small a := fun a ha => hsz (ineg a, imag a) (List.mem_map.2 ⟨a, ha, rfl⟩)
        rw [← civ_cnv, List.length_map]
        have hA := fun v vs vl w' h h4 h5 => estr_ok L S s n es set z v vs vl w' h hok h4 h5 hE hset (by omega) (by omega) hll hsm
        have hB := fun v vs vl w' h h4 h5 => rstr_ok L S s n es set z v vs vl w' h h4 h5 hE hset (by omega) (by omega) hll hsm
        rcases hk : strm es (pin set) n [] (s : Int) z with _ | r
        · rw [hk] at hA hB
          exact ⟨_, _, _, hA, hB⟩
        · rw [hk] at hA hB
          exact ⟨_, _, _, hA, hB⟩
    · exact ⟨_, 0, _, fun v vs vl w' h h4 _ => estr_bad L S s n (clen n) es set vl v vs w' h h4 h2 hn, fun v vs vl w' h h4 h5 => rstr_len L S s n es set l v vs vl w' h h4 h5 h1 hn⟩
  · rw [if_pos hc0] at h2
    exact ⟨_, 0, _, fun v vs vl w' h h4 _ => estr_bad L S s n c es set vl v vs w' h h4 h2 hc0, fun v vs vl w' h h4 h5 => rstr_bad L S s n c es set l v vs vl w' h h4 h5 h1 hc0⟩
end Go.Proofs.YtalipfnbpnkgnaaGreat


/- grooveref29.Decode (printed by gen_rdec.py). -/
import Derived.Test.YtalipfnbpnkgnaaGreatRRank
import Derived.Test.YtalipfnbpnkgnaaGreatPart14
import Derived.Test.YtalipfnbpnkgnaaGreatPart15
namespace Go.Proofs.YtalipfnbpnkgnaaGreat
open Go.RowKit

/-- What Decode tells of a word of the right length. -/
def decV : Option (Int × Int) → Value
  | some r => .tuple #[IntV r.1, .int .i64 r.2, .int .i64 0]
  | none => .tuple #[IntV 0, .int .i64 0, .int .i64 13]
set_option maxRecDepth 100000 in
set_option maxHeartbeats 3200000 in
theorem rdec_bad (L S s n e0 : Int) (es : List E3) (set : List Int) (wd : ByteArray) (v vs : Value) (w : World) (hr : Row w v es.length (ce es)) (hrs : Row w vs set.length (ci set)) (hchk : ∀ v vs w', Row w' v es.length (ce es) → Row w' vs set.length (ci set) → Calls Tryz.prog 36 #[.agg #[.int .i64 L, .int .i64 S, v], vs, .int .i64 s] w' (Ret w' (.int .i64 e0))) (he : e0 ≠ 0) :
    Calls Tryz.prog 12 #[.agg #[.int .i64 L, .int .i64 S, v], vs, .int .i64 s, .int .i64 n, .string wd] w (Ret w (.tuple #[IntV 0, .int .i64 0, .int .i64 e0])) := by
  obtain ⟨va, vc, rfl, hle⟩ := hr.slice
  obtain ⟨sa, sc, rfl, hsle⟩ := hrs.slice
  have sb0 := ((Below.refl w.heap.size w).alloc (Nat.le_refl _) (.cells #[.int .i64 L, .int .i64 S, .slice va es.length vc] 24)).alloc (by simp) (.cells #[.bool false, .string ⟨#[]⟩] 33)
  have b0 := (Blk.new w 24 [.int .i64 L, .int .i64 S, .slice va es.length vc]).alloc (.cells #[.bool false, .string ⟨#[]⟩] 33)
  have b1 := Blk.new (w.alloc (.cells #[.int .i64 L, .int .i64 S, .slice va es.length vc] 24)) 33 [.bool false, .string ⟨#[]⟩]
  simp only [World.size_alloc] at b1
  have hr0 := hr.below sb0 (Nat.le_refl _)
  have hrs0 := hrs.below sb0 (Nat.le_refl _)
  have hck := hchk (.slice va es.length vc) (.slice sa set.length sc) _ hr0 hrs0
  have hb : (e0 != 0) = true := by simpa using he
  obtain ⟨mm, hmm⟩ : ∃ mm, mm = es.length := ⟨_, rfl⟩
  obtain ⟨ms, hms⟩ : ∃ ms, ms = set.length := ⟨_, rfl⟩
  have hne : ¬ w.heap.size + 1 = w.heap.size := by omega
  rw [← hmm] at sb0 b0 b1 hr0 hrs0 hck hle
  rw [← hms] at hrs0 hck hsle
  have HMM := Lib.hid hmm; clear hmm
  have HMS := Lib.hid hms; clear hms
  have HCK := Lib.hid hck; clear hck
  have S0 := Lib.hid sb0; clear sb0
  have B0 := Lib.hid b0; clear b0
  have B1 := Lib.hid b1; clear b1
  have HR := Lib.hid hr0; clear hr0
  have HRS := Lib.hid hrs0; clear hrs0
  clear hr hrs hchk 
  go_enter Tryz.func12, Tryz.ntmps12
  rw [← HMM.out, ← HMS.out]
  go_wp2_with fail
  go_at_call 36
  refine HCK.out.mono ?_
  rintro e w1 ⟨hq, rfl⟩
  have s1 := S0.out.trans (hq.mono S0.out.size)
  have hr1 := HR.out.below hq (Nat.le_refl _)
  have hrs1 := HRS.out.below hq (Nat.le_refl _)
  have tk := B0.out.keep hq; have x0 := tk.cell (j := 0) rfl; have x1 := tk.cell (j := 1) rfl; have x2 := tk.cell (j := 2) rfl; have C0 := Lib.hid tk; clear tk
  have tk := B1.out.keep hq
  have y0 := tk.cell (j := 0) rfl
  have y1 := tk.cell (j := 1) rfl
  have f0 := tk.frozen 0
  have f1 := tk.frozen 1
  have C1 := Lib.hid tk
  clear tk
  have S1 := Lib.hid s1; clear s1
  have HR1 := Lib.hid hr1; clear hr1
  have HRS1 := Lib.hid hrs1; clear hrs1
  clear hq
  go_wp2_with fail
  refine bodyPost_ret (v := .tuple #[IntV 0, .int .i64 0, .int .i64 e0]) ?_ rfl ?_
  · simp [results, Tryz.results12, go_sem, y0, y1, hne, IntV, ineg_zero, imag_zero]
  · exact ⟨(S1.out.setCell (p := ⟨w.heap.size + 1, 0, none⟩) (Nat.le_succ _) _).setCell (p := ⟨w.heap.size + 1, 1, none⟩) (Nat.le_succ _) _, rfl⟩
set_option maxRecDepth 100000 in
set_option maxHeartbeats 3200000 in
theorem rdec_len (L S s n : Int) (es : List E3) (set : List Int) (wd : ByteArray) (v vs : Value) (w : World) (hr : Row w v es.length (ce es)) (hrs : Row w vs set.length (ci set)) (hchk : ∀ v vs w', Row w' v es.length (ce es) → Row w' vs set.length (ci set) → Calls Tryz.prog 36 #[.agg #[.int .i64 L, .int .i64 S, v], vs, .int .i64 s] w' (Ret w' (.int .i64 0))) (hn : clen n ≠ 0) :
    Calls Tryz.prog 12 #[.agg #[.int .i64 L, .int .i64 S, v], vs, .int .i64 s, .int .i64 n, .string wd] w (Ret w (.tuple #[IntV 0, .int .i64 0, .int .i64 (clen n)])) := by
  obtain ⟨va, vc, rfl, hle⟩ := hr.slice
  obtain ⟨sa, sc, rfl, hsle⟩ := hrs.slice
  have sb0 := ((Below.refl w.heap.size w).alloc (Nat.le_refl _) (.cells #[.int .i64 L, .int .i64 S, .slice va es.length vc] 24)).alloc (by simp) (.cells #[.bool false, .string ⟨#[]⟩] 33)
  have b0 := (Blk.new w 24 [.int .i64 L, .int .i64 S, .slice va es.length vc]).alloc (.cells #[.bool false, .string ⟨#[]⟩] 33)
  have b1 := Blk.new (w.alloc (.cells #[.int .i64 L, .int .i64 S, .slice va es.length vc] 24)) 33 [.bool false, .string ⟨#[]⟩]
  simp only [World.size_alloc] at b1
  have hr0 := hr.below sb0 (Nat.le_refl _)
  have hrs0 := hrs.below sb0 (Nat.le_refl _)
  have hck := hchk (.slice va es.length vc) (.slice sa set.length sc) _ hr0 hrs0
  have hln := fun w' => rclen_any n w'
  obtain ⟨z, hz⟩ : ∃ z, z = clen n := ⟨_, rfl⟩
  rw [← hz] at hln hn ⊢
  clear hz
  have hb : (z != 0) = true := by simpa using hn
  obtain ⟨mm, hmm⟩ : ∃ mm, mm = es.length := ⟨_, rfl⟩
  obtain ⟨ms, hms⟩ : ∃ ms, ms = set.length := ⟨_, rfl⟩
  have hne : ¬ w.heap.size + 1 = w.heap.size := by omega
  rw [← hmm] at sb0 b0 b1 hr0 hrs0 hck hle
  rw [← hms] at hrs0 hck hsle
  have HMM := Lib.hid hmm; clear hmm
  have HMS := Lib.hid hms; clear hms
  have HCK := Lib.hid hck; clear hck
  have HLN := Lib.hid hln; clear hln
  have S0 := Lib.hid sb0; clear sb0
  have B0 := Lib.hid b0; clear b0
  have B1 := Lib.hid b1; clear b1
  have HR := Lib.hid hr0; clear hr0
  have HRS := Lib.hid hrs0; clear hrs0
  clear hr hrs hchk 
  go_enter Tryz.func12, Tryz.ntmps12
  rw [← HMM.out, ← HMS.out]
  go_wp2_with fail
  go_at_call 36
  refine HCK.out.mono ?_
  rintro e w1 ⟨hq, rfl⟩
  have s1 := S0.out.trans (hq.mono S0.out.size)
  have hr1 := HR.out.below hq (Nat.le_refl _)
  have hrs1 := HRS.out.below hq (Nat.le_refl _)
  have tk := B0.out.keep hq; have x0 := tk.cell (j := 0) rfl; have x1 := tk.cell (j := 1) rfl; have x2 := tk.cell (j := 2) rfl; have C0 := Lib.hid tk; clear tk
  have tk := B1.out.keep hq
  have y0 := tk.cell (j := 0) rfl
  have y1 := tk.cell (j := 1) rfl
  have f0 := tk.frozen 0
  have f1 := tk.frozen 1
  have C1 := Lib.hid tk
  clear tk
  have S1 := Lib.hid s1; clear s1
  have HR1 := Lib.hid hr1; clear hr1
  have HRS1 := Lib.hid hrs1; clear hrs1
  clear hq
  go_wp2_with fail
  go_at_call 37
  refine (HLN.out _).mono ?_
  rintro e w2 ⟨hq, rfl⟩
  have s2 := S1.out.trans (hq.mono S1.out.size)
  have hr2 := HR1.out.below hq (Nat.le_refl _)
  have hrs2 := HRS1.out.below hq (Nat.le_refl _)
  clear x0 x1 x2 y0 y1 f0 f1
  have tk := C0.out.keep hq; have x0 := tk.cell (j := 0) rfl; have x1 := tk.cell (j := 1) rfl; have x2 := tk.cell (j := 2) rfl; have D0 := Lib.hid tk; clear tk
  have tk := C1.out.keep hq
  have y0 := tk.cell (j := 0) rfl
  have y1 := tk.cell (j := 1) rfl
  have f0 := tk.frozen 0
  have f1 := tk.frozen 1
  have D1 := Lib.hid tk
  clear tk
  have S2 := Lib.hid s2; clear s2
  have HR2 := Lib.hid hr2; clear hr2
  have HRS2 := Lib.hid hrs2; clear hrs2
  clear hq
  go_wp2_with fail
  refine bodyPost_ret (v := .tuple #[IntV 0, .int .i64 0, .int .i64 z]) ?_ rfl ?_
  · simp [results, Tryz.results12, go_sem, y0, y1, hne, IntV, ineg_zero, imag_zero]
  · exact ⟨(S2.out.setCell (p := ⟨w.heap.size + 1, 0, none⟩) (Nat.le_succ _) _).setCell (p := ⟨w.heap.size + 1, 1, none⟩) (Nat.le_succ _) _, rfl⟩
set_option maxRecDepth 100000 in
set_option maxHeartbeats 3200000 in
theorem rdec_word (L S s n : Int) (es : List E3) (set : List Int) (wd : ByteArray) (v vs : Value) (w : World) (hr : Row w v es.length (ce es)) (hrs : Row w vs set.length (ci set)) (hchk : ∀ v vs w', Row w' v es.length (ce es) → Row w' vs set.length (ci set) → Calls Tryz.prog 36 #[.agg #[.int .i64 L, .int .i64 S, v], vs, .int .i64 s] w' (Ret w' (.int .i64 0))) (hn : clen n = 0) (hsz : wd.size ≤ 9223372036854775807) (hw : ckw L wd.data.toList ≠ 0) :
    Calls Tryz.prog 12 #[.agg #[.int .i64 L, .int .i64 S, v], vs, .int .i64 s, .int .i64 n, .string wd] w (Ret w (.tuple #[IntV 0, .int .i64 0, .int .i64 (ckw L wd.data.toList)])) := by
  obtain ⟨va, vc, rfl, hle⟩ := hr.slice
  obtain ⟨sa, sc, rfl, hsle⟩ := hrs.slice
  have sb0 := ((Below.refl w.heap.size w).alloc (Nat.le_refl _) (.cells #[.int .i64 L, .int .i64 S, .slice va es.length vc] 24)).alloc (by simp) (.cells #[.bool false, .string ⟨#[]⟩] 33)
  have b0 := (Blk.new w 24 [.int .i64 L, .int .i64 S, .slice va es.length vc]).alloc (.cells #[.bool false, .string ⟨#[]⟩] 33)
  have b1 := Blk.new (w.alloc (.cells #[.int .i64 L, .int .i64 S, .slice va es.length vc] 24)) 33 [.bool false, .string ⟨#[]⟩]
  simp only [World.size_alloc] at b1
  have hr0 := hr.below sb0 (Nat.le_refl _)
  have hrs0 := hrs.below sb0 (Nat.le_refl _)
  have hck := hchk (.slice va es.length vc) (.slice sa set.length sc) _ hr0 hrs0
  have hln := fun w' => rclen_any n w'
  rw [hn] at hln
  have hkw := fun w' => rckw_any L S va es.length vc wd w' hsz
  obtain ⟨z, hz⟩ : ∃ z, z = ckw L wd.data.toList := ⟨_, rfl⟩
  rw [← hz] at hkw hw ⊢
  clear hz
  have hb : (z != 0) = true := by simpa using hw
  obtain ⟨mm, hmm⟩ : ∃ mm, mm = es.length := ⟨_, rfl⟩
  obtain ⟨ms, hms⟩ : ∃ ms, ms = set.length := ⟨_, rfl⟩
  have hne : ¬ w.heap.size + 1 = w.heap.size := by omega
  rw [← hmm] at sb0 b0 b1 hr0 hrs0 hck hle hkw
  rw [← hms] at hrs0 hck hsle
  have HMM := Lib.hid hmm; clear hmm
  have HMS := Lib.hid hms; clear hms
  have HCK := Lib.hid hck; clear hck
  have HLN := Lib.hid hln; clear hln
  have HKW := Lib.hid hkw; clear hkw
  have S0 := Lib.hid sb0; clear sb0
  have B0 := Lib.hid b0; clear b0
  have B1 := Lib.hid b1; clear b1
  have HR := Lib.hid hr0; clear hr0
  have HRS := Lib.hid hrs0; clear hrs0
  clear hr hrs hchk 
  go_enter Tryz.func12, Tryz.ntmps12
  rw [← HMM.out, ← HMS.out]
  go_wp2_with fail
  go_at_call 36
  refine HCK.out.mono ?_
  rintro e w1 ⟨hq, rfl⟩
  have s1 := S0.out.trans (hq.mono S0.out.size)
  have hr1 := HR.out.below hq (Nat.le_refl _)
  have hrs1 := HRS.out.below hq (Nat.le_refl _)
  have tk := B0.out.keep hq; have x0 := tk.cell (j := 0) rfl; have x1 := tk.cell (j := 1) rfl; have x2 := tk.cell (j := 2) rfl; have C0 := Lib.hid tk; clear tk
  have tk := B1.out.keep hq
  have y0 := tk.cell (j := 0) rfl
  have y1 := tk.cell (j := 1) rfl
  have f0 := tk.frozen 0
  have f1 := tk.frozen 1
  have C1 := Lib.hid tk
  clear tk
  have S1 := Lib.hid s1; clear s1
  have HR1 := Lib.hid hr1; clear hr1
  have HRS1 := Lib.hid hrs1; clear hrs1
  clear hq
  go_wp2_with fail
  go_at_call 37
  refine (HLN.out _).mono ?_
  rintro e w2 ⟨hq, rfl⟩
  have s2 := S1.out.trans (hq.mono S1.out.size)
  have hr2 := HR1.out.below hq (Nat.le_refl _)
  have hrs2 := HRS1.out.below hq (Nat.le_refl _)
  clear x0 x1 x2 y0 y1 f0 f1
  have tk := C0.out.keep hq; have x0 := tk.cell (j := 0) rfl; have x1 := tk.cell (j := 1) rfl; have x2 := tk.cell (j := 2) rfl; have D0 := Lib.hid tk; clear tk
  have tk := C1.out.keep hq
  have y0 := tk.cell (j := 0) rfl
  have y1 := tk.cell (j := 1) rfl
  have f0 := tk.frozen 0
  have f1 := tk.frozen 1
  have D1 := Lib.hid tk
  clear tk
  have S2 := Lib.hid s2; clear s2
  have HR2 := Lib.hid hr2; clear hr2
  have HRS2 := Lib.hid hrs2; clear hrs2
  clear hq
  go_wp2_with fail
  go_at_call 38
  refine (HKW.out _).mono ?_
  rintro e w3 ⟨hq, rfl⟩
  have s3 := S2.out.trans (hq.mono S2.out.size)
  have hr3 := HR2.out.below hq (Nat.le_refl _)
  have hrs3 := HRS2.out.below hq (Nat.le_refl _)
  clear x0 x1 x2 y0 y1 f0 f1
  have tk := D0.out.keep hq; have x0 := tk.cell (j := 0) rfl; have x1 := tk.cell (j := 1) rfl; have x2 := tk.cell (j := 2) rfl; have E0 := Lib.hid tk; clear tk
  have tk := D1.out.keep hq
  have y0 := tk.cell (j := 0) rfl
  have y1 := tk.cell (j := 1) rfl
  have f0 := tk.frozen 0
  have f1 := tk.frozen 1
  have E1 := Lib.hid tk
  clear tk
  have S3 := Lib.hid s3; clear s3
  have HR3 := Lib.hid hr3; clear hr3
  have HRS3 := Lib.hid hrs3; clear hrs3
  clear hq
  go_wp2_with fail
  refine bodyPost_ret (v := .tuple #[IntV 0, .int .i64 0, .int .i64 z]) ?_ rfl ?_
  · simp [results, Tryz.results12, go_sem, y0, y1, hne, IntV, ineg_zero, imag_zero]
  · exact ⟨(S3.out.setCell (p := ⟨w.heap.size + 1, 0, none⟩) (Nat.le_succ _) _).setCell (p := ⟨w.heap.size + 1, 1, none⟩) (Nat.le_succ _) _, rfl⟩
set_option maxRecDepth 100000 in
set_option maxHeartbeats 3200000 in
theorem rdec_mis (L S s n : Int) (es : List E3) (set : List Int) (wd : ByteArray) (v vs : Value) (w : World) (hr : Row w v es.length (ce es)) (hrs : Row w vs set.length (ci set)) (hchk : ∀ v vs w', Row w' v es.length (ce es) → Row w' vs set.length (ci set) → Calls Tryz.prog 36 #[.agg #[.int .i64 L, .int .i64 S, v], vs, .int .i64 s] w' (Ret w' (.int .i64 0))) (hn : clen n = 0) (hsz : wd.size ≤ 9223372036854775807) (hw : ckw L wd.data.toList = 0) (hm : ¬ (wd.size : Int) = n) :
    Calls Tryz.prog 12 #[.agg #[.int .i64 L, .int .i64 S, v], vs, .int .i64 s, .int .i64 n, .string wd] w (Ret w (.tuple #[IntV 0, .int .i64 0, .int .i64 11])) := by
  obtain ⟨va, vc, rfl, hle⟩ := hr.slice
  obtain ⟨sa, sc, rfl, hsle⟩ := hrs.slice
  have sb0 := ((Below.refl w.heap.size w).alloc (Nat.le_refl _) (.cells #[.int .i64 L, .int .i64 S, .slice va es.length vc] 24)).alloc (by simp) (.cells #[.bool false, .string ⟨#[]⟩] 33)
  have b0 := (Blk.new w 24 [.int .i64 L, .int .i64 S, .slice va es.length vc]).alloc (.cells #[.bool false, .string ⟨#[]⟩] 33)
  have b1 := Blk.new (w.alloc (.cells #[.int .i64 L, .int .i64 S, .slice va es.length vc] 24)) 33 [.bool false, .string ⟨#[]⟩]
  simp only [World.size_alloc] at b1
  have hr0 := hr.below sb0 (Nat.le_refl _)
  have hrs0 := hrs.below sb0 (Nat.le_refl _)
  have hck := hchk (.slice va es.length vc) (.slice sa set.length sc) _ hr0 hrs0
  have hln := fun w' => rclen_any n w'
  rw [hn] at hln
  have hkw := fun w' => rckw_any L S va es.length vc wd w' hsz
  rw [hw] at hkw
  have hb : ((wd.size : Int) != n) = true := by simpa using hm
  obtain ⟨mm, hmm⟩ : ∃ mm, mm = es.length := ⟨_, rfl⟩
  obtain ⟨ms, hms⟩ : ∃ ms, ms = set.length := ⟨_, rfl⟩
  have hne : ¬ w.heap.size + 1 = w.heap.size := by omega
  rw [← hmm] at sb0 b0 b1 hr0 hrs0 hck hle hkw
  rw [← hms] at hrs0 hck hsle
  have HMM := Lib.hid hmm; clear hmm
  have HMS := Lib.hid hms; clear hms
  have HCK := Lib.hid hck; clear hck
  have HLN := Lib.hid hln; clear hln
  have HKW := Lib.hid hkw; clear hkw
  have S0 := Lib.hid sb0; clear sb0
  have B0 := Lib.hid b0; clear b0
  have B1 := Lib.hid b1; clear b1
  have HR := Lib.hid hr0; clear hr0
  have HRS := Lib.hid hrs0; clear hrs0
  clear hr hrs hchk 
  go_enter Tryz.func12, Tryz.ntmps12
  rw [← HMM.out, ← HMS.out]
  go_wp2_with fail
  go_at_call 36
  refine HCK.out.mono ?_
  rintro e w1 ⟨hq, rfl⟩
  have s1 := S0.out.trans (hq.mono S0.out.size)
  have hr1 := HR.out.below hq (Nat.le_refl _)
  have hrs1 := HRS.out.below hq (Nat.le_refl _)
  have tk := B0.out.keep hq; have x0 := tk.cell (j := 0) rfl; have x1 := tk.cell (j := 1) rfl; have x2 := tk.cell (j := 2) rfl; have C0 := Lib.hid tk; clear tk
  have tk := B1.out.keep hq
  have y0 := tk.cell (j := 0) rfl
  have y1 := tk.cell (j := 1) rfl
  have f0 := tk.frozen 0
  have f1 := tk.frozen 1
  have C1 := Lib.hid tk
  clear tk
  have S1 := Lib.hid s1; clear s1
  have HR1 := Lib.hid hr1; clear hr1
  have HRS1 := Lib.hid hrs1; clear hrs1
  clear hq
  go_wp2_with fail
  go_at_call 37
  refine (HLN.out _).mono ?_
  rintro e w2 ⟨hq, rfl⟩
  have s2 := S1.out.trans (hq.mono S1.out.size)
  have hr2 := HR1.out.below hq (Nat.le_refl _)
  have hrs2 := HRS1.out.below hq (Nat.le_refl _)
  clear x0 x1 x2 y0 y1 f0 f1
  have tk := C0.out.keep hq; have x0 := tk.cell (j := 0) rfl; have x1 := tk.cell (j := 1) rfl; have x2 := tk.cell (j := 2) rfl; have D0 := Lib.hid tk; clear tk
  have tk := C1.out.keep hq
  have y0 := tk.cell (j := 0) rfl
  have y1 := tk.cell (j := 1) rfl
  have f0 := tk.frozen 0
  have f1 := tk.frozen 1
  have D1 := Lib.hid tk
  clear tk
  have S2 := Lib.hid s2; clear s2
  have HR2 := Lib.hid hr2; clear hr2
  have HRS2 := Lib.hid hrs2; clear hrs2
  clear hq
  go_wp2_with fail
  go_at_call 38
  refine (HKW.out _).mono ?_
  rintro e w3 ⟨hq, rfl⟩
  have s3 := S2.out.trans (hq.mono S2.out.size)
  have hr3 := HR2.out.below hq (Nat.le_refl _)
  have hrs3 := HRS2.out.below hq (Nat.le_refl _)
  clear x0 x1 x2 y0 y1 f0 f1
  have tk := D0.out.keep hq; have x0 := tk.cell (j := 0) rfl; have x1 := tk.cell (j := 1) rfl; have x2 := tk.cell (j := 2) rfl; have E0 := Lib.hid tk; clear tk
  have tk := D1.out.keep hq
  have y0 := tk.cell (j := 0) rfl
  have y1 := tk.cell (j := 1) rfl
  have f0 := tk.frozen 0
  have f1 := tk.frozen 1
  have E1 := Lib.hid tk
  clear tk
  have S3 := Lib.hid s3; clear s3
  have HR3 := Lib.hid hr3; clear hr3
  have HRS3 := Lib.hid hrs3; clear hrs3
  clear hq
  go_wp2_with fail
  refine bodyPost_ret (v := .tuple #[IntV 0, .int .i64 0, .int .i64 11]) ?_ rfl ?_
  · simp [results, Tryz.results12, go_sem, y0, y1, hne, IntV, ineg_zero, imag_zero]
  · exact ⟨(S3.out.setCell (p := ⟨w.heap.size + 1, 0, none⟩) (Nat.le_succ _) _).setCell (p := ⟨w.heap.size + 1, 1, none⟩) (Nat.le_succ _) _, rfl⟩
set_option maxRecDepth 100000 in
set_option maxHeartbeats 3200000 in
theorem rdec_ok (L : Int) (S s0 : Nat) (es : List E3) (set : List Int) (wd : ByteArray) (v vs : Value) (w : World) (hr : Row w v es.length (ce es)) (hrs : Row w vs set.length (ci set)) (hchk : ∀ v vs w', Row w' v es.length (ce es) → Row w' vs set.length (ci set) → Calls Tryz.prog 36 #[.agg #[.int .i64 L, .int .i64 (S : Int), v], vs, .int .i64 (s0 : Int)] w' (Ret w' (.int .i64 0))) (hE : eck L S es = 0) (hset : SomeS S set) (hs0 : s0 < S) (hn0 : wd.size ≤ 4096) (hw : ckw L wd.data.toList = 0) :
    Calls Tryz.prog 12 #[.agg #[.int .i64 L, .int .i64 (S : Int), v], vs, .int .i64 (s0 : Int), .int .i64 (wd.size : Int), .string wd] w (Ret w (decV (rkS (pin set) (rk es (pin set) wd.data.toList (s0 : Int) 0)))) := by
  have hcl : clen (wd.size : Int) = 0 := by unfold clen; rw [if_neg (by omega)]
  obtain ⟨va, vc, rfl, hle⟩ := hr.slice
  obtain ⟨sa, sc, rfl, hsle⟩ := hrs.slice
  have sb0 := ((Below.refl w.heap.size w).alloc (Nat.le_refl _) (.cells #[.int .i64 L, .int .i64 (S : Int), .slice va es.length vc] 24)).alloc (by simp) (.cells #[.bool false, .string ⟨#[]⟩] 33)
  have b0 := (Blk.new w 24 [.int .i64 L, .int .i64 (S : Int), .slice va es.length vc]).alloc (.cells #[.bool false, .string ⟨#[]⟩] 33)
  have b1 := Blk.new (w.alloc (.cells #[.int .i64 L, .int .i64 (S : Int), .slice va es.length vc] 24)) 33 [.bool false, .string ⟨#[]⟩]
  simp only [World.size_alloc] at b1
  have hr0 := hr.below sb0 (Nat.le_refl _)
  have hrs0 := hrs.below sb0 (Nat.le_refl _)
  have hck := hchk (.slice va es.length vc) (.slice sa set.length sc) _ hr0 hrs0
  have hrk := fun v' vs' w' h h2 => rrank_any L S s0 wd es set v' vs' w' h h2 hE hset hs0 hn0
  obtain ⟨R, hR⟩ : ∃ R, R = rkS (pin set) (rk es (pin set) wd.data.toList (s0 : Int) 0) := ⟨_, rfl⟩
  rw [← hR] at hrk ⊢
  have hrk2 := hrk (.slice va es.length vc) (.slice sa set.length sc)
  have hln := fun w' => rclen_any (wd.size : Int) w'
  rw [hcl] at hln
  have hkw := fun w' => rckw_any L (S : Int) va es.length vc wd w' (by omega)
  rw [hw] at hkw
  have hwz : ((wd.size : Int) != (wd.size : Int)) = false := by simp
  obtain ⟨mm, hmm⟩ : ∃ mm, mm = es.length := ⟨_, rfl⟩
  obtain ⟨ms, hms⟩ : ∃ ms, ms = set.length := ⟨_, rfl⟩
  have hne : ¬ w.heap.size + 1 = w.heap.size := by omega
  rw [← hmm] at sb0 b0 b1 hr0 hrs0 hck hle hkw hrk2
  rw [← hms] at hrs0 hck hsle hrk2
  have HMM := Lib.hid hmm; clear hmm
  have HMS := Lib.hid hms; clear hms
  have HCK := Lib.hid hck; clear hck
  have HLN := Lib.hid hln; clear hln
  have HKW := Lib.hid hkw; clear hkw
  have HRK := Lib.hid hrk2; clear hrk2
  have S0 := Lib.hid sb0; clear sb0
  have B0 := Lib.hid b0; clear b0
  have B1 := Lib.hid b1; clear b1
  have HR := Lib.hid hr0; clear hr0
  have HRS := Lib.hid hrs0; clear hrs0
  clear hr hrs hchk hE hrk hR hset hcl hw
  go_enter Tryz.func12, Tryz.ntmps12
  rw [← HMM.out, ← HMS.out]
  go_wp2_with fail
  go_at_call 36
  refine HCK.out.mono ?_
  rintro e w1 ⟨hq, rfl⟩
  have s1 := S0.out.trans (hq.mono S0.out.size)
  have hr1 := HR.out.below hq (Nat.le_refl _)
  have hrs1 := HRS.out.below hq (Nat.le_refl _)
  have tk := B0.out.keep hq; have x0 := tk.cell (j := 0) rfl; have x1 := tk.cell (j := 1) rfl; have x2 := tk.cell (j := 2) rfl; have C0 := Lib.hid tk; clear tk
  have tk := B1.out.keep hq
  have y0 := tk.cell (j := 0) rfl
  have y1 := tk.cell (j := 1) rfl
  have f0 := tk.frozen 0
  have f1 := tk.frozen 1
  have C1 := Lib.hid tk
  clear tk
  have S1 := Lib.hid s1; clear s1
  have HR1 := Lib.hid hr1; clear hr1
  have HRS1 := Lib.hid hrs1; clear hrs1
  clear hq
  go_wp2_with fail
  go_at_call 37
  refine (HLN.out _).mono ?_
  rintro e w2 ⟨hq, rfl⟩
  have s2 := S1.out.trans (hq.mono S1.out.size)
  have hr2 := HR1.out.below hq (Nat.le_refl _)
  have hrs2 := HRS1.out.below hq (Nat.le_refl _)
  clear x0 x1 x2 y0 y1 f0 f1
  have tk := C0.out.keep hq; have x0 := tk.cell (j := 0) rfl; have x1 := tk.cell (j := 1) rfl; have x2 := tk.cell (j := 2) rfl; have D0 := Lib.hid tk; clear tk
  have tk := C1.out.keep hq
  have y0 := tk.cell (j := 0) rfl
  have y1 := tk.cell (j := 1) rfl
  have f0 := tk.frozen 0
  have f1 := tk.frozen 1
  have D1 := Lib.hid tk
  clear tk
  have S2 := Lib.hid s2; clear s2
  have HR2 := Lib.hid hr2; clear hr2
  have HRS2 := Lib.hid hrs2; clear hrs2
  clear hq
  go_wp2_with fail
  go_at_call 38
  refine (HKW.out _).mono ?_
  rintro e w3 ⟨hq, rfl⟩
  have s3 := S2.out.trans (hq.mono S2.out.size)
  have hr3 := HR2.out.below hq (Nat.le_refl _)
  have hrs3 := HRS2.out.below hq (Nat.le_refl _)
  clear x0 x1 x2 y0 y1 f0 f1
  have tk := D0.out.keep hq; have x0 := tk.cell (j := 0) rfl; have x1 := tk.cell (j := 1) rfl; have x2 := tk.cell (j := 2) rfl; have E0 := Lib.hid tk; clear tk
  have tk := D1.out.keep hq
  have y0 := tk.cell (j := 0) rfl
  have y1 := tk.cell (j := 1) rfl
  have f0 := tk.frozen 0
  have f1 := tk.frozen 1
  have E1 := Lib.hid tk
  clear tk
  have S3 := Lib.hid s3; clear s3
  have HR3 := Lib.hid hr3; clear hr3
  have HRS3 := Lib.hid hrs3; clear hrs3
  clear hq
  go_wp2_with fail
  go_at_call 39
  refine (HRK.out _ HR3.out HRS3.out).mono ?_
  rintro e w4 ⟨hq, rfl⟩
  have s4 := S3.out.trans (hq.mono S3.out.size)
  clear x0 x1 x2 y0 y1 f0 f1
  have tk := E1.out.keep hq
  cases R with
  | none =>
    simp only [rRkV]
    have hq4 : Below w4.heap.size w4 (w4.alloc (.cells #[.bool (ineg 0), .string (imag 0)] 33)) := (Below.refl _ _).alloc (Nat.le_refl _) _
    have y0 := tk.cell (j := 0) rfl
    have y1 := tk.cell (j := 1) rfl
    have f0 := tk.frozen 0
    have f1 := tk.frozen 1
    have hg4 : w.heap.size + 1 < w4.heap.size := tk.lt
    have S5 := Lib.hid s4; clear s4
    clear hq hq4 tk
    go_wp2_with fail
    refine bodyPost_ret (v := .tuple #[IntV 0, .int .i64 0, .int .i64 13]) ?_ rfl ?_
    · have hne4 : ¬ w4.heap.size = w.heap.size + 1 := by omega
      simp [results, Tryz.results12, go_sem, y0, y1, hne, hne4, hg4, IntV, ineg_zero, imag_zero]
    · exact ⟨((S5.out.setCell (p := ⟨w.heap.size + 1, 0, none⟩) (Nat.le_succ _) _).setCell (p := ⟨w.heap.size + 1, 1, none⟩) (Nat.le_succ _) _).alloc (by have := S5.out.size; simpa using this) _, rfl⟩
  | some R =>
    obtain ⟨a, t⟩ := R
    simp only [rRkV]
    have hq4 : Below w4.heap.size w4 (w4.alloc (.cells #[.bool (ineg a), .string (imag a)] 33)) := (Below.refl _ _).alloc (Nat.le_refl _) _
    have y0 := tk.cell (j := 0) rfl
    have y1 := tk.cell (j := 1) rfl
    have f0 := tk.frozen 0
    have f1 := tk.frozen 1
    have hg4 : w.heap.size + 1 < w4.heap.size := tk.lt
    have S5 := Lib.hid s4; clear s4
    clear hq hq4 tk
    go_wp2_with fail
    refine bodyPost_ret (v := .tuple #[IntV a, .int .i64 t, .int .i64 0]) ?_ rfl ?_
    · have hne4 : ¬ w4.heap.size = w.heap.size + 1 := by omega
      simp [results, Tryz.results12, go_sem, y0, y1, hne, hne4, hg4, IntV]
    · exact ⟨((S5.out.setCell (p := ⟨w.heap.size + 1, 0, none⟩) (Nat.le_succ _) _).setCell (p := ⟨w.heap.size + 1, 1, none⟩) (Nat.le_succ _) _).alloc (by have := S5.out.size; simpa using this) _, rfl⟩
end Go.Proofs.YtalipfnbpnkgnaaGreat

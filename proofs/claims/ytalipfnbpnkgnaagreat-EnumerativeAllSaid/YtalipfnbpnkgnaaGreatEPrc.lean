/- enumerative.Principal. -/
import Derived.Test.YtalipfnbpnkgnaaGreatEPrin
import Derived.Test.YtalipfnbpnkgnaaGreatPart4
import Derived.Test.YtalipfnbpnkgnaaGreatPart8
import Derived.Test.YtalipfnbpnkgnaaGreatICheck
namespace Go.Proofs.YtalipfnbpnkgnaaGreat
open Go.RowKit

theorem eck_zero {L S : Int} {es : List E3} (h : eck L S es = 0) : chk L S es = 0 ∧ L ≤ 16 ∧ detB es = true := by
  unfold eck at h
  split at h
  · cases h
  · rename_i h1
    split at h
    · cases h
    · split at h
      · rename_i h2
        exact ⟨by simpa using h1, by omega, h2⟩
      · cases h
/-- A list and an error. -/
def POut (l : List Int) (err : Int) (w : World) (e : Ending) (w' : World) : Prop :=
  Below w.heap.size w w' ∧ ∃ v, e = .returned (.tuple #[v, .int .i64 err]) ∧ Row w' v l.length (ci l)
def prcP (L S : Int) (es : List E3) (n : Int) (ng : Bool) (s : ByteArray) : List Int × Int :=
  if eck L S es ≠ 0 then ([], eck L S es) else if n < 0 ∨ 4096 < n then ([], 2) else if cnB ng s = false then ([], 1) else if ival ng s < 1 then ([], 2)
  else if prin es n.toNat (ival ng s) (uptoZ S.toNat) = [] then ([], 15) else (prin es n.toNat (ival ng s) (uptoZ S.toNat), 0)
theorem cmpZ_one (z : Int) : decide (cmpZ z 1 < 0) = decide (z < 1) := cmpZ_neg z 1
set_option maxRecDepth 100000 in
set_option maxHeartbeats 3200000 in
theorem eprc_chk (L S : Int) (es : List E3) (v : Value) (n : Int) (ng : Bool) (s : ByteArray) (w : World) (hr : Row w v es.length (ce es)) (hok : okEs es) (hs : s.size ≤ 1099511627775) (hne : eck L S es ≠ 0) :
    Calls Tryz.prog 29 #[.agg #[.int .i64 L, .int .i64 S, v], .int .i64 n, .agg #[.bool ng, .string s]] w (POut [] (eck L S es) w) := by
  obtain ⟨E, hE⟩ : ∃ E, eck L S es = E := ⟨_, rfl⟩
  rw [hE] at hne ⊢
  obtain ⟨va, vc, rfl, hle⟩ := hr.slice
  obtain ⟨mm, hmm⟩ : ∃ mm, mm = es.length := ⟨_, rfl⟩
  have s0 := ((Below.refl w.heap.size w).alloc (Nat.le_refl _) (.cells #[.int .i64 L, .int .i64 S, .slice va es.length vc] 24)).alloc (by simp) (.cells #[.bool ng, .string s] 33)
  have b0 := (Blk.new w 24 [.int .i64 L, .int .i64 S, .slice va es.length vc]).alloc (.cells #[.bool ng, .string s] 33)
  have b1 := Blk.new (w.alloc (.cells #[.int .i64 L, .int .i64 S, .slice va es.length vc] 24)) 33 [.bool ng, .string s]
  simp only [World.size_alloc] at b1
  have hr0 := hr.below s0 (Nat.le_refl _)
  have hck := echeck_any L S es _ _ hr0 hok
  rw [← hmm] at s0 b0 b1 hr0 hck hle
  have HMM := Lib.hid hmm; clear hmm
  rw [hE] at hck
  have HCK := Lib.hid hck; clear hck
  have HE := Lib.hid hE; clear hE
  have S0 := Lib.hid s0; clear s0
  have B0 := Lib.hid b0; clear b0
  have B1 := Lib.hid b1; clear b1
  have HR := Lib.hid hr0; clear hr0
  clear hr hok
  go_enter Tryz.func29, Tryz.ntmps29
  rw [← HMM.out]
  go_wp2_with fail
  go_at_call 53
  refine HCK.out.mono ?_
  rintro e w1 ⟨hq1, rfl⟩
  have s1 := S0.out.trans (hq1.mono S0.out.size)
  have hr1 := HR.out.below hq1 (Nat.le_refl _)
  have tk := B0.out.keep hq1; have x0 := tk.cell (j := 0) rfl; have x1 := tk.cell (j := 1) rfl; have x2 := tk.cell (j := 2) rfl; have C0 := Lib.hid tk; clear tk
  have tk := B1.out.keep hq1; have y0 := tk.cell (j := 0) rfl; have y1 := tk.cell (j := 1) rfl; have C1 := Lib.hid tk; clear tk
  have S1 := Lib.hid s1; clear s1
  have HR1 := Lib.hid hr1; clear hr1
  clear hq1
  have hb : (E != 0) = true := by simp; exact hne
  go_wp2_with fail
  go_ret2
  exact ⟨S1.out, _, rfl, Row.nil _⟩
set_option maxRecDepth 100000 in
set_option maxHeartbeats 3200000 in
theorem eprc_neg (L S : Int) (es : List E3) (v : Value) (n : Int) (ng : Bool) (s : ByteArray) (w : World) (hr : Row w v es.length (ce es)) (hok : okEs es) (hs : s.size ≤ 1099511627775) (hE : eck L S es = 0) (hn : n < 0) :
    Calls Tryz.prog 29 #[.agg #[.int .i64 L, .int .i64 S, v], .int .i64 n, .agg #[.bool ng, .string s]] w (POut [] 2 w) := by
  obtain ⟨va, vc, rfl, hle⟩ := hr.slice
  obtain ⟨mm, hmm⟩ : ∃ mm, mm = es.length := ⟨_, rfl⟩
  have s0 := ((Below.refl w.heap.size w).alloc (Nat.le_refl _) (.cells #[.int .i64 L, .int .i64 S, .slice va es.length vc] 24)).alloc (by simp) (.cells #[.bool ng, .string s] 33)
  have b0 := (Blk.new w 24 [.int .i64 L, .int .i64 S, .slice va es.length vc]).alloc (.cells #[.bool ng, .string s] 33)
  have b1 := Blk.new (w.alloc (.cells #[.int .i64 L, .int .i64 S, .slice va es.length vc] 24)) 33 [.bool ng, .string s]
  simp only [World.size_alloc] at b1
  have hr0 := hr.below s0 (Nat.le_refl _)
  have hck := echeck_any L S es _ _ hr0 hok
  rw [← hmm] at s0 b0 b1 hr0 hck hle
  have HMM := Lib.hid hmm; clear hmm
  rw [hE] at hck
  have HCK := Lib.hid hck; clear hck
  clear hE
  have S0 := Lib.hid s0; clear s0
  have B0 := Lib.hid b0; clear b0
  have B1 := Lib.hid b1; clear b1
  have HR := Lib.hid hr0; clear hr0
  clear hr hok
  go_enter Tryz.func29, Tryz.ntmps29
  rw [← HMM.out]
  go_wp2_with fail
  go_at_call 53
  refine HCK.out.mono ?_
  rintro e w1 ⟨hq1, rfl⟩
  have s1 := S0.out.trans (hq1.mono S0.out.size)
  have hr1 := HR.out.below hq1 (Nat.le_refl _)
  have tk := B0.out.keep hq1; have x0 := tk.cell (j := 0) rfl; have x1 := tk.cell (j := 1) rfl; have x2 := tk.cell (j := 2) rfl; have C0 := Lib.hid tk; clear tk
  have tk := B1.out.keep hq1; have y0 := tk.cell (j := 0) rfl; have y1 := tk.cell (j := 1) rfl; have C1 := Lib.hid tk; clear tk
  have S1 := Lib.hid s1; clear s1
  have HR1 := Lib.hid hr1; clear hr1
  clear hq1
  have t1 : decide (n < 0) = true := by simpa using hn
  go_wp2_with fail
  go_ret2
  exact ⟨S1.out, _, rfl, Row.nil _⟩
set_option maxRecDepth 100000 in
set_option maxHeartbeats 3200000 in
theorem eprc_big (L S : Int) (es : List E3) (v : Value) (n : Int) (ng : Bool) (s : ByteArray) (w : World) (hr : Row w v es.length (ce es)) (hok : okEs es) (hs : s.size ≤ 1099511627775) (hE : eck L S es = 0) (hn0 : 0 ≤ n) (hn : 4096 < n) :
    Calls Tryz.prog 29 #[.agg #[.int .i64 L, .int .i64 S, v], .int .i64 n, .agg #[.bool ng, .string s]] w (POut [] 2 w) := by
  obtain ⟨va, vc, rfl, hle⟩ := hr.slice
  obtain ⟨mm, hmm⟩ : ∃ mm, mm = es.length := ⟨_, rfl⟩
  have s0 := ((Below.refl w.heap.size w).alloc (Nat.le_refl _) (.cells #[.int .i64 L, .int .i64 S, .slice va es.length vc] 24)).alloc (by simp) (.cells #[.bool ng, .string s] 33)
  have b0 := (Blk.new w 24 [.int .i64 L, .int .i64 S, .slice va es.length vc]).alloc (.cells #[.bool ng, .string s] 33)
  have b1 := Blk.new (w.alloc (.cells #[.int .i64 L, .int .i64 S, .slice va es.length vc] 24)) 33 [.bool ng, .string s]
  simp only [World.size_alloc] at b1
  have hr0 := hr.below s0 (Nat.le_refl _)
  have hck := echeck_any L S es _ _ hr0 hok
  rw [← hmm] at s0 b0 b1 hr0 hck hle
  have HMM := Lib.hid hmm; clear hmm
  rw [hE] at hck
  have HCK := Lib.hid hck; clear hck
  clear hE
  have S0 := Lib.hid s0; clear s0
  have B0 := Lib.hid b0; clear b0
  have B1 := Lib.hid b1; clear b1
  have HR := Lib.hid hr0; clear hr0
  clear hr hok
  go_enter Tryz.func29, Tryz.ntmps29
  rw [← HMM.out]
  go_wp2_with fail
  go_at_call 53
  refine HCK.out.mono ?_
  rintro e w1 ⟨hq1, rfl⟩
  have s1 := S0.out.trans (hq1.mono S0.out.size)
  have hr1 := HR.out.below hq1 (Nat.le_refl _)
  have tk := B0.out.keep hq1; have x0 := tk.cell (j := 0) rfl; have x1 := tk.cell (j := 1) rfl; have x2 := tk.cell (j := 2) rfl; have C0 := Lib.hid tk; clear tk
  have tk := B1.out.keep hq1; have y0 := tk.cell (j := 0) rfl; have y1 := tk.cell (j := 1) rfl; have C1 := Lib.hid tk; clear tk
  have S1 := Lib.hid s1; clear s1
  have HR1 := Lib.hid hr1; clear hr1
  clear hq1
  have t1 : decide (n < 0) = false := by simp; omega
  have t2 : decide (4096 < n) = true := by simpa using hn
  go_wp2_with fail
  go_ret2
  exact ⟨S1.out, _, rfl, Row.nil _⟩
set_option maxRecDepth 100000 in
set_option maxHeartbeats 3200000 in
theorem eprc_cn (L S : Int) (es : List E3) (v : Value) (n : Int) (ng : Bool) (s : ByteArray) (w : World) (hr : Row w v es.length (ce es)) (hok : okEs es) (hs : s.size ≤ 1099511627775) (hE : eck L S es = 0) (hn0 : 0 ≤ n) (hn : n ≤ 4096) (hcn : cnB ng s = false) :
    Calls Tryz.prog 29 #[.agg #[.int .i64 L, .int .i64 S, v], .int .i64 n, .agg #[.bool ng, .string s]] w (POut [] 1 w) := by
  obtain ⟨va, vc, rfl, hle⟩ := hr.slice
  obtain ⟨mm, hmm⟩ : ∃ mm, mm = es.length := ⟨_, rfl⟩
  have s0 := ((Below.refl w.heap.size w).alloc (Nat.le_refl _) (.cells #[.int .i64 L, .int .i64 S, .slice va es.length vc] 24)).alloc (by simp) (.cells #[.bool ng, .string s] 33)
  have b0 := (Blk.new w 24 [.int .i64 L, .int .i64 S, .slice va es.length vc]).alloc (.cells #[.bool ng, .string s] 33)
  have b1 := Blk.new (w.alloc (.cells #[.int .i64 L, .int .i64 S, .slice va es.length vc] 24)) 33 [.bool ng, .string s]
  simp only [World.size_alloc] at b1
  have hr0 := hr.below s0 (Nat.le_refl _)
  have hck := echeck_any L S es _ _ hr0 hok
  rw [← hmm] at s0 b0 b1 hr0 hck hle
  have HMM := Lib.hid hmm; clear hmm
  rw [hE] at hck
  have HCK := Lib.hid hck; clear hck
  clear hE
  have S0 := Lib.hid s0; clear s0
  have B0 := Lib.hid b0; clear b0
  have B1 := Lib.hid b1; clear b1
  have HR := Lib.hid hr0; clear hr0
  clear hr hok
  go_enter Tryz.func29, Tryz.ntmps29
  rw [← HMM.out]
  go_wp2_with fail
  go_at_call 53
  refine HCK.out.mono ?_
  rintro e w1 ⟨hq1, rfl⟩
  have s1 := S0.out.trans (hq1.mono S0.out.size)
  have hr1 := HR.out.below hq1 (Nat.le_refl _)
  have tk := B0.out.keep hq1; have x0 := tk.cell (j := 0) rfl; have x1 := tk.cell (j := 1) rfl; have x2 := tk.cell (j := 2) rfl; have C0 := Lib.hid tk; clear tk
  have tk := B1.out.keep hq1; have y0 := tk.cell (j := 0) rfl; have y1 := tk.cell (j := 1) rfl; have C1 := Lib.hid tk; clear tk
  have S1 := Lib.hid s1; clear s1
  have HR1 := Lib.hid hr1; clear hr1
  clear hq1
  have hic := fun w' => icheck_any ng s w' hs
  rw [hcn] at hic
  have HIC := Lib.hid hic; clear hic
  have t1 : decide (n < 0) = false := by simp <;> omega
  have t2 : decide (4096 < n) = false := by simp <;> omega
  go_wp2_with fail
  go_at_call 41
  refine (HIC.out _).mono ?_
  rintro e w2 ⟨hq2, rfl⟩
  have s2 := S1.out.trans (hq2.mono S1.out.size)
  have hr2 := HR1.out.below hq2 (Nat.le_refl _)
  have tk := C0.out.keep hq2; have u0 := tk.cell (j := 0) rfl; have u1 := tk.cell (j := 1) rfl; have u2 := tk.cell (j := 2) rfl; have D0 := Lib.hid tk; clear tk
  have tk := C1.out.keep hq2; have z0 := tk.cell (j := 0) rfl; have z1 := tk.cell (j := 1) rfl; have D1 := Lib.hid tk; clear tk
  have S2 := Lib.hid s2; clear s2
  have HR2 := Lib.hid hr2; clear hr2
  clear hq2 x0 x1 x2 y0 y1
  have hb : (chkZ false != 0) = true := rfl
  go_wp2_with fail
  go_ret2
  exact ⟨S2.out, _, rfl, Row.nil _⟩
set_option maxRecDepth 100000 in
set_option maxHeartbeats 3200000 in
theorem eprc_low (L S : Int) (es : List E3) (v : Value) (n : Int) (ng : Bool) (s : ByteArray) (w : World) (hr : Row w v es.length (ce es)) (hok : okEs es) (hs : s.size ≤ 1099511627775) (hE : eck L S es = 0) (hn0 : 0 ≤ n) (hn : n ≤ 4096) (hcn : cnB ng s = true) (hz : ival ng s < 1) :
    Calls Tryz.prog 29 #[.agg #[.int .i64 L, .int .i64 S, v], .int .i64 n, .agg #[.bool ng, .string s]] w (POut [] 2 w) := by
  obtain ⟨va, vc, rfl, hle⟩ := hr.slice
  obtain ⟨mm, hmm⟩ : ∃ mm, mm = es.length := ⟨_, rfl⟩
  have s0 := ((Below.refl w.heap.size w).alloc (Nat.le_refl _) (.cells #[.int .i64 L, .int .i64 S, .slice va es.length vc] 24)).alloc (by simp) (.cells #[.bool ng, .string s] 33)
  have b0 := (Blk.new w 24 [.int .i64 L, .int .i64 S, .slice va es.length vc]).alloc (.cells #[.bool ng, .string s] 33)
  have b1 := Blk.new (w.alloc (.cells #[.int .i64 L, .int .i64 S, .slice va es.length vc] 24)) 33 [.bool ng, .string s]
  simp only [World.size_alloc] at b1
  have hr0 := hr.below s0 (Nat.le_refl _)
  have hck := echeck_any L S es _ _ hr0 hok
  rw [← hmm] at s0 b0 b1 hr0 hck hle
  have HMM := Lib.hid hmm; clear hmm
  rw [hE] at hck
  have HCK := Lib.hid hck; clear hck
  clear hE
  have S0 := Lib.hid s0; clear s0
  have B0 := Lib.hid b0; clear b0
  have B1 := Lib.hid b1; clear b1
  have HR := Lib.hid hr0; clear hr0
  clear hr hok
  go_enter Tryz.func29, Tryz.ntmps29
  rw [← HMM.out]
  go_wp2_with fail
  go_at_call 53
  refine HCK.out.mono ?_
  rintro e w1 ⟨hq1, rfl⟩
  have s1 := S0.out.trans (hq1.mono S0.out.size)
  have hr1 := HR.out.below hq1 (Nat.le_refl _)
  have tk := B0.out.keep hq1; have x0 := tk.cell (j := 0) rfl; have x1 := tk.cell (j := 1) rfl; have x2 := tk.cell (j := 2) rfl; have C0 := Lib.hid tk; clear tk
  have tk := B1.out.keep hq1; have y0 := tk.cell (j := 0) rfl; have y1 := tk.cell (j := 1) rfl; have C1 := Lib.hid tk; clear tk
  have S1 := Lib.hid s1; clear s1
  have HR1 := Lib.hid hr1; clear hr1
  clear hq1
  have hic := fun w' => icheck_any ng s w' hs
  rw [hcn] at hic
  have HIC := Lib.hid hic; clear hic
  have t1 : decide (n < 0) = false := by simp <;> omega
  have t2 : decide (4096 < n) = false := by simp <;> omega
  go_wp2_with fail
  go_at_call 41
  refine (HIC.out _).mono ?_
  rintro e w2 ⟨hq2, rfl⟩
  have s2 := S1.out.trans (hq2.mono S1.out.size)
  have hr2 := HR1.out.below hq2 (Nat.le_refl _)
  have tk := C0.out.keep hq2; have u0 := tk.cell (j := 0) rfl; have u1 := tk.cell (j := 1) rfl; have u2 := tk.cell (j := 2) rfl; have D0 := Lib.hid tk; clear tk
  have tk := C1.out.keep hq2; have z0 := tk.cell (j := 0) rfl; have z1 := tk.cell (j := 1) rfl; have D1 := Lib.hid tk; clear tk
  have S2 := Lib.hid s2; clear s2
  have HR2 := Lib.hid hr2; clear hr2
  clear hq2 x0 x1 x2 y0 y1
  have hof := fun w' => iof_any 1 w' (by decide) (by decide)
  have hsz1 : (imag 1).size ≤ 1099511627775 := by rw [imag_size]; exact Nat.le_trans (m := 1) (by decide +kernel) (by decide)
  have hcmp := fun w' => icompare_any ng (ineg 1) s (imag 1) w' hs hsz1
  simp only [ival_canon] at hcmp
  obtain ⟨cz, hcz⟩ : ∃ cz, cz = cmpZ (ival ng s) 1 := ⟨_, rfl⟩
  simp only [← hcz] at hcmp
  have hlt2 : decide (cz < 0) = true := by rw [hcz, cmpZ_one]; simpa using hz
  have HOF := Lib.hid hof; clear hof
  have HCMP := Lib.hid hcmp; clear hcmp
  clear hcz
  have hb : (chkZ true != 0) = false := rfl
  go_wp2_with fail
  go_upto_region 8 with (fail)
  have hq1z := D1.out.lt
  refine wp_region_held_drew (S := fun w' => w'.cell? ⟨w.heap.size + 1, 0, none⟩ = some (.bool ng) ∧ w'.cell? ⟨w.heap.size + 1, 1, none⟩ = some (.string s)) (by kernel_rfl) ?_ (fun hHeld => ?_)
  · go_keep
  refine wpAnyH_take (i := 0) (v := ?_) rfl (by kernel_rfl) (by kernel_rfl) (by kernel_rfl) (fun _ _ _ h => h) (Or.inl ⟨by rfl, ?_⟩) (by assumption) ?_
  rotate_left
  · (intro wS hSw; (try dsimp only at hSw); go_simp; (try with_reducible rfl))
  (try simp only [Act.put, List.setIfInBounds_toArray, List.set_cons_zero, List.set_cons_succ])
  refine wpAnyH_ready (rs := [1]) (by kernel_rfl) (by simp) ?_
  refine AllReadyH.cons rfl (fun K hK => ?_) AllReadyH.nil
  go_simp
  go_at_call 20
  refine (HOF.out _).mono ?_
  rintro e w4 ⟨hq4, rfl⟩
  dsimp only
  have a0 := (hq4.cell (p := ⟨w.heap.size + 1, 0, none⟩) (by simpa using hq1z)).trans hHeld.1
  have a1 := (hq4.cell (p := ⟨w.heap.size + 1, 1, none⟩) (by simpa using hq1z)).trans hHeld.2
  refine hK.out _ _ ⟨a0, a1⟩ (fun hHeld2 => ?_)
  clear hK K
  (try simp only [Act.put, List.setIfInBounds_toArray, List.set_cons_zero, List.set_cons_succ])
  have s4 := S2.out.drew.trans (hq4.mono S2.out.drew.size)
  have hr4 := HR2.out.drew.below hq4 (Nat.le_refl _)
  have hq4z : w.heap.size + 1 < w4.heap.size := by have := hq4.size; simp at this; omega
  have e0 := D0.out.drew.keep hq4
  have e1 := D1.out.drew.keep hq4
  have E0 := Lib.hid e0; clear e0
  have E1 := Lib.hid e1; clear e1
  have S4 := Lib.hid s4; clear s4
  have HR4 := Lib.hid hr4; clear hr4
  clear hq4 u0 u1 u2 z0 z1
  refine wpAnyH_ready (rs := [2]) (by kernel_rfl) (by simp) ?_
  refine AllReadyH.cons rfl (fun K hK => ?_) AllReadyH.nil
  go_simp
  go_at_call 62
  refine (HCMP.out _).mono ?_
  rintro e w5 ⟨hq5, rfl⟩
  dsimp only
  have a2 := (hq5.cell (p := ⟨w.heap.size + 1, 0, none⟩) hq4z).trans a0
  have a3 := (hq5.cell (p := ⟨w.heap.size + 1, 1, none⟩) hq4z).trans a1
  refine hK.out _ _ ⟨a2, a3⟩ (fun hHeld3 => ?_)
  clear hK K
  (try simp only [Act.put, List.setIfInBounds_toArray, List.set_cons_zero, List.set_cons_succ])
  have s5 := S4.out.trans (hq5.mono S4.out.size)
  have hr5 := HR4.out.below hq5 (Nat.le_refl _)
  have tk := E0.out.keep hq5; have u0 := tk.cell (j := 0) rfl; have u1 := tk.cell (j := 1) rfl; have u2 := tk.cell (j := 2) rfl; have F0 := Lib.hid tk; clear tk
  have tk := E1.out.keep hq5; have z0 := tk.cell (j := 0) rfl; have z1 := tk.cell (j := 1) rfl; have F1 := Lib.hid tk; clear tk
  have S5 := Lib.hid s5; clear s5
  have HR5 := Lib.hid hr5; clear hr5
  clear hq5 a0 a1 a2 a3
  refine wpAnyH_take (i := 3) (v := ?_) rfl (by kernel_rfl) (by kernel_rfl) (by kernel_rfl) (fun _ _ _ h => h) (Or.inl ⟨by rfl, ?_⟩) (by assumption) ?_
  rotate_left
  · (intro wS hSw; (try dsimp only at hSw); go_simp; (try with_reducible rfl))
  (try simp only [Act.put, List.setIfInBounds_toArray, List.set_cons_zero, List.set_cons_succ])
  refine wpAnyH_take (i := 4) (v := ?_) rfl (by kernel_rfl) (by kernel_rfl) (by kernel_rfl) (fun _ _ _ h => h) (Or.inl ⟨by rfl, ?_⟩) (by assumption) ?_
  rotate_left
  · (intro wS hSw; (try dsimp only at hSw); go_simp; (try with_reducible rfl))
  (try simp only [Act.put, List.setIfInBounds_toArray, List.set_cons_zero, List.set_cons_succ])
  refine wpAnyH_done (by kernel_rfl) ?_ _
  go_wp2_with fail
  go_ret2
  exact ⟨S5.out, _, rfl, Row.nil _⟩
set_option maxRecDepth 100000 in
set_option maxHeartbeats 3200000 in
theorem eprc_none (L S : Int) (es : List E3) (v : Value) (n : Int) (ng : Bool) (s : ByteArray) (w : World) (hr : Row w v es.length (ce es)) (hok : okEs es) (hs : s.size ≤ 1099511627775) (hE : eck L S es = 0) (hn0 : 0 ≤ n) (hn : n ≤ 4096) (hcn : cnB ng s = true) (hz : ¬ ival ng s < 1) (hp : prin es n.toNat (ival ng s) (uptoZ S.toNat) = []) :
    Calls Tryz.prog 29 #[.agg #[.int .i64 L, .int .i64 S, v], .int .i64 n, .agg #[.bool ng, .string s]] w (POut [] 15 w) := by
  have hsm : small (ival ng s) := Nat.le_trans (imag_size_ival ng s) hs
  obtain ⟨hchk, -, -⟩ := eck_zero hE
  have hca := chk_all hchk
  obtain ⟨S', rfl⟩ : ∃ S' : Nat, S = S' := ⟨S.toNat, by omega⟩
  obtain ⟨n', rfl⟩ : ∃ n' : Nat, n = n' := ⟨n.toNat, by omega⟩
  have hinS := chk_inS hchk
  have hS64 : S' ≤ 64 := by omega
  have hlen := hca.2.2.2.1
  rw [Int.toNat_natCast, Int.toNat_natCast] at hp
  clear hchk hca
  obtain ⟨va, vc, rfl, hle⟩ := hr.slice
  obtain ⟨mm, hmm⟩ : ∃ mm, mm = es.length := ⟨_, rfl⟩
  have s0 := ((Below.refl w.heap.size w).alloc (Nat.le_refl _) (.cells #[.int .i64 L, .int .i64 (S' : Int), .slice va es.length vc] 24)).alloc (by simp) (.cells #[.bool ng, .string s] 33)
  have b0 := (Blk.new w 24 [.int .i64 L, .int .i64 (S' : Int), .slice va es.length vc]).alloc (.cells #[.bool ng, .string s] 33)
  have b1 := Blk.new (w.alloc (.cells #[.int .i64 L, .int .i64 (S' : Int), .slice va es.length vc] 24)) 33 [.bool ng, .string s]
  simp only [World.size_alloc] at b1
  have hr0 := hr.below s0 (Nat.le_refl _)
  have hck := echeck_any L (S' : Int) es _ _ hr0 hok
  rw [← hmm] at s0 b0 b1 hr0 hck hle
  have HMM := Lib.hid hmm; clear hmm
  rw [hE] at hck
  have HCK := Lib.hid hck; clear hck
  clear hE
  have S0 := Lib.hid s0; clear s0
  have B0 := Lib.hid b0; clear b0
  have B1 := Lib.hid b1; clear b1
  have HR := Lib.hid hr0; clear hr0
  clear hr hok
  go_enter Tryz.func29, Tryz.ntmps29
  rw [← HMM.out]
  go_wp2_with fail
  go_at_call 53
  refine HCK.out.mono ?_
  rintro e w1 ⟨hq1, rfl⟩
  have s1 := S0.out.trans (hq1.mono S0.out.size)
  have hr1 := HR.out.below hq1 (Nat.le_refl _)
  have tk := B0.out.keep hq1; have x0 := tk.cell (j := 0) rfl; have x1 := tk.cell (j := 1) rfl; have x2 := tk.cell (j := 2) rfl; have C0 := Lib.hid tk; clear tk
  have tk := B1.out.keep hq1; have y0 := tk.cell (j := 0) rfl; have y1 := tk.cell (j := 1) rfl; have C1 := Lib.hid tk; clear tk
  have S1 := Lib.hid s1; clear s1
  have HR1 := Lib.hid hr1; clear hr1
  clear hq1
  have hic := fun w' => icheck_any ng s w' hs
  rw [hcn] at hic
  have HIC := Lib.hid hic; clear hic
  have t1 : decide ((n' : Int) < 0) = false := by simp <;> omega
  have t2 : decide (4096 < (n' : Int)) = false := by simp <;> omega
  go_wp2_with fail
  go_at_call 41
  refine (HIC.out _).mono ?_
  rintro e w2 ⟨hq2, rfl⟩
  have s2 := S1.out.trans (hq2.mono S1.out.size)
  have hr2 := HR1.out.below hq2 (Nat.le_refl _)
  have tk := C0.out.keep hq2; have u0 := tk.cell (j := 0) rfl; have u1 := tk.cell (j := 1) rfl; have u2 := tk.cell (j := 2) rfl; have D0 := Lib.hid tk; clear tk
  have tk := C1.out.keep hq2; have z0 := tk.cell (j := 0) rfl; have z1 := tk.cell (j := 1) rfl; have D1 := Lib.hid tk; clear tk
  have S2 := Lib.hid s2; clear s2
  have HR2 := Lib.hid hr2; clear hr2
  clear hq2 x0 x1 x2 y0 y1
  have hof := fun w' => iof_any 1 w' (by decide) (by decide)
  have hsz1 : (imag 1).size ≤ 1099511627775 := by rw [imag_size]; exact Nat.le_trans (m := 1) (by decide +kernel) (by decide)
  have hcmp := fun w' => icompare_any ng (ineg 1) s (imag 1) w' hs hsz1
  simp only [ival_canon] at hcmp
  obtain ⟨cz, hcz⟩ : ∃ cz, cz = cmpZ (ival ng s) 1 := ⟨_, rfl⟩
  simp only [← hcz] at hcmp
  have hlt2 : decide (cz < 0) = false := by rw [hcz, cmpZ_one]; simp; omega
  have HOF := Lib.hid hof; clear hof
  have HCMP := Lib.hid hcmp; clear hcmp
  clear hcz
  have hb : (chkZ true != 0) = false := rfl
  go_wp2_with fail
  go_upto_region 8 with (fail)
  have hq1z := D1.out.lt
  refine wp_region_held_drew (S := fun w' => w'.cell? ⟨w.heap.size + 1, 0, none⟩ = some (.bool ng) ∧ w'.cell? ⟨w.heap.size + 1, 1, none⟩ = some (.string s)) (by kernel_rfl) ?_ (fun hHeld => ?_)
  · go_keep
  refine wpAnyH_take (i := 0) (v := ?_) rfl (by kernel_rfl) (by kernel_rfl) (by kernel_rfl) (fun _ _ _ h => h) (Or.inl ⟨by rfl, ?_⟩) (by assumption) ?_
  rotate_left
  · (intro wS hSw; (try dsimp only at hSw); go_simp; (try with_reducible rfl))
  (try simp only [Act.put, List.setIfInBounds_toArray, List.set_cons_zero, List.set_cons_succ])
  refine wpAnyH_ready (rs := [1]) (by kernel_rfl) (by simp) ?_
  refine AllReadyH.cons rfl (fun K hK => ?_) AllReadyH.nil
  go_simp
  go_at_call 20
  refine (HOF.out _).mono ?_
  rintro e w4 ⟨hq4, rfl⟩
  dsimp only
  have a0 := (hq4.cell (p := ⟨w.heap.size + 1, 0, none⟩) (by simpa using hq1z)).trans hHeld.1
  have a1 := (hq4.cell (p := ⟨w.heap.size + 1, 1, none⟩) (by simpa using hq1z)).trans hHeld.2
  refine hK.out _ _ ⟨a0, a1⟩ (fun hHeld2 => ?_)
  clear hK K
  (try simp only [Act.put, List.setIfInBounds_toArray, List.set_cons_zero, List.set_cons_succ])
  have s4 := S2.out.drew.trans (hq4.mono S2.out.drew.size)
  have hr4 := HR2.out.drew.below hq4 (Nat.le_refl _)
  have hq4z : w.heap.size + 1 < w4.heap.size := by have := hq4.size; simp at this; omega
  have e0 := D0.out.drew.keep hq4
  have e1 := D1.out.drew.keep hq4
  have E0 := Lib.hid e0; clear e0
  have E1 := Lib.hid e1; clear e1
  have S4 := Lib.hid s4; clear s4
  have HR4 := Lib.hid hr4; clear hr4
  clear hq4 u0 u1 u2 z0 z1
  refine wpAnyH_ready (rs := [2]) (by kernel_rfl) (by simp) ?_
  refine AllReadyH.cons rfl (fun K hK => ?_) AllReadyH.nil
  go_simp
  go_at_call 62
  refine (HCMP.out _).mono ?_
  rintro e w5 ⟨hq5, rfl⟩
  dsimp only
  have a2 := (hq5.cell (p := ⟨w.heap.size + 1, 0, none⟩) hq4z).trans a0
  have a3 := (hq5.cell (p := ⟨w.heap.size + 1, 1, none⟩) hq4z).trans a1
  refine hK.out _ _ ⟨a2, a3⟩ (fun hHeld3 => ?_)
  clear hK K
  (try simp only [Act.put, List.setIfInBounds_toArray, List.set_cons_zero, List.set_cons_succ])
  have s5 := S4.out.trans (hq5.mono S4.out.size)
  have hr5 := HR4.out.below hq5 (Nat.le_refl _)
  have tk := E0.out.keep hq5; have u0 := tk.cell (j := 0) rfl; have u1 := tk.cell (j := 1) rfl; have u2 := tk.cell (j := 2) rfl; have F0 := Lib.hid tk; clear tk
  have tk := E1.out.keep hq5; have z0 := tk.cell (j := 0) rfl; have z1 := tk.cell (j := 1) rfl; have F1 := Lib.hid tk; clear tk
  have S5 := Lib.hid s5; clear s5
  have HR5 := Lib.hid hr5; clear hr5
  clear hq5 a0 a1 a2 a3
  refine wpAnyH_take (i := 3) (v := ?_) rfl (by kernel_rfl) (by kernel_rfl) (by kernel_rfl) (fun _ _ _ h => h) (Or.inl ⟨by rfl, ?_⟩) (by assumption) ?_
  rotate_left
  · (intro wS hSw; (try dsimp only at hSw); go_simp; (try with_reducible rfl))
  (try simp only [Act.put, List.setIfInBounds_toArray, List.set_cons_zero, List.set_cons_succ])
  refine wpAnyH_take (i := 4) (v := ?_) rfl (by kernel_rfl) (by kernel_rfl) (by kernel_rfl) (fun _ _ _ h => h) (Or.inl ⟨by rfl, ?_⟩) (by assumption) ?_
  rotate_left
  · (intro wS hSw; (try dsimp only at hSw); go_simp; (try with_reducible rfl))
  (try simp only [Act.put, List.setIfInBounds_toArray, List.set_cons_zero, List.set_cons_succ])
  refine wpAnyH_done (by kernel_rfl) ?_ _
  have hpr := fun w' h => principal_any L (ival ng s) S' n' es (.slice va mm vc) w' h hS64 (by omega) hlen hinS hsm
  rw [← HMM.out] at hpr
  obtain ⟨hc1, hc2⟩ := (cnB_iff ng s).1 hcn
  rw [hc1, hc2] at hpr
  obtain ⟨l, hl⟩ : ∃ l, l = prin es n' (ival ng s) (uptoZ S') := ⟨_, rfl⟩
  rw [← hl] at hpr hp
  have HPR := Lib.hid hpr; clear hpr
  have HL := Lib.hid hl; clear hl
  clear hcn hc1 hc2 hz
  go_wp2_with fail
  go_at_call 63
  refine (HPR.out _ HR5.out).mono ?_
  rintro e w6 ⟨hq6, vl, rfl, hrl⟩
  obtain ⟨la, lc, rfl, -⟩ := hrl.slice
  have s6 := S5.out.trans (hq6.mono S5.out.size)
  have S6 := Lib.hid s6; clear s6
  clear hq6
  have hb2 : ((l.length : Int) == 0) = true := by rw [hp]; rfl
  clear hp
  go_wp2_with fail
  go_ret2
  exact ⟨S6.out, _, rfl, Row.nil _⟩
set_option maxRecDepth 100000 in
set_option maxHeartbeats 3200000 in
theorem eprc_some (L S : Int) (es : List E3) (v : Value) (n : Int) (ng : Bool) (s : ByteArray) (w : World) (hr : Row w v es.length (ce es)) (hok : okEs es) (hs : s.size ≤ 1099511627775) (hE : eck L S es = 0) (hn0 : 0 ≤ n) (hn : n ≤ 4096) (hcn : cnB ng s = true) (hz : ¬ ival ng s < 1) (hp : ¬ prin es n.toNat (ival ng s) (uptoZ S.toNat) = []) :
    Calls Tryz.prog 29 #[.agg #[.int .i64 L, .int .i64 S, v], .int .i64 n, .agg #[.bool ng, .string s]] w (POut (prin es n.toNat (ival ng s) (uptoZ S.toNat)) 0 w) := by
  have hsm : small (ival ng s) := Nat.le_trans (imag_size_ival ng s) hs
  obtain ⟨hchk, -, -⟩ := eck_zero hE
  have hca := chk_all hchk
  obtain ⟨S', rfl⟩ : ∃ S' : Nat, S = S' := ⟨S.toNat, by omega⟩
  obtain ⟨n', rfl⟩ : ∃ n' : Nat, n = n' := ⟨n.toNat, by omega⟩
  have hinS := chk_inS hchk
  have hS64 : S' ≤ 64 := by omega
  have hlen := hca.2.2.2.1
  rw [Int.toNat_natCast, Int.toNat_natCast] at hp ⊢
  clear hchk hca
  obtain ⟨va, vc, rfl, hle⟩ := hr.slice
  obtain ⟨mm, hmm⟩ : ∃ mm, mm = es.length := ⟨_, rfl⟩
  have s0 := ((Below.refl w.heap.size w).alloc (Nat.le_refl _) (.cells #[.int .i64 L, .int .i64 (S' : Int), .slice va es.length vc] 24)).alloc (by simp) (.cells #[.bool ng, .string s] 33)
  have b0 := (Blk.new w 24 [.int .i64 L, .int .i64 (S' : Int), .slice va es.length vc]).alloc (.cells #[.bool ng, .string s] 33)
  have b1 := Blk.new (w.alloc (.cells #[.int .i64 L, .int .i64 (S' : Int), .slice va es.length vc] 24)) 33 [.bool ng, .string s]
  simp only [World.size_alloc] at b1
  have hr0 := hr.below s0 (Nat.le_refl _)
  have hck := echeck_any L (S' : Int) es _ _ hr0 hok
  rw [← hmm] at s0 b0 b1 hr0 hck hle
  have HMM := Lib.hid hmm; clear hmm
  rw [hE] at hck
  have HCK := Lib.hid hck; clear hck
  clear hE
  have S0 := Lib.hid s0; clear s0
  have B0 := Lib.hid b0; clear b0
  have B1 := Lib.hid b1; clear b1
  have HR := Lib.hid hr0; clear hr0
  clear hr hok
  go_enter Tryz.func29, Tryz.ntmps29
  rw [← HMM.out]
  go_wp2_with fail
  go_at_call 53
  refine HCK.out.mono ?_
  rintro e w1 ⟨hq1, rfl⟩
  have s1 := S0.out.trans (hq1.mono S0.out.size)
  have hr1 := HR.out.below hq1 (Nat.le_refl _)
  have tk := B0.out.keep hq1; have x0 := tk.cell (j := 0) rfl; have x1 := tk.cell (j := 1) rfl; have x2 := tk.cell (j := 2) rfl; have C0 := Lib.hid tk; clear tk
  have tk := B1.out.keep hq1; have y0 := tk.cell (j := 0) rfl; have y1 := tk.cell (j := 1) rfl; have C1 := Lib.hid tk; clear tk
  have S1 := Lib.hid s1; clear s1
  have HR1 := Lib.hid hr1; clear hr1
  clear hq1
  have hic := fun w' => icheck_any ng s w' hs
  rw [hcn] at hic
  have HIC := Lib.hid hic; clear hic
  have t1 : decide ((n' : Int) < 0) = false := by simp <;> omega
  have t2 : decide (4096 < (n' : Int)) = false := by simp <;> omega
  go_wp2_with fail
  go_at_call 41
  refine (HIC.out _).mono ?_
  rintro e w2 ⟨hq2, rfl⟩
  have s2 := S1.out.trans (hq2.mono S1.out.size)
  have hr2 := HR1.out.below hq2 (Nat.le_refl _)
  have tk := C0.out.keep hq2; have u0 := tk.cell (j := 0) rfl; have u1 := tk.cell (j := 1) rfl; have u2 := tk.cell (j := 2) rfl; have D0 := Lib.hid tk; clear tk
  have tk := C1.out.keep hq2; have z0 := tk.cell (j := 0) rfl; have z1 := tk.cell (j := 1) rfl; have D1 := Lib.hid tk; clear tk
  have S2 := Lib.hid s2; clear s2
  have HR2 := Lib.hid hr2; clear hr2
  clear hq2 x0 x1 x2 y0 y1
  have hof := fun w' => iof_any 1 w' (by decide) (by decide)
  have hsz1 : (imag 1).size ≤ 1099511627775 := by rw [imag_size]; exact Nat.le_trans (m := 1) (by decide +kernel) (by decide)
  have hcmp := fun w' => icompare_any ng (ineg 1) s (imag 1) w' hs hsz1
  simp only [ival_canon] at hcmp
  obtain ⟨cz, hcz⟩ : ∃ cz, cz = cmpZ (ival ng s) 1 := ⟨_, rfl⟩
  simp only [← hcz] at hcmp
  have hlt2 : decide (cz < 0) = false := by rw [hcz, cmpZ_one]; simp; omega
  have HOF := Lib.hid hof; clear hof
  have HCMP := Lib.hid hcmp; clear hcmp
  clear hcz
  have hb : (chkZ true != 0) = false := rfl
  go_wp2_with fail
  go_upto_region 8 with (fail)
  have hq1z := D1.out.lt
  refine wp_region_held_drew (S := fun w' => w'.cell? ⟨w.heap.size + 1, 0, none⟩ = some (.bool ng) ∧ w'.cell? ⟨w.heap.size + 1, 1, none⟩ = some (.string s)) (by kernel_rfl) ?_ (fun hHeld => ?_)
  · go_keep
  refine wpAnyH_take (i := 0) (v := ?_) rfl (by kernel_rfl) (by kernel_rfl) (by kernel_rfl) (fun _ _ _ h => h) (Or.inl ⟨by rfl, ?_⟩) (by assumption) ?_
  rotate_left
  · (intro wS hSw; (try dsimp only at hSw); go_simp; (try with_reducible rfl))
  (try simp only [Act.put, List.setIfInBounds_toArray, List.set_cons_zero, List.set_cons_succ])
  refine wpAnyH_ready (rs := [1]) (by kernel_rfl) (by simp) ?_
  refine AllReadyH.cons rfl (fun K hK => ?_) AllReadyH.nil
  go_simp
  go_at_call 20
  refine (HOF.out _).mono ?_
  rintro e w4 ⟨hq4, rfl⟩
  dsimp only
  have a0 := (hq4.cell (p := ⟨w.heap.size + 1, 0, none⟩) (by simpa using hq1z)).trans hHeld.1
  have a1 := (hq4.cell (p := ⟨w.heap.size + 1, 1, none⟩) (by simpa using hq1z)).trans hHeld.2
  refine hK.out _ _ ⟨a0, a1⟩ (fun hHeld2 => ?_)
  clear hK K
  (try simp only [Act.put, List.setIfInBounds_toArray, List.set_cons_zero, List.set_cons_succ])
  have s4 := S2.out.drew.trans (hq4.mono S2.out.drew.size)
  have hr4 := HR2.out.drew.below hq4 (Nat.le_refl _)
  have hq4z : w.heap.size + 1 < w4.heap.size := by have := hq4.size; simp at this; omega
  have e0 := D0.out.drew.keep hq4
  have e1 := D1.out.drew.keep hq4
  have E0 := Lib.hid e0; clear e0
  have E1 := Lib.hid e1; clear e1
  have S4 := Lib.hid s4; clear s4
  have HR4 := Lib.hid hr4; clear hr4
  clear hq4 u0 u1 u2 z0 z1
  refine wpAnyH_ready (rs := [2]) (by kernel_rfl) (by simp) ?_
  refine AllReadyH.cons rfl (fun K hK => ?_) AllReadyH.nil
  go_simp
  go_at_call 62
  refine (HCMP.out _).mono ?_
  rintro e w5 ⟨hq5, rfl⟩
  dsimp only
  have a2 := (hq5.cell (p := ⟨w.heap.size + 1, 0, none⟩) hq4z).trans a0
  have a3 := (hq5.cell (p := ⟨w.heap.size + 1, 1, none⟩) hq4z).trans a1
  refine hK.out _ _ ⟨a2, a3⟩ (fun hHeld3 => ?_)
  clear hK K
  (try simp only [Act.put, List.setIfInBounds_toArray, List.set_cons_zero, List.set_cons_succ])
  have s5 := S4.out.trans (hq5.mono S4.out.size)
  have hr5 := HR4.out.below hq5 (Nat.le_refl _)
  have tk := E0.out.keep hq5; have u0 := tk.cell (j := 0) rfl; have u1 := tk.cell (j := 1) rfl; have u2 := tk.cell (j := 2) rfl; have F0 := Lib.hid tk; clear tk
  have tk := E1.out.keep hq5; have z0 := tk.cell (j := 0) rfl; have z1 := tk.cell (j := 1) rfl; have F1 := Lib.hid tk; clear tk
  have S5 := Lib.hid s5; clear s5
  have HR5 := Lib.hid hr5; clear hr5
  clear hq5 a0 a1 a2 a3
  refine wpAnyH_take (i := 3) (v := ?_) rfl (by kernel_rfl) (by kernel_rfl) (by kernel_rfl) (fun _ _ _ h => h) (Or.inl ⟨by rfl, ?_⟩) (by assumption) ?_
  rotate_left
  · (intro wS hSw; (try dsimp only at hSw); go_simp; (try with_reducible rfl))
  (try simp only [Act.put, List.setIfInBounds_toArray, List.set_cons_zero, List.set_cons_succ])
  refine wpAnyH_take (i := 4) (v := ?_) rfl (by kernel_rfl) (by kernel_rfl) (by kernel_rfl) (fun _ _ _ h => h) (Or.inl ⟨by rfl, ?_⟩) (by assumption) ?_
  rotate_left
  · (intro wS hSw; (try dsimp only at hSw); go_simp; (try with_reducible rfl))
  (try simp only [Act.put, List.setIfInBounds_toArray, List.set_cons_zero, List.set_cons_succ])
  refine wpAnyH_done (by kernel_rfl) ?_ _
  have hpr := fun w' h => principal_any L (ival ng s) S' n' es (.slice va mm vc) w' h hS64 (by omega) hlen hinS hsm
  rw [← HMM.out] at hpr
  obtain ⟨hc1, hc2⟩ := (cnB_iff ng s).1 hcn
  rw [hc1, hc2] at hpr
  obtain ⟨l, hl⟩ : ∃ l, l = prin es n' (ival ng s) (uptoZ S') := ⟨_, rfl⟩
  rw [← hl] at hpr hp ⊢
  have HPR := Lib.hid hpr; clear hpr
  have HL := Lib.hid hl; clear hl
  clear hcn hc1 hc2 hz
  go_wp2_with fail
  go_at_call 63
  refine (HPR.out _ HR5.out).mono ?_
  rintro e w6 ⟨hq6, vl, rfl, hrl⟩
  obtain ⟨la, lc, rfl, -⟩ := hrl.slice
  have s6 := S5.out.trans (hq6.mono S5.out.size)
  have S6 := Lib.hid s6; clear s6
  clear hq6
  have hb2 : ((l.length : Int) == 0) = false := by
    have := List.length_pos_iff.2 hp
    simp; omega
  clear hp
  have HRL := Lib.hid hrl; clear hrl
  go_wp2_with fail
  go_ret2
  exact ⟨S6.out, _, rfl, by rw [← HL.out]; exact HRL.out⟩
theorem eprc_any (L S : Int) (es : List E3) (v : Value) (n : Int) (ng : Bool) (s : ByteArray) (w : World) (hr : Row w v es.length (ce es)) (hok : okEs es) (hs : s.size ≤ 1099511627775) :
    Calls Tryz.prog 29 #[.agg #[.int .i64 L, .int .i64 S, v], .int .i64 n, .agg #[.bool ng, .string s]] w (POut (prcP L S es n ng s).1 (prcP L S es n ng s).2 w) := by
  unfold prcP
  by_cases hE : eck L S es = 0
  · rw [if_neg (by simpa using hE)]
    by_cases hn : n < 0 ∨ 4096 < n
    · rw [if_pos hn]
      by_cases h0 : n < 0
      · exact eprc_neg L S es v n ng s w hr hok hs hE h0
      · exact eprc_big L S es v n ng s w hr hok hs hE (by omega) (by omega)
    · rw [if_neg hn]
      cases hcn : cnB ng s with
      | false => rw [if_pos rfl]; exact eprc_cn L S es v n ng s w hr hok hs hE (by omega) (by omega) hcn
      | true =>
        rw [if_neg (by decide)]
        by_cases hz : ival ng s < 1
        · rw [if_pos hz]; exact eprc_low L S es v n ng s w hr hok hs hE (by omega) (by omega) hcn hz
        · rw [if_neg hz]
          by_cases hp : prin es n.toNat (ival ng s) (uptoZ S.toNat) = []
          · rw [if_pos hp]; exact eprc_none L S es v n ng s w hr hok hs hE (by omega) (by omega) hcn hz hp
          · rw [if_neg hp]; exact eprc_some L S es v n ng s w hr hok hs hE (by omega) (by omega) hcn hz hp
  · rw [if_pos (by simpa using hE)]
    exact eprc_chk L S es v n ng s w hr hok hs hE
end Go.Proofs.YtalipfnbpnkgnaaGreat

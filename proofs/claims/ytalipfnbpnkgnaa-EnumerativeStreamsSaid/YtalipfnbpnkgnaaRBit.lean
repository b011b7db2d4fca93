/- grooveref29.Bits. -/
import Derived.Test.YtalipfnbpnkgnaaRPrc
import Derived.Test.YtalipfnbpnkgnaaEBit
namespace Go.Proofs.Ytalipfnbpnkgnaa
open Go.RowKit

set_option maxRecDepth 100000 in
set_option maxHeartbeats 3200000 in
theorem rbits_chk (L S : Int) (es : List E3) (v : Value) (n : Int) (w : World) (hr : Row w v es.length (ce es)) (hne : eck L S es ≠ 0) :
    Calls Try.prog 15 #[.agg #[.int .i64 L, .int .i64 S, v], .int .i64 n] w (NOut 0 (eck L S es) w) := by
  obtain ⟨va, vc, rfl, hle⟩ := hr.slice
  have s0 := (Below.refl w.heap.size w).alloc (Nat.le_refl _) (.cells #[.int .i64 L, .int .i64 S, .slice va es.length vc] 24)
  have hr0 := hr.below s0 (Nat.le_refl _)
  have hck := rcg_any L S es _ _ hr0
  obtain ⟨mm, hmm⟩ : ∃ mm, mm = es.length := ⟨_, rfl⟩
  rw [← hmm] at s0 hr0 hck hle ⊢
  obtain ⟨E, hE⟩ : ∃ E, eck L S es = E := ⟨_, rfl⟩
  rw [hE] at hne hck ⊢
  have HMM := Lib.hid hmm; clear hmm
  have HE := Lib.hid hE; clear hE
  have HCK := Lib.hid hck; clear hck
  have S0 := Lib.hid s0; clear s0
  clear hr hr0
  have hb : (E != 0) = true := by simp; exact hne
  go_enter Try.func15, Try.ntmps15
  go_wp2_with fail
  go_at_call 36
  refine HCK.out.mono ?_
  rintro e w1 ⟨hq1, rfl⟩
  have s1 := S0.out.trans (hq1.mono S0.out.size)
  have S1 := Lib.hid s1; clear s1
  clear hq1
  go_wp2_with fail
  go_ret2
  exact ⟨S1.out, rfl⟩
set_option maxRecDepth 100000 in
set_option maxHeartbeats 3200000 in
theorem rbits_rng (L S : Int) (es : List E3) (v : Value) (n : Int) (w : World) (hr : Row w v es.length (ce es)) (hE : eck L S es = 0) (hn : n < 1 ∨ 4096 < n) :
    Calls Try.prog 15 #[.agg #[.int .i64 L, .int .i64 S, v], .int .i64 n] w (NOut 0 2 w) := by
  obtain ⟨va, vc, rfl, hle⟩ := hr.slice
  have s0 := (Below.refl w.heap.size w).alloc (Nat.le_refl _) (.cells #[.int .i64 L, .int .i64 S, .slice va es.length vc] 24)
  have hr0 := hr.below s0 (Nat.le_refl _)
  have hck := rcg_any L S es _ _ hr0
  have hcl := fun w' => rclen_any n w'
  obtain ⟨mm, hmm⟩ : ∃ mm, mm = es.length := ⟨_, rfl⟩
  rw [← hmm] at s0 hr0 hck hle ⊢
  rw [hE] at hck
  have HMM := Lib.hid hmm; clear hmm
  have HCK := Lib.hid hck; clear hck
  have S0 := Lib.hid s0; clear s0
  clear hr hr0 hE
  by_cases h0 : n = 0
  · subst h0
    have hclv : clen 0 = 0 := by decide
    rw [hclv] at hcl
    have HCL := Lib.hid hcl; clear hcl
    go_enter Try.func15, Try.ntmps15
    go_wp2_with fail
    go_at_call 36
    refine HCK.out.mono ?_
    rintro e w1 ⟨hq1, rfl⟩
    have s1 := S0.out.trans (hq1.mono S0.out.size)
    have S1 := Lib.hid s1; clear s1
    clear hq1
    go_wp2_with fail
    go_at_call 37
    refine (HCL.out _).mono ?_
    rintro e w2 ⟨hq2, rfl⟩
    have s2 := S1.out.trans (hq2.mono S1.out.size)
    have S2 := Lib.hid s2; clear s2
    clear hq2
    go_wp2_with fail
    go_ret2
    exact ⟨S2.out, rfl⟩
  · have hclv : clen n = 2 := by rw [clen, if_pos (by omega)]
    rw [hclv] at hcl
    have HCL := Lib.hid hcl; clear hcl
    go_enter Try.func15, Try.ntmps15
    go_wp2_with fail
    go_at_call 36
    refine HCK.out.mono ?_
    rintro e w1 ⟨hq1, rfl⟩
    have s1 := S0.out.trans (hq1.mono S0.out.size)
    have S1 := Lib.hid s1; clear s1
    clear hq1
    go_wp2_with fail
    go_at_call 37
    refine (HCL.out _).mono ?_
    rintro e w2 ⟨hq2, rfl⟩
    have s2 := S1.out.trans (hq2.mono S1.out.size)
    have S2 := Lib.hid s2; clear s2
    clear hq2
    go_wp2_with fail
    go_ret2
    exact ⟨S2.out, rfl⟩
set_option maxRecDepth 100000 in
set_option maxHeartbeats 3200000 in
theorem rbits_ok (L : Int) (S n N : Nat) (es : List E3) (v : Value) (w : World) (hr : Row w v es.length (ce es)) (hE : eck L (S : Int) es = 0) (hn1 : 1 ≤ n) (hn : n ≤ 4096) (hN : N ≤ 20000) (hall : ∀ m, hasB S es n m = decide (m < N)) (P err : Int) (hP0 : N = 0 → P = 0 ∧ err = 15) (hP1 : N ≠ 0 → P = (N : Int) - 1 ∧ err = 0) :
    Calls Try.prog 15 #[.agg #[.int .i64 L, .int .i64 (S : Int), v], .int .i64 (n : Int)] w (NOut P err w) := by
  obtain ⟨va, vc, rfl, hle⟩ := hr.slice
  obtain ⟨hchk, -, -⟩ := eck_zero hE
  have s0 := (Below.refl w.heap.size w).alloc (Nat.le_refl _) (.cells #[.int .i64 L, .int .i64 (S : Int), .slice va es.length vc] 24)
  have b0 := Blk.new w 24 [.int .i64 L, .int .i64 (S : Int), .slice va es.length vc]
  have hr0 := hr.below s0 (Nat.le_refl _)
  have hck := rcg_any L (S : Int) es _ _ hr0
  have hpr := fun (q : Nat) (hq : q ≤ 100000) w' h => rprincipal_any L ((2 ^ q : Nat) : Int) S n es (.slice va es.length vc) w' h hchk hn (small_pow2 q hq)
  obtain ⟨mm, hmm⟩ : ∃ mm, mm = es.length := ⟨_, rfl⟩
  rw [← hmm] at s0 b0 hr0 hck hle hpr ⊢
  rw [hE] at hck
  have hcl := fun w' => rclen_any (n : Int) w'
  have hclv : clen (n : Int) = 0 := by rw [clen, if_neg (by omega)]
  rw [hclv] at hcl
  have hn0 : ((n : Int) == 0) = false := by simp; omega
  have hof := fun w' => rof_any 1 w' (by decide) (by decide)
  have HMM := Lib.hid hmm; clear hmm
  have HCK := Lib.hid hck; clear hck
  have HCL := Lib.hid hcl; clear hcl
  have HPR := Lib.hid hpr; clear hpr
  have S0 := Lib.hid s0; clear s0
  have B0 := Lib.hid b0; clear b0
  have HR := Lib.hid hr0; clear hr0
  have HALL := Lib.hid hall; clear hall
  have HOF := Lib.hid hof; clear hof
  have HP0 := Lib.hid hP0; clear hP0
  have HP1 := Lib.hid hP1; clear hP1
  clear hr hE hchk
  go_enter Try.func15, Try.ntmps15
  go_wp2_with fail
  go_at_call 36
  refine HCK.out.mono ?_
  rintro e w1 ⟨hq1, rfl⟩
  have s1 := S0.out.trans (hq1.mono S0.out.size)
  have hr1 := HR.out.below hq1 (Nat.le_refl _)
  have c0 := B0.out.keep hq1
  have C0 := Lib.hid c0; clear c0
  have S1 := Lib.hid s1; clear s1
  have HR1 := Lib.hid hr1; clear hr1
  clear hq1
  go_wp2_with fail
  go_at_call 37
  refine (HCL.out _).mono ?_
  rintro e w2 ⟨hq2, rfl⟩
  have s2 := S1.out.trans (hq2.mono S1.out.size)
  have hr2 := HR1.out.below hq2 (Nat.le_refl _)
  have c0 := C0.out.keep hq2
  have D0 := Lib.hid c0; clear c0
  have S2 := Lib.hid s2; clear s2
  have HR2 := Lib.hid hr2; clear hr2
  clear hq2
  go_wp2_with fail
  go_at_call 43
  refine (HOF.out _).mono ?_
  rintro e w3 ⟨hq3, rfl⟩
  have s3 := S2.out.trans (hq3.mono S2.out.size)
  have hr3 := HR2.out.below hq3 (Nat.le_refl _)
  have c0 := D0.out.keep hq3
  have b3 := Blk.new w3 26 [.bool (ineg 1), .string (imag 1)]
  have E0 := Lib.hid c0; clear c0
  have S3 := Lib.hid s3; clear s3
  have HR3 := Lib.hid hr3; clear hr3
  have B3 := Lib.hid b3; clear b3
  have hw3 : w.heap.size < w3.heap.size := E0.out.lt
  clear hq3
  go_wp2_with fail
  go_loopw [8] (fun u wr => ∃ (j : Nat) (z M : Int), j ≤ N ∧ u = .int .i64 z ∧ z = (j : Int) - 1 ∧ M = ((2 ^ j : Nat) : Int) ∧ Below w3.heap.size w3 wr ∧ Blk wr w3.heap.size 26 [.bool (ineg M), .string (imag M)]) (fun u _ => (N - intOf u).toNat)
  case atStart => exact ⟨0, -1, 1, Nat.zero_le _, rfl, rfl, rfl, (Below.refl _ w3).alloc (Nat.le_refl _) _, B3.out⟩
  case round =>
    obtain ⟨j, z, M, hj, rfl, hz, hM, hbel, hblk⟩ := hrel
    have e0 := E0.out.keep hbel
    have x0 := e0.cell (j := 0) rfl
    have x1 := e0.cell (j := 1) rfl
    have x2 := e0.cell (j := 2) rfl
    have y0 := hblk.cell (j := 0) rfl
    have y1 := hblk.cell (j := 1) rfl
    have hrw := HR3.out.below hbel (Nat.le_refl _)
    have hp := HPR.out j (by omega) wr hrw
    have hh := HALL.out j
    unfold hasB at hh
    have hMz : (imag M).size ≤ 1099511627775 := by rw [hM]; exact small_pow2 j (by omega)
    have hadd := fun w' => radd_any M M w' hMz hMz
    have hnext : M + M = ((2 ^ (j + 1) : Nat) : Int) := by rw [hM, Nat.pow_succ]; omega
    obtain ⟨M2, hM2⟩ : ∃ M2, M2 = M + M := ⟨_, rfl⟩
    simp only [← hM2] at hadd
    rw [← hM2] at hnext
    rw [← hM] at hp hh
    obtain ⟨l, hl⟩ : ∃ l, l = prin es n M (uptoZ S) := ⟨_, rfl⟩
    rw [← hl] at hp hh
    have hll : 0 < l.length ↔ j < N := by rw [Bool.eq_iff_iff, decide_eq_true_iff, decide_eq_true_iff] at hh; exact hh
    have HP := Lib.hid hp; clear hp
    have HB := Lib.hid hbel; clear hbel
    have HBLK := Lib.hid hblk; clear hblk
    have HADD := Lib.hid hadd; clear hadd
    have HNX := Lib.hid hnext; clear hnext
    have HZ := Lib.hid hz; clear hz
    clear hh hl hM hM2 hMz hrw e0
    go_wp2_with fail
    go_at_call 40
    refine HP.out.mono ?_
    rintro e w4 ⟨hq4, vl, rfl, hrl⟩
    obtain ⟨la, lc, rfl, -⟩ := hrl.slice
    have hb4 := HBLK.out.keep hq4
    have y2 := hb4.cell (j := 0) rfl
    have y3 := hb4.cell (j := 1) rfl
    have t4 := HB.out.trans (hq4.mono HB.out.size)
    have HB4 := Lib.hid hb4; clear hb4
    have T4 := Lib.hid t4; clear t4
    clear hrl hq4 x0 x1 x2 y0 y1
    by_cases hjN : j < N
    · have hd2 : (0 : Int) < (l.length : Int) := by have := hll.2 hjN; omega
      have hz1 : z ≤ 30000 := by have := HZ.out; omega
      have hz0 : -1 ≤ z := by have := HZ.out; omega
      clear hll
      go_wp2_with fail
      go_at_call 44
      refine (HADD.out _).mono ?_
      rintro e w5 ⟨hq5, rfl⟩
      have hb5 := HB4.out.keep hq5
      have y4 := hb5.cell (j := 0) rfl
      have y5 := hb5.cell (j := 1) rfl
      have f4 := hb5.frozen 0
      have f5 := hb5.frozen 1
      have t5 := T4.out.trans (hq5.mono T4.out.size)
      have HB5 := Lib.hid hb5; clear hb5
      have T5 := Lib.hid t5; clear t5
      clear hq5 y2 y3
      go_wp2_with fail
      go_roundw
      case rel =>
        refine ⟨j + 1, z + 1, M2, by omega, by go_num, by have := HZ.out; omega, HNX.out, (T5.out.setCell (p := ⟨w3.heap.size, 0, none⟩) (Nat.le_refl _) _).setCell (p := ⟨w3.heap.size, 1, none⟩) (Nat.le_refl _) _, ?_⟩
        exact (HB5.out.set 0 _).set 1 _
      case measure =>
        have := HZ.out
        simp [intOf]; omega
    · obtain rfl : j = N := by omega
      have hd2 : ¬ (0 : Int) < (l.length : Int) := by
        intro h
        have := hll.1 (by omega)
        omega
      have hzz := HZ.out
      clear hll hjN
      have tf := S3.out.trans (T4.out.mono (by omega))
      have TF := Lib.hid tf; clear tf
      by_cases hj0 : j = 0
      · have hz1 : z = -1 := by omega
        have hlt : decide (z < 0) = true := by simp; omega
        obtain ⟨rfl, rfl⟩ := HP0.out hj0
        clear hj0 hzz hz1
        go_wp2_with fail
        go_ret2
        exact ⟨TF.out, rfl⟩
      · have hlt : decide (z < 0) = false := by simp; omega
        obtain ⟨hPz, rfl⟩ := HP1.out hj0
        rw [← hzz] at hPz
        subst hPz
        clear hj0 hzz
        go_wp2_with fail
        go_ret2
        exact ⟨TF.out, rfl⟩
end Go.Proofs.Ytalipfnbpnkgnaa

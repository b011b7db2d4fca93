/- enumerative.Bits. -/
import Derived.BigQuiet
import Derived.Test.YtalipfnbpnkgnaaGreatPart13
namespace Go.Proofs.YtalipfnbpnkgnaaGreat
open Go.RowKit

/-- A number and an error. -/
def NOut (p err : Int) (w : World) (e : Ending) (w' : World) : Prop :=
  Below w.heap.size w w' ∧ e = .returned (.tuple #[.int .i64 p, .int .i64 err])
set_option maxRecDepth 100000 in
set_option maxHeartbeats 3200000 in
theorem ebits_chk (L S : Int) (es : List E3) (v : Value) (n : Int) (w : World) (hr : Row w v es.length (ce es)) (hok : okEs es) (hne : eck L S es ≠ 0) :
    Calls Tryz.prog 30 #[.agg #[.int .i64 L, .int .i64 S, v], .int .i64 n] w (NOut 0 (eck L S es) w) := by
  obtain ⟨va, vc, rfl, hle⟩ := hr.slice
  have s0 := ((Below.refl w.heap.size w).alloc (Nat.le_refl _) (.cells #[.int .i64 L, .int .i64 S, .slice va es.length vc] 24)).alloc (by simp) (.cells #[.int .i64 n] 3)
  have hr0 := hr.below s0 (Nat.le_refl _)
  have hck := echeck_any L S es _ _ hr0 hok
  obtain ⟨mm, hmm⟩ : ∃ mm, mm = es.length := ⟨_, rfl⟩
  rw [← hmm] at s0 hr0 hck hle ⊢
  obtain ⟨E, hE⟩ : ∃ E, eck L S es = E := ⟨_, rfl⟩
  rw [hE] at hne hck ⊢
  have HMM := Lib.hid hmm; clear hmm
  have HE := Lib.hid hE; clear hE
  have HCK := Lib.hid hck; clear hck
  have S0 := Lib.hid s0; clear s0
  clear hr hr0 hok
  have hb : (E != 0) = true := by simp; exact hne
  go_enter Tryz.func30, Tryz.ntmps30
  go_wp2_with fail
  go_at_call 53
  refine HCK.out.mono ?_
  rintro e w1 ⟨hq1, rfl⟩
  have s1 := S0.out.trans (hq1.mono S0.out.size)
  have S1 := Lib.hid s1; clear s1
  clear hq1
  go_wp2_with fail
  go_ret2
  exact ⟨S1.out, rfl⟩
set_option maxRecDepth 100000 in
set_option maxHeartbeats 3200000 in
theorem ebits_rng (L S : Int) (es : List E3) (v : Value) (n : Int) (w : World) (hr : Row w v es.length (ce es)) (hok : okEs es) (hE : eck L S es = 0) (hn : n < 1 ∨ 4096 < n) :
    Calls Tryz.prog 30 #[.agg #[.int .i64 L, .int .i64 S, v], .int .i64 n] w (NOut 0 2 w) := by
  obtain ⟨va, vc, rfl, hle⟩ := hr.slice
  have s0 := ((Below.refl w.heap.size w).alloc (Nat.le_refl _) (.cells #[.int .i64 L, .int .i64 S, .slice va es.length vc] 24)).alloc (by simp) (.cells #[.int .i64 n] 3)
  have b1 := Blk.new (w.alloc (.cells #[.int .i64 L, .int .i64 S, .slice va es.length vc] 24)) 3 [.int .i64 n]
  simp only [World.size_alloc] at b1
  have hr0 := hr.below s0 (Nat.le_refl _)
  have hck := echeck_any L S es _ _ hr0 hok
  obtain ⟨mm, hmm⟩ : ∃ mm, mm = es.length := ⟨_, rfl⟩
  rw [← hmm] at s0 b1 hr0 hck hle ⊢
  rw [hE] at hck
  have HMM := Lib.hid hmm; clear hmm
  have HCK := Lib.hid hck; clear hck
  have S0 := Lib.hid s0; clear s0
  have B1 := Lib.hid b1; clear b1
  clear hr hr0 hok hE
  rcases hn with hn | hn
  · have t1 : decide (n < 1) = true := by simpa using hn
    go_enter Tryz.func30, Tryz.ntmps30
    go_wp2_with fail
    go_at_call 53
    refine HCK.out.mono ?_
    rintro e w1 ⟨hq1, rfl⟩
    have s1 := S0.out.trans (hq1.mono S0.out.size)
    have tk := B1.out.keep hq1; have y0 := tk.cell (j := 0) rfl; have C1 := Lib.hid tk; clear tk
    have S1 := Lib.hid s1; clear s1
    clear hq1
    go_wp2_with fail
    go_ret2
    exact ⟨S1.out, rfl⟩
  · have t1 : decide (n < 1) = false := by simp; omega
    have t2 : decide (4096 < n) = true := by simpa using hn
    go_enter Tryz.func30, Tryz.ntmps30
    go_wp2_with fail
    go_at_call 53
    refine HCK.out.mono ?_
    rintro e w1 ⟨hq1, rfl⟩
    have s1 := S0.out.trans (hq1.mono S0.out.size)
    have tk := B1.out.keep hq1; have y0 := tk.cell (j := 0) rfl; have C1 := Lib.hid tk; clear tk
    have S1 := Lib.hid s1; clear s1
    clear hq1
    go_wp2_with fail
    go_ret2
    exact ⟨S1.out, rfl⟩
set_option maxRecDepth 100000 in
set_option maxHeartbeats 3200000 in
theorem ebits_ok (L : Int) (S n : Nat) (es : List E3) (v : Value) (w : World) (hr : Row w v es.length (ce es)) (hok : okEs es) (hE : eck L (S : Int) es = 0) (hn1 : 1 ≤ n) (hn : n ≤ 4096) (P : Int) (err : Int)
    (hPe : (hasB S es n 0 = false ∧ P = 0 ∧ err = 15) ∨ (∃ p : Nat, P = (p : Int) ∧ err = 0 ∧ p < 4 * n + 1 ∧ ∀ m, hasB S es n m = decide (m ≤ p))) :
    Calls Tryz.prog 30 #[.agg #[.int .i64 L, .int .i64 (S : Int), v], .int .i64 (n : Int)] w (NOut P err w) := by
  obtain ⟨va, vc, rfl, hle⟩ := hr.slice
  obtain ⟨hchk, -, -⟩ := eck_zero hE
  have hca := chk_all hchk
  have hinS := chk_inS hchk
  have hS64 : S ≤ 64 := by omega
  have hlen := hca.2.2.2.1
  have s0 := ((Below.refl w.heap.size w).alloc (Nat.le_refl _) (.cells #[.int .i64 L, .int .i64 (S : Int), .slice va es.length vc] 24)).alloc (by simp) (.cells #[.int .i64 (n : Int)] 3)
  have b0 := (Blk.new w 24 [.int .i64 L, .int .i64 (S : Int), .slice va es.length vc]).alloc (.cells #[.int .i64 (n : Int)] 3)
  have b1 := Blk.new (w.alloc (.cells #[.int .i64 L, .int .i64 (S : Int), .slice va es.length vc] 24)) 3 [.int .i64 (n : Int)]
  simp only [World.size_alloc] at b1
  have hr0 := hr.below s0 (Nat.le_refl _)
  have hck := echeck_any L (S : Int) es _ _ hr0 hok
  have hhas := fun (q : Nat) (w' : World) h1 h2 h3 h4 h5 h6 h7 hq => has_any L S n q w.heap.size (w.heap.size + 1) es (.slice va es.length vc) w' h1 hS64 hn hlen hinS hq h2 h3 h4 h5 h6 h7
  obtain ⟨mm, hmm⟩ : ∃ mm, mm = es.length := ⟨_, rfl⟩
  rw [← hmm] at s0 b0 b1 hr0 hck hle hhas ⊢
  rw [hE] at hck
  have hent := fun args w => enters_of Tryz.func64 (by kernel_rfl) rfl args w
  have HMM := Lib.hid hmm; clear hmm
  have HCK := Lib.hid hck; clear hck
  have HHAS := Lib.hid hhas; clear hhas
  have S0 := Lib.hid s0; clear s0
  have B0 := Lib.hid b0; clear b0
  have B1 := Lib.hid b1; clear b1
  have HR := Lib.hid hr0; clear hr0
  clear hr hok hE hchk hca hinS
  have t1 : decide ((n : Int) < 1) = false := by simp; omega
  have t2 : decide (4096 < (n : Int)) = false := by simp; omega
  go_enter Tryz.func30, Tryz.ntmps30
  go_wp2_with fail
  go_at_call 53
  refine HCK.out.mono ?_
  rintro e w1 ⟨hq1, rfl⟩
  have s1 := S0.out.trans (hq1.mono S0.out.size)
  have hr1 := HR.out.below hq1 (Nat.le_refl _)
  have tk := B0.out.keep hq1; have x0 := tk.cell (j := 0) rfl; have x1 := tk.cell (j := 1) rfl; have x2 := tk.cell (j := 2) rfl; have C0 := Lib.hid tk; clear tk
  have tk := B1.out.keep hq1; have y0 := tk.cell (j := 0) rfl; have C1 := Lib.hid tk; clear tk
  have S1 := Lib.hid s1; clear s1
  have hh0 := HHAS.out 0 w1 hr1 x0 x1 x2 C0.out.lt C1.out.lt y0 (by omega)
  have HR1 := Lib.hid hr1; clear hr1
  clear hq1
  rcases hPe with ⟨h0, rfl, rfl⟩ | ⟨p, rfl, rfl, hp, hall⟩
  · rw [h0] at hh0
    have HH0 := Lib.hid hh0; clear hh0
    clear h0
    go_wp2_with fail
    refine HH0.out.mono ?_
    rintro e w2 ⟨hq2, rfl⟩
    have HQ2 := Lib.hid hq2; clear hq2
    go_wp2_with fail
    go_ret2
    exact ⟨S1.out.trans (HQ2.out.mono S1.out.size), rfl⟩
  · rw [hall 0] at hh0
    have hd0 : decide (0 ≤ p) = true := by simp
    rw [hd0] at hh0
    have HH0 := Lib.hid hh0; clear hh0
    have HALL := Lib.hid hall; clear hall
    go_wp2_with fail
    refine HH0.out.mono ?_
    rintro e w2 ⟨hq2, rfl⟩
    have s2 := S1.out.trans (hq2.mono S1.out.size)
    have hr2 := HR1.out.below hq2 (Nat.le_refl _)
    clear x0 x1 x2 y0
    have tk := C0.out.keep hq2; have x0 := tk.cell (j := 0) rfl; have x1 := tk.cell (j := 1) rfl; have x2 := tk.cell (j := 2) rfl; have D0 := Lib.hid tk; clear tk
    have tk := C1.out.keep hq2; have y0 := tk.cell (j := 0) rfl; have D1 := Lib.hid tk; clear tk
    have S2 := Lib.hid s2; clear s2
    have HR2 := Lib.hid hr2; clear hr2
    clear hq2
    go_wp2_with fail
    go_quiet (fail)
    go_wp2_with fail
    have hqn := below_drewN (Below.refl w2.heap.size w2) nq
    clear x0 x1 x2 y0
    have hsz2 := S2.out.size
    go_loopw [8, 9, 10] (fun lo hi _ wr => ∃ a b : Nat, lo = .int .i64 (a : Int) ∧ hi = .int .i64 (b : Int) ∧ a ≤ p ∧ p < b ∧ b ≤ 4 * n + 1 ∧ Below w2.heap.size w2 wr) (fun lo hi _ _ => (intOf hi - intOf lo).toNat)
    case atStart => exact ⟨0, 4 * n + 1, rfl, by go_num, by omega, hp, Nat.le_refl _, hqn⟩
    case round =>
      obtain ⟨a, b, rfl, rfl, ha, hb, hbn, hbel⟩ := hrel
      have HB := Lib.hid hbel; clear hbel
      clear hqn
      by_cases hgt : 1 < b - a
      · obtain ⟨q, hq⟩ : ∃ q, q = (a + b) / 2 := ⟨_, rfl⟩
        have htd : ((a : Int) + (b : Int)).tdiv 2 = (q : Int) := by rw [Int.tdiv_eq_ediv_of_nonneg (by omega)]; omega
        have hdv : ((a : Int) + (b : Int)) / 2 = (q : Int) := by omega
        have hq1 : a < q := by omega
        have hq2 : q < b := by omega
        clear hq
        have d0 := D0.out.keep HB.out
        have d1 := D1.out.keep HB.out
        have hrw := HR2.out.below HB.out (Nat.le_refl _)
        have hh := HHAS.out q wr hrw (d0.cell (j := 0) rfl) (d0.cell (j := 1) rfl) (d0.cell (j := 2) rfl) d0.lt d1.lt (d1.cell (j := 0) rfl) (by omega)
        rw [HALL.out q] at hh
        clear d0 d1 hrw
        by_cases hqp : q ≤ p
        · rw [decide_eq_true hqp] at hh
          have HH := Lib.hid hh; clear hh
          go_wp2_with fail
          refine HH.out.mono ?_
          rintro e w3 ⟨hq3, rfl⟩
          have HQ3 := Lib.hid hq3; clear hq3
          go_wp2_with fail
          go_roundw
          case rel => exact ⟨q, b, rfl, rfl, hqp, hb, hbn, HB.out.trans (HQ3.out.mono HB.out.size)⟩
          case measure => simp [intOf]; omega
        · rw [decide_eq_false hqp] at hh
          have HH := Lib.hid hh; clear hh
          go_wp2_with fail
          refine HH.out.mono ?_
          rintro e w3 ⟨hq3, rfl⟩
          have HQ3 := Lib.hid hq3; clear hq3
          go_wp2_with fail
          go_roundw
          case rel => exact ⟨a, q, rfl, rfl, ha, by omega, by omega, HB.out.trans (HQ3.out.mono HB.out.size)⟩
          case measure => simp [intOf]; omega
      · obtain rfl : a = p := by omega
        obtain rfl : b = a + 1 := by omega
        go_wp2_with fail
        go_ret2
        exact ⟨S2.out.trans (HB.out.mono hsz2), rfl⟩
end Go.Proofs.YtalipfnbpnkgnaaGreat

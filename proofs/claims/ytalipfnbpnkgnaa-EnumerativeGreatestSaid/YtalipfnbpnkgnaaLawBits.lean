/- Contracts and plain laws of several functions, one after the other: Fine, PlainB3, LBits. -/
import Derived.Test.YtalipfnbpnkgnaaGreat29
import Derived.Test.YtalipfnbpnkgnaaDet
import Derived.Test.YtalipfnbpnkgnaaEPrc
import Derived.Test.YtalipfnbpnkgnaaPart7
import Derived.Test.YtalipfnbpnkgnaaLPriD
import Derived.Test.YtalipfnbpnkgnaaEBit
import Derived.Test.YtalipfnbpnkgnaaPow
/- groovelaw29.fine: where it is true the graph is valid, deterministic, has states, and at most 4 labels. -/
namespace Go.Proofs.Ytalipfnbpnkgnaa
open Go.RowKit

set_option maxRecDepth 100000 in
set_option maxHeartbeats 3200000 in
theorem great29_lab (L S : Int) (a : Option Addr) (n c : Nat) (w : World) (h4 : 4 < L) (h16 : L ≤ 16) :
    Calls Try.prog 8 #[.agg #[.int .i64 L, .int .i64 S, .slice a n c]] w (Ret w (.bool true)) := by
  have s0 := (Below.refl w.heap.size w).alloc (Nat.le_refl _) (.cells #[.int .i64 L, .int .i64 S, .slice a n c] 24)
  have b0 := Blk.new w 24 [.int .i64 L, .int .i64 S, .slice a n c]
  have t4 : decide (4 < L) = true := by simpa using h4
  have t16 : decide (L ≤ 16) = true := by simpa using h16
  have S0 := Lib.hid s0; clear s0
  have B0 := Lib.hid b0; clear b0
  go_enter Try.func8, Try.ntmps8
  go_wp2_with fail
  go_at_call 31
  refine (great09_any _ _ _ _ _ _).mono ?_
  rintro e w1 ⟨hq, b, rfl⟩
  have s1 := S0.out.trans (hq.mono S0.out.size)
  have tk := B0.out.keep hq; have x0 := tk.cell (j := 0) rfl; have x1 := tk.cell (j := 1) rfl; have x2 := tk.cell (j := 2) rfl; have C0 := Lib.hid tk; clear tk
  have S1 := Lib.hid s1; clear s1
  clear hq
  cases b with
  | true =>
    go_wp2_with fail
    go_ret
    exact ⟨S1.out, rfl⟩
  | false =>
    go_wp2_with fail
    all_goals
      go_ret
      first
        | exact ⟨S1.out, rfl⟩
        | exact ⟨S1.out, by simp [*]⟩
def FineP (L S : Int) (es : List E3) : Prop := eck L S es = 0 ∧ 0 < S ∧ L ≤ 4
def FineRet (L S : Int) (es : List E3) (w : World) (e : Ending) (w' : World) : Prop := Below w.heap.size w w' ∧ ∃ b, e = .returned (.bool b) ∧ (b = true → FineP L S es)
set_option maxRecDepth 100000 in
set_option maxHeartbeats 3200000 in
theorem fine_any (L S : Int) (es : List E3) (v : Value) (w : World) (hr : Row w v es.length (ce es)) (hok : okEs es) :
    Calls Try.prog 17 #[.agg #[.int .i64 L, .int .i64 S, v]] w (FineRet L S es w) := by
  obtain ⟨va, vc, rfl, hle⟩ := hr.slice
  obtain ⟨mm, hmm⟩ : ∃ mm, mm = es.length := ⟨_, rfl⟩
  have s0 := (Below.refl w.heap.size w).alloc (Nat.le_refl _) (.cells #[.int .i64 L, .int .i64 S, .slice va es.length vc] 24)
  have b0 := Blk.new w 24 [.int .i64 L, .int .i64 S, .slice va es.length vc]
  have hdt := det_any L S es (.slice va es.length vc) _ (hr.below s0 (Nat.le_refl _)) hok
  obtain ⟨dis, hdis⟩ : ∃ dis, dis = (decide (chk L S es = 0) && detB es) := ⟨_, rfl⟩
  obtain ⟨der, hder⟩ : ∃ der : Int, der = (if chk L S es = 0 then 0 else 1) := ⟨_, rfl⟩
  have hF : dis = true → 0 < S → L ≤ 16 → ¬ 4 < L → FineP L S es := by
    intro h1 h2 h3 h4
    rw [hdis, Bool.and_eq_true, decide_eq_true_eq] at h1
    refine ⟨?_, h2, by omega⟩
    unfold eck
    rw [if_neg (by simp [h1.1]), if_neg (by omega), if_pos h1.2]
  rw [← hdis, ← hder] at hdt
  rw [← hmm] at hdt s0 b0
  have hgl := fun w' h4 h16 => great29_lab L S va mm vc w' h4 h16
  have hga := fun w' => great29_any L S va mm vc w'
  have HMM := Lib.hid hmm; clear hmm
  have HDT := Lib.hid hdt; clear hdt
  have S0 := Lib.hid s0; clear s0
  have B0 := Lib.hid b0; clear b0
  have HF := Lib.hid hF; clear hF
  have HGL := Lib.hid hgl; clear hgl
  have HGA := Lib.hid hga; clear hga
  clear hr hok hdis hder
  go_enter Try.func17, Try.ntmps17
  rw [← HMM.out]
  go_wp2_with fail
  go_at_call 45
  refine HDT.out.mono ?_
  rintro e w1 ⟨hq, rfl⟩
  have s1 := S0.out.trans (hq.mono S0.out.size)
  have tk := B0.out.keep hq; have x0 := tk.cell (j := 0) rfl; have x1 := tk.cell (j := 1) rfl; have x2 := tk.cell (j := 2) rfl; have C0 := Lib.hid tk; clear tk
  have S1 := Lib.hid s1; clear s1
  clear hq
  go_wp2_with fail
  go_at_call 8
  by_cases hb : 4 < L ∧ L ≤ 16
  · refine (HGL.out _ hb.1 hb.2).mono ?_
    rintro e w2 ⟨hq, rfl⟩
    have s2 := S1.out.trans (hq.mono S1.out.size)
    clear x0 x1 x2
    have tk := C0.out.keep hq; have x0 := tk.cell (j := 0) rfl; have x1 := tk.cell (j := 1) rfl; have x2 := tk.cell (j := 2) rfl; have D0 := Lib.hid tk; clear tk
    have S2 := Lib.hid s2; clear s2
    clear hq
    go_wp2_with fail
    go_ret
    exact ⟨S2.out, _, rfl, fun h => by cases h⟩
  · refine (HGA.out _).mono ?_
    rintro e w2 ⟨hq, b, rfl⟩
    have s2 := S1.out.trans (hq.mono S1.out.size)
    clear x0 x1 x2
    have tk := C0.out.keep hq; have x0 := tk.cell (j := 0) rfl; have x1 := tk.cell (j := 1) rfl; have x2 := tk.cell (j := 2) rfl; have D0 := Lib.hid tk; clear tk
    have S2 := Lib.hid s2; clear s2
    clear hq
    cases b with
    | true =>
      go_wp2_with fail
      go_ret
      exact ⟨S2.out, _, rfl, fun h => by cases h⟩
    | false =>
      cases dis with
      | false =>
        by_cases hd0 : der = 0
        · have t0 : (der == 0) = true := by simp [hd0]
          go_wp2_with fail
          go_ret
          exact ⟨S2.out, _, rfl, fun h => by cases h⟩
        · have t0 : (der == 0) = false := by simp [hd0]
          go_wp2_with fail
          go_ret
          exact ⟨S2.out, _, rfl, fun h => by cases h⟩
      | true =>
        by_cases hd0 : der = 0
        · have t0 : (der == 0) = true := by simp [hd0]
          by_cases hS : 0 < S
          · have tS : decide (0 < S) = true := by simpa using hS
            by_cases hL : L ≤ 16
            · have tL : decide (L ≤ 16) = true := by simpa using hL
              have hf := HF.out rfl hS hL (by omega)
              have HFP := Lib.hid hf; clear hf
              go_wp2_with fail
              go_ret
              exact ⟨S2.out, _, rfl, fun _ => HFP.out⟩
            · have tL : decide (L ≤ 16) = false := by simpa using hL
              go_wp2_with fail
              go_ret
              exact ⟨S2.out, _, rfl, fun h => by cases h⟩
          · have tS : decide (0 < S) = false := by simpa using hS
            go_wp2_with fail
            go_ret
            exact ⟨S2.out, _, rfl, fun h => by cases h⟩
        · have t0 : (der == 0) = false := by simp [hd0]
          go_wp2_with fail
          go_ret
          exact ⟨S2.out, _, rfl, fun h => by cases h⟩
end Go.Proofs.Ytalipfnbpnkgnaa

/- Principal at powers of 2, and words over the letters of a graph, in plain Lean. -/
namespace Go.Proofs.Ytalipfnbpnkgnaa
open Go.RowKit

/-- At most as many edges leave a state as there are labels. -/
theorem deg_leL {L S : Int} {es : List E3} (h : eck L S es = 0) (s : Int) : (es.filter fun e => e.f == s).length ≤ L.toNat := by
  obtain ⟨hc, hL, hd⟩ := eck_zero h
  have hrng := (chk_all hc).2.2.2.2
  have hcl : chkL L S none es = 0 := by
    unfold chk at hc
    split at hc
    · cases hc
    · split at hc
      · cases hc
      · split at hc
        · cases hc
        · exact hc
  have hp := (det_sorted hcl hd).filter (fun e => e.f == s)
  have hm : ((es.filter fun e => e.f == s).map fun e => e.l).Pairwise (· < ·) := by
    rw [List.pairwise_map]
    refine hp.imp_of_mem fun {a b} ha hb hab => ?_
    have h1 : a.f = s := by simpa using (List.mem_filter.1 ha).2
    have h2 : b.f = s := by simpa using (List.mem_filter.1 hb).2
    unfold ltFL at hab
    omega
  have h3 := asc_length _ 0 L (fun x hx => by
    obtain ⟨e, he, rfl⟩ := List.mem_map.1 hx
    have := hrng e (List.mem_filter.1 he).1
    unfold edgeBad at this
    omega) hm
  rw [List.length_map] at h3
  omega
theorem cw_leL {L S : Int} {es : List E3} (h : eck L S es = 0) (p : Int → Bool) (n : Nat) (s : Int) : cw es p n s ≤ ((L.toNat ^ n : Nat) : Int) := cw_le es p L.toNat (deg_leL h) n s
/-- 2^q is at most the number of words, where there is a set for q bits. -/
theorem hasB_words {L : Int} {S : Nat} {es : List E3} (h : eck L (S : Int) es = 0) {n q : Nat} (hq : hasB S es n q = true) : 2 ^ q ≤ L.toNat ^ n := by
  rcases Nat.lt_or_ge (L.toNat ^ n) (2 ^ q) with h1 | h1
  · exfalso
    unfold hasB at hq
    rw [prin_empty (fun p s => by have := cw_leL h p n s; omega)] at hq
    cases hq
  · exact h1
theorem pow_four {L n : Nat} (hL : L ≤ 4) (hn : n ≤ 8) {q : Nat} (h : 2 ^ q ≤ L ^ n) : q ≤ 16 := by
  have h1 : L ^ n ≤ 4 ^ n := Nat.pow_le_pow_left hL n
  have h2 : 4 ^ n ≤ 4 ^ 8 := Nat.pow_le_pow_right (by decide) hn
  rcases Nat.lt_or_ge 16 q with h3 | h3
  · have h4 : 2 ^ 17 ≤ 2 ^ q := Nat.pow_le_pow_right (by decide) h3
    have h5 : (4 : Nat) ^ 8 = 65536 := by decide
    have h6 : (2 : Nat) ^ 17 = 131072 := by decide
    omega
  · exact h3
/-- Principal's error at 2^q. -/
theorem prcP_pow {L : Int} {S n q : Nat} {es : List E3} (h : eck L (S : Int) es = 0) (hn : n ≤ 4096) : (prcP L (S : Int) es (n : Int) (ineg ((2 ^ q : Nat) : Int)) (imag ((2 ^ q : Nat) : Int))).2 = if hasB S es n q = true then 0 else 15 := by
  have hc : cnB (ineg ((2 ^ q : Nat) : Int)) (imag ((2 ^ q : Nat) : Int)) = true := (cnB_iff _ _).2 (by rw [ival_canon]; exact ⟨rfl, rfl⟩)
  have hp : 0 < 2 ^ q := Nat.pow_pos (by decide)
  unfold prcP
  rw [if_neg (by simp [h]), if_neg (by omega), hc, if_neg (by simp), ival_canon, if_neg (by omega)]
  rw [Int.toNat_natCast, Int.toNat_natCast]
  by_cases hb : prin es n ((2 ^ q : Nat) : Int) (uptoZ S) = []
  · rw [if_pos hb]
    have : hasB S es n q = false := by unfold hasB; rw [hb]; rfl
    rw [this]; rfl
  · rw [if_neg hb]
    have : hasB S es n q = true := by
      unfold hasB
      rw [decide_eq_true_iff]
      exact List.length_pos_iff.2 hb
    rw [this]; rfl
end Go.Proofs.Ytalipfnbpnkgnaa

/- The law EnumerativeBits. -/
namespace Go.Proofs.Ytalipfnbpnkgnaa
open Go.RowKit

theorem ipow4_any (l N : Nat) (w : World) (hl : l ≤ 4) (hN : N ≤ 8) : Calls Try.prog 19 #[IntV (l : Int), .int .i64 (N : Int)] w (Ret w (.tuple #[IntV ((l ^ N : Nat) : Int), .int .i64 0])) := by
  have hb : ∀ x : Fin 5, 0 ≤ lenB x.val ∧ lenB x.val ≤ 3 := by decide +kernel
  have h1 := hb ⟨l, by omega⟩
  dsimp only at h1
  refine ipower_any l N w ?_ (by omega) ?_ ⟨h1.1, by omega⟩ (fun e he => ?_)
  · rw [imag_size]
    refine Nat.le_trans (bb_length_le (m := 1) ?_) (by decide)
    rw [Nat.pow_one]; omega
  · have : (N : Int) * lenB l ≤ (N : Int) * 3 := Int.mul_le_mul_of_nonneg_left h1.2 (by omega)
    omega
  · refine Nat.le_trans (dg_length_le (m := e + 1) ?_) (by omega)
    have h2 : l ^ e ≤ 4294967296 ^ e := Nat.pow_le_pow_left (by omega) e
    have h3 : 4294967296 ^ e < 4294967296 ^ (e + 1) := Nat.pow_lt_pow_right (by decide) (by omega)
    omega
theorem pow17 {q : Nat} (h : q ≤ 17) : 2 ^ q ≤ 131072 := Nat.le_trans (Nat.pow_le_pow_right (by decide) h) (by decide)
theorem pow_rng {q : Nat} (h : q ≤ 17) : -9223372036854775808 ≤ ((2 ^ q : Nat) : Int) ∧ ((2 ^ q : Nat) : Int) ≤ 9223372036854775807 :=
  ⟨Int.le_trans (by decide) (Int.natCast_nonneg _), Int.le_trans (Int.ofNat_le.2 (pow17 h)) (by decide)⟩
theorem small_nat {x : Nat} (h : x ≤ 1000000) : small (x : Int) := small_of (m := 3) (by rw [Int.natAbs_natCast]; have : (256:Nat)^3 = 16777216 := by decide
                                                                                         omega) (by omega)

set_option maxRecDepth 100000 in
set_option maxHeartbeats 3200000 in
theorem lbits_bad (L S : Int) (es : List E3) (v : Value) (nn : Nat) (w : World) (hr : Row w v es.length (ce es)) (hok : okEs es) (hnn : nn ≤ 255) (hF : ¬ FineP L S es) :
    Calls Try.prog 4 #[.agg #[.int .i64 L, .int .i64 S, v], .int .u8 (nn : Int)] w (Ret w (.bool true)) := by
  obtain ⟨va, vc, rfl, hle⟩ := hr.slice
  obtain ⟨mm, hmm⟩ : ∃ mm, mm = es.length := ⟨_, rfl⟩
  have s0 := (Below.refl w.heap.size w).alloc (Nat.le_refl _) (.cells #[.int .i64 L, .int .i64 S, .slice va es.length vc] 24)
  have b0 := Blk.new w 24 [.int .i64 L, .int .i64 S, .slice va es.length vc]
  have hr0 := hr.below s0 (Nat.le_refl _)
  have hfi := fine_any L S es _ _ hr0 hok
  have haw := awake29_true
  rw [← hmm] at s0 b0 hr0 hfi
  have HMM := Lib.hid hmm; clear hmm
  have HFI := Lib.hid hfi; clear hfi
  have HAW := Lib.hid haw; clear haw
  have S0 := Lib.hid s0; clear s0
  have B0 := Lib.hid b0; clear b0
  have HR := Lib.hid hr0; clear hr0
  clear hr
  go_enter Try.func4, Try.ntmps4
  rw [← HMM.out]
  go_wp2_with fail
  go_at_call 17
  refine HFI.out.mono ?_
  rintro e w1 ⟨hq, b, rfl, hb⟩
  have s1 := S0.out.trans (hq.mono S0.out.size)
  have hr1 := HR.out.below hq (Nat.le_refl _)
  have tk := B0.out.keep hq; have x0 := tk.cell (j := 0) rfl; have x1 := tk.cell (j := 1) rfl; have x2 := tk.cell (j := 2) rfl; have C0 := Lib.hid tk; clear tk
  have S1 := Lib.hid s1; clear s1
  have HR1 := Lib.hid hr1; clear hr1
  clear hq
  cases b with
  | false =>
    go_wp2_with fail
    go_at_call 11
    refine (HAW.out _).mono ?_
    rintro e w2 ⟨hq, rfl⟩
    have HQ := Lib.hid hq; clear hq
    go_wp2_with fail
    go_ret
    exact ⟨S1.out.trans (HQ.out.mono S1.out.size), rfl⟩
  | true => exact absurd (hb rfl) hF
set_option maxRecDepth 100000 in
set_option maxHeartbeats 3200000 in
theorem lbits_none (l k N : Nat) (es : List E3) (v : Value) (nn : Nat) (w : World) (hr : Row w v es.length (ce es)) (hok : okEs es) (hnn : nn ≤ 255) (hE : eck (l : Int) (k : Int) es = 0) (hl4 : l ≤ 4) (hN : N = 1 + nn % 8) (h0 : hasB k es N 0 = false) :
    Calls Try.prog 4 #[.agg #[.int .i64 (l : Int), .int .i64 (k : Int), v], .int .u8 (nn : Int)] w (Ret w (.bool true)) := by
  have hN1 : 1 ≤ N := by omega
  have hN8 : N ≤ 8 := by omega
  obtain ⟨va, vc, rfl, hle⟩ := hr.slice
  obtain ⟨mm, hmm⟩ : ∃ mm, mm = es.length := ⟨_, rfl⟩
  have s0 := (Below.refl w.heap.size w).alloc (Nat.le_refl _) (.cells #[.int .i64 (l : Int), .int .i64 (k : Int), .slice va es.length vc] 24)
  have b0 := Blk.new w 24 [.int .i64 (l : Int), .int .i64 (k : Int), .slice va es.length vc]
  have hr0 := hr.below s0 (Nat.le_refl _)
  have hfi := fine_any (l : Int) (k : Int) es _ _ hr0 hok
  have haw := awake29_true
  rw [← hmm] at s0 b0 hr0 hfi
  have HMM := Lib.hid hmm; clear hmm
  have HFI := Lib.hid hfi; clear hfi
  have HAW := Lib.hid haw; clear haw
  have S0 := Lib.hid s0; clear s0
  have B0 := Lib.hid b0; clear b0
  have HR := Lib.hid hr0; clear hr0
  have hNz : (1 + (nn : Int) % 8) = (N : Int) := by omega
  clear hN
  have hprq := fun (q : Nat) (hq : q ≤ 17) v' w' (h : Row w' v' es.length (ce es)) => eprc_any (l : Int) (k : Int) es v' (N : Int) (ineg ((2 ^ q : Nat) : Int)) (imag ((2 ^ q : Nat) : Int)) w' h hok (by
    have := small_nat (x := 2 ^ q) (by have := pow17 hq; omega)
    exact this)
  simp only [prcP_pow hE (show N ≤ 4096 by omega)] at hprq
  have hofq := fun (q : Nat) (hq : q ≤ 17) w' => iof_any ((2 ^ q : Nat) : Int) w' (pow_rng hq).1 (pow_rng hq).2
  have HNZ := Lib.hid hNz; clear hNz
  have hbi := fun v' w' (h : Row w' v' es.length (ce es)) => ebits_ok (l : Int) k N es v' w' h hok hE hN1 (by omega) 0 15 (.inl ⟨h0, rfl, rfl⟩)
  have hpr := fun v' w' h => hprq 0 (by omega) v' w' h
  have hof := fun w' => hofq 0 (by omega) w'
  simp only [h0, Bool.false_eq_true, if_false] at hpr
  simp only [Nat.pow_zero, Int.natCast_one] at hpr hof
  rw [← HMM.out] at hbi hpr
  have HBI := Lib.hid hbi; clear hbi
  have HPR := Lib.hid hpr; clear hpr
  have HOF := Lib.hid hof; clear hof
  clear hprq hofq hE h0 hok
  clear hr
  go_enter Try.func4, Try.ntmps4
  rw [← HMM.out]
  go_wp2_with fail
  go_at_call 17
  refine HFI.out.mono ?_
  rintro e w1 ⟨hq, b, rfl, hb⟩
  have s1 := S0.out.trans (hq.mono S0.out.size)
  have hr1 := HR.out.below hq (Nat.le_refl _)
  have tk := B0.out.keep hq; have x0 := tk.cell (j := 0) rfl; have x1 := tk.cell (j := 1) rfl; have x2 := tk.cell (j := 2) rfl; have C0 := Lib.hid tk; clear tk
  have S1 := Lib.hid s1; clear s1
  have HR1 := Lib.hid hr1; clear hr1
  clear hq
  cases b with
  | false =>
    go_wp2_with fail
    go_at_call 11
    refine (HAW.out _).mono ?_
    rintro e w2 ⟨hq, rfl⟩
    have HQ := Lib.hid hq; clear hq
    go_wp2_with fail
    go_ret
    exact ⟨S1.out.trans (HQ.out.mono S1.out.size), rfl⟩
  | true =>
    go_wp2_with fail
    rw [HNZ.out]
    go_at_call 14
    refine (HBI.out _ _ HR1.out).mono ?_
    rintro e w2 ⟨hq, rfl⟩
    have s2 := S1.out.trans (hq.mono S1.out.size)
    have hr2 := HR1.out.below hq (Nat.le_refl _)
    clear x0 x1 x2
    have tk := C0.out.keep hq; have x0 := tk.cell (j := 0) rfl; have x1 := tk.cell (j := 1) rfl; have x2 := tk.cell (j := 2) rfl; have D0 := Lib.hid tk; clear tk
    have S2 := Lib.hid s2; clear s2
    have HR2 := Lib.hid hr2; clear hr2
    clear hq
    go_wp2_with fail
    refine wp_region_held_drew (S := fun w' => w'.cell? ⟨w.heap.size, 0, none⟩ = some (.int .i64 (l : Int)) ∧ w'.cell? ⟨w.heap.size, 1, none⟩ = some (.int .i64 (k : Int)) ∧ w'.cell? ⟨w.heap.size, 2, none⟩ = some (.slice va mm vc)) (by kernel_rfl) ?_ (fun hHeld => ?_)
    · go_keep
    refine wpAnyH_take (i := 0) (v := ?_) rfl (by kernel_rfl) (by kernel_rfl) (by kernel_rfl) (fun _ _ _ h => h) (Or.inl ⟨by rfl, ?_⟩) (by assumption) ?_
    rotate_left
    · (intro wS hSw; (try dsimp only at hSw); go_simp; (try with_reducible rfl))
    (try simp only [Act.put, List.setIfInBounds_toArray, List.set_cons_zero, List.set_cons_succ])
    refine wpAnyH_take (i := 1) (v := ?_) rfl (by kernel_rfl) (by kernel_rfl) (by kernel_rfl) (fun _ _ _ h => h) (Or.inl ⟨by rfl, ?_⟩) (by assumption) ?_
    rotate_left
    · (intro wS hSw; (try dsimp only at hSw); go_simp; (try with_reducible rfl))
    (try simp only [Act.put, List.setIfInBounds_toArray, List.set_cons_zero, List.set_cons_succ])
    refine wpAnyH_ready (rs := [2]) (by kernel_rfl) (by simp) ?_
    refine AllReadyH.cons rfl (fun K hK => ?_) AllReadyH.nil
    go_simp
    go_at_call 18
    refine (HOF.out _).mono ?_
    rintro e w3 ⟨hq, rfl⟩
    dsimp only
    have z0 := (hq.cell (p := ⟨w.heap.size, 0, none⟩) (show w.heap.size < w2.heap.size from D0.out.lt)).trans hHeld.1
    have z1 := (hq.cell (p := ⟨w.heap.size, 1, none⟩) (show w.heap.size < w2.heap.size from D0.out.lt)).trans hHeld.2.1
    have z2 := (hq.cell (p := ⟨w.heap.size, 2, none⟩) (show w.heap.size < w2.heap.size from D0.out.lt)).trans hHeld.2.2
    refine hK.out _ _ ⟨z0, z1, z2⟩ (fun hHeld2 => ?_)
    clear hK K hHeld
    (try simp only [Act.put, List.setIfInBounds_toArray, List.set_cons_zero, List.set_cons_succ])
    have s5 := S2.out.drew.trans (hq.mono S2.out.size)
    have b5 := D0.out.drew.keep hq
    have r5 := HR2.out.drew.below hq (Nat.le_refl _)
    have S5a := Lib.hid s5; clear s5
    have B5a := Lib.hid b5; clear b5
    have R5a := Lib.hid r5; clear r5
    clear hq x0 x1 x2
    refine wpAnyH_ready (rs := [3]) (by kernel_rfl) (by simp) ?_
    refine AllReadyH.cons rfl (fun K hK => ?_) AllReadyH.nil
    go_simp
    go_at_call 12
    refine (HPR.out _ _ R5a.out).mono ?_
    rintro e w4 ⟨hq, vl, rfl, -⟩
    dsimp only
    have z3 := (hq.cell (p := ⟨w.heap.size, 0, none⟩) (show w.heap.size < w3.heap.size from B5a.out.lt)).trans z0
    have z4 := (hq.cell (p := ⟨w.heap.size, 1, none⟩) (show w.heap.size < w3.heap.size from B5a.out.lt)).trans z1
    have z5 := (hq.cell (p := ⟨w.heap.size, 2, none⟩) (show w.heap.size < w3.heap.size from B5a.out.lt)).trans z2
    refine hK.out _ _ ⟨z3, z4, z5⟩ (fun hHeld3 => ?_)
    clear hK K hHeld2
    (try simp only [Act.put, List.setIfInBounds_toArray, List.set_cons_zero, List.set_cons_succ])
    have s6 := S5a.out.trans (hq.mono S5a.out.size)
    have b6 := B5a.out.keep hq
    have r6 := R5a.out.below hq (Nat.le_refl _)
    have x0 := b6.cell (j := 0) rfl
    have x1 := b6.cell (j := 1) rfl
    have x2 := b6.cell (j := 2) rfl
    have S4 := Lib.hid s6; clear s6
    have E0 := Lib.hid b6; clear b6
    have HR4 := Lib.hid r6; clear r6
    clear hq z0 z1 z2 z3 z4 z5
    refine wpAnyH_take (i := 4) (v := ?_) rfl (by kernel_rfl) (by kernel_rfl) (by kernel_rfl) (fun _ _ _ h => h) (Or.inl ⟨by rfl, ?_⟩) (by assumption) ?_
    rotate_left
    · (intro wS hSw; (try dsimp only at hSw); go_simp; (try with_reducible rfl))
    (try simp only [Act.put, List.setIfInBounds_toArray, List.set_cons_zero, List.set_cons_succ])
    refine wpAnyH_take (i := 5) (v := ?_) rfl (by kernel_rfl) (by kernel_rfl) (by kernel_rfl) (fun _ _ _ h => h) (Or.inl ⟨by rfl, ?_⟩) (by assumption) ?_
    rotate_left
    · (intro wS hSw; (try dsimp only at hSw); go_simp; (try with_reducible rfl))
    (try simp only [Act.put, List.setIfInBounds_toArray, List.set_cons_zero, List.set_cons_succ])
    refine wpAnyH_take (i := 6) (v := ?_) rfl (by kernel_rfl) (by kernel_rfl) (by kernel_rfl) (fun _ _ _ h => h) (Or.inl ⟨by rfl, ?_⟩) (by assumption) ?_
    rotate_left
    · (intro wS hSw; (try dsimp only at hSw); go_simp; (try with_reducible rfl))
    (try simp only [Act.put, List.setIfInBounds_toArray, List.set_cons_zero, List.set_cons_succ])
    refine wpAnyH_take (i := 7) (v := ?_) rfl (by kernel_rfl) (by kernel_rfl) (by kernel_rfl) (fun _ _ _ h => h) (Or.inl ⟨by rfl, ?_⟩) (by assumption) ?_
    rotate_left
    · (intro wS hSw; (try dsimp only at hSw); go_simp; (try with_reducible rfl))
    (try simp only [Act.put, List.setIfInBounds_toArray, List.set_cons_zero, List.set_cons_succ])
    refine wpAnyH_take (i := 8) (v := ?_) rfl (by kernel_rfl) (by kernel_rfl) (by kernel_rfl) (fun _ _ _ h => h) (Or.inl ⟨by rfl, ?_⟩) (by assumption) ?_
    rotate_left
    · (intro wS hSw; (try dsimp only at hSw); go_simp; (try with_reducible rfl))
    (try simp only [Act.put, List.setIfInBounds_toArray, List.set_cons_zero, List.set_cons_succ])
    refine wpAnyH_done (by kernel_rfl) ?_ _
    (try simp only [List.getElem_toArray, List.getElem_cons_zero, List.getElem_cons_succ, Act.put, List.setIfInBounds_toArray, List.set_cons_zero, List.set_cons_succ])
    clear hHeld3
    go_wp2_with fail
    go_at_call 11
    refine (HAW.out _).mono ?_
    rintro e w5 ⟨hq, rfl⟩
    have HQ := Lib.hid hq; clear hq
    go_wp2_with fail
    go_ret
    exact ⟨S4.out.trans (HQ.out.mono S4.out.size), rfl⟩
set_option maxRecDepth 100000 in
set_option maxHeartbeats 3200000 in
theorem lbits_some (l k N : Nat) (es : List E3) (v : Value) (nn : Nat) (w : World) (hr : Row w v es.length (ce es)) (hok : okEs es) (hnn : nn ≤ 255) (hE : eck (l : Int) (k : Int) es = 0) (hl4 : l ≤ 4) (hN : N = 1 + nn % 8) (p : Nat) (hp4 : p < 4 * N + 1) (hpm : ∀ m, hasB k es N m = decide (m ≤ p)) :
    Calls Try.prog 4 #[.agg #[.int .i64 (l : Int), .int .i64 (k : Int), v], .int .u8 (nn : Int)] w (Ret w (.bool true)) := by
  have hN1 : 1 ≤ N := by omega
  have hN8 : N ≤ 8 := by omega
  obtain ⟨va, vc, rfl, hle⟩ := hr.slice
  obtain ⟨mm, hmm⟩ : ∃ mm, mm = es.length := ⟨_, rfl⟩
  have s0 := (Below.refl w.heap.size w).alloc (Nat.le_refl _) (.cells #[.int .i64 (l : Int), .int .i64 (k : Int), .slice va es.length vc] 24)
  have b0 := Blk.new w 24 [.int .i64 (l : Int), .int .i64 (k : Int), .slice va es.length vc]
  have hr0 := hr.below s0 (Nat.le_refl _)
  have hfi := fine_any (l : Int) (k : Int) es _ _ hr0 hok
  have haw := awake29_true
  rw [← hmm] at s0 b0 hr0 hfi
  have HMM := Lib.hid hmm; clear hmm
  have HFI := Lib.hid hfi; clear hfi
  have HAW := Lib.hid haw; clear haw
  have S0 := Lib.hid s0; clear s0
  have B0 := Lib.hid b0; clear b0
  have HR := Lib.hid hr0; clear hr0
  have hNz : (1 + (nn : Int) % 8) = (N : Int) := by omega
  clear hN
  have hprq := fun (q : Nat) (hq : q ≤ 17) v' w' (h : Row w' v' es.length (ce es)) => eprc_any (l : Int) (k : Int) es v' (N : Int) (ineg ((2 ^ q : Nat) : Int)) (imag ((2 ^ q : Nat) : Int)) w' h hok (by
    have := small_nat (x := 2 ^ q) (by have := pow17 hq; omega)
    exact this)
  simp only [prcP_pow hE (show N ≤ 4096 by omega)] at hprq
  have hofq := fun (q : Nat) (hq : q ≤ 17) w' => iof_any ((2 ^ q : Nat) : Int) w' (pow_rng hq).1 (pow_rng hq).2
  have HNZ := Lib.hid hNz; clear hNz
  have hbp : hasB k es N p = true := by rw [hpm]; simp
  have hbp1 : hasB k es N (p + 1) = false := by rw [hpm]; simp
  have hwd := hasB_words hE hbp
  rw [Int.toNat_natCast] at hwd
  have hp16 := pow_four hl4 hN8 hwd
  have hbi := fun v' w' (h : Row w' v' es.length (ce es)) => ebits_ok (l : Int) k N es v' w' h hok hE hN1 (by omega) (p : Int) 0 (.inr ⟨p, rfl, rfl, hp4, hpm⟩)
  have hpr := fun v' w' h => hprq p (by omega) v' w' h
  have hof := fun w' => hofq p (by omega) w'
  have hpr1 := fun v' w' h => hprq (p + 1) (by omega) v' w' h
  have hof1 := fun w' => hofq (p + 1) (by omega) w'
  simp only [hbp, if_true] at hpr
  simp only [hbp1, Bool.false_eq_true, if_false] at hpr1
  rw [← HMM.out] at hbi hpr hpr1
  have hofl := fun w' => iof_any (l : Int) w' (by omega) (by omega)
  have hpow := fun w' => ipow4_any l N w' hl4 hN8
  have hlN : l ^ N ≤ 65536 := Nat.le_trans (Nat.pow_le_pow_left hl4 N) (Nat.le_trans (Nat.pow_le_pow_right (by decide) hN8) (by decide))
  have hcmp := fun w' => icompare_any (ineg ((2 ^ p : Nat) : Int)) (ineg ((l ^ N : Nat) : Int)) (imag ((2 ^ p : Nat) : Int)) (imag ((l ^ N : Nat) : Int)) w' (small_nat (by have := pow17 (q := p) (by omega); omega)) (small_nat (by omega))
  simp only [ival_canon] at hcmp
  obtain ⟨z, hz⟩ : ∃ z, z = cmpZ ((2 ^ p : Nat) : Int) ((l ^ N : Nat) : Int) := ⟨_, rfl⟩
  rw [← hz] at hcmp
  have hzle : z ≤ 0 := by
    have h := cmpZ_neg ((l ^ N : Nat) : Int) ((2 ^ p : Nat) : Int)
    have h2 : ¬ ((l ^ N : Nat) : Int) < ((2 ^ p : Nat) : Int) := by omega
    rw [hz]
    unfold cmpZ
    split
    · decide
    · split
      · decide
      · omega
  have tz : decide (z ≤ 0) = true := by simpa using hzle
  obtain ⟨P1, hP1⟩ : ∃ P1, P1 = ((2 ^ p : Nat) : Int) := ⟨_, rfl⟩
  obtain ⟨P2, hP2⟩ : ∃ P2, P2 = ((2 ^ (p + 1) : Nat) : Int) := ⟨_, rfl⟩
  obtain ⟨WN, hWN⟩ : ∃ WN, WN = ((l ^ N : Nat) : Int) := ⟨_, rfl⟩
  rw [← hP1] at hpr hof hcmp
  rw [← hP2] at hpr1 hof1
  rw [← hWN] at hpow hcmp
  have hp17 := pow17 (q := p + 1) (by omega)
  have hsh1 : IntKind.i64.wrap ((2 : Int) ^ p) = P1 := by
    rw [hP1, show (2 : Int) ^ p = ((2 ^ p : Nat) : Int) by simp]
    exact IntWalk.i64_in _ (pow_rng (by omega))
  have hsh2 : IntKind.i64.wrap ((2 : Int) * (2 : Int) ^ p) = P2 := by
    have e : (2 : Int) * (2 : Int) ^ p = ((2 ^ (p + 1) : Nat) : Int) := by rw [Int.natCast_pow, Int.pow_succ, Int.mul_comm]; rfl
    rw [e, hP2]
    exact IntWalk.i64_in _ (pow_rng (by omega))
  have tp0 : decide ((p : Int) < 0) = false := decide_eq_false (by omega)
  have tp16 : decide (16 < (p : Int)) = false := decide_eq_false (by omega)
  have tpn : (0 : Int) ≤ (p : Int) := by omega
  have HBI := Lib.hid hbi; clear hbi
  have HPR := Lib.hid hpr; clear hpr
  have HOF := Lib.hid hof; clear hof
  have HPR1 := Lib.hid hpr1; clear hpr1
  have HOF1 := Lib.hid hof1; clear hof1
  have HOFL := Lib.hid hofl; clear hofl
  have HPOW := Lib.hid hpow; clear hpow
  have HCMP := Lib.hid hcmp; clear hcmp
  have HPM := Lib.hid hpm; clear hpm
  clear hprq hofq hE hok hbp hbp1 hwd hz hzle hP1 hP2 hWN hlN
  clear hr
  go_enter Try.func4, Try.ntmps4
  rw [← HMM.out]
  go_wp2_with fail
  go_at_call 17
  refine HFI.out.mono ?_
  rintro e w1 ⟨hq, b, rfl, hb⟩
  have s1 := S0.out.trans (hq.mono S0.out.size)
  have hr1 := HR.out.below hq (Nat.le_refl _)
  have tk := B0.out.keep hq; have x0 := tk.cell (j := 0) rfl; have x1 := tk.cell (j := 1) rfl; have x2 := tk.cell (j := 2) rfl; have C0 := Lib.hid tk; clear tk
  have S1 := Lib.hid s1; clear s1
  have HR1 := Lib.hid hr1; clear hr1
  clear hq
  cases b with
  | false =>
    go_wp2_with fail
    go_at_call 11
    refine (HAW.out _).mono ?_
    rintro e w2 ⟨hq, rfl⟩
    have HQ := Lib.hid hq; clear hq
    go_wp2_with fail
    go_ret
    exact ⟨S1.out.trans (HQ.out.mono S1.out.size), rfl⟩
  | true =>
    go_wp2_with fail
    rw [HNZ.out]
    go_at_call 14
    refine (HBI.out _ _ HR1.out).mono ?_
    rintro e w2 ⟨hq, rfl⟩
    have s2 := S1.out.trans (hq.mono S1.out.size)
    have hr2 := HR1.out.below hq (Nat.le_refl _)
    clear x0 x1 x2
    have tk := C0.out.keep hq; have x0 := tk.cell (j := 0) rfl; have x1 := tk.cell (j := 1) rfl; have x2 := tk.cell (j := 2) rfl; have D0 := Lib.hid tk; clear tk
    have S2 := Lib.hid s2; clear s2
    have HR2 := Lib.hid hr2; clear hr2
    clear hq
    go_wp2_with fail
    refine wp_region_held_drew (S := fun w' => w'.cell? ⟨w.heap.size, 0, none⟩ = some (.int .i64 (l : Int)) ∧ w'.cell? ⟨w.heap.size, 1, none⟩ = some (.int .i64 (k : Int)) ∧ w'.cell? ⟨w.heap.size, 2, none⟩ = some (.slice va mm vc)) (by kernel_rfl) ?_ (fun hHeld => ?_)
    · go_keep
    refine wpAnyH_take (i := 0) (v := ?_) rfl (by kernel_rfl) (by kernel_rfl) (by kernel_rfl) (fun _ _ _ h => h) (Or.inl ⟨by rfl, ?_⟩) (by assumption) ?_
    rotate_left
    · (intro wS hSw; (try dsimp only at hSw); go_simp; (try with_reducible rfl))
    (try simp only [Act.put, List.setIfInBounds_toArray, List.set_cons_zero, List.set_cons_succ])
    refine wpAnyH_take (i := 1) (v := ?_) rfl (by kernel_rfl) (by kernel_rfl) (by kernel_rfl) (fun _ _ _ h => h) (Or.inl ⟨by rfl, ?_⟩) (by assumption) ?_
    rotate_left
    · (intro wS hSw; (try dsimp only at hSw); go_simp; (try with_reducible rfl))
    (try simp only [Act.put, List.setIfInBounds_toArray, List.set_cons_zero, List.set_cons_succ])
    refine wpAnyH_take (i := 2) (v := ?_) rfl (by kernel_rfl) (by kernel_rfl) (by kernel_rfl) (fun _ _ _ h => h) (Or.inl ⟨by rfl, ?_⟩) (by assumption) ?_
    rotate_left
    · (intro wS hSw; (try dsimp only at hSw); go_simp; (try with_reducible rfl))
    (try simp only [Act.put, List.setIfInBounds_toArray, List.set_cons_zero, List.set_cons_succ])
    refine wpAnyH_take (i := 3) (v := ?_) rfl (by kernel_rfl) (by kernel_rfl) (by kernel_rfl) (fun _ _ _ h => h) (Or.inl ⟨by rfl, ?_⟩) (by assumption) ?_
    rotate_left
    · (intro wS hSw; (try dsimp only at hSw); go_simp; (try with_reducible rfl))
    (try simp only [Act.put, List.setIfInBounds_toArray, List.set_cons_zero, List.set_cons_succ])
    refine wpAnyH_ready (rs := [4]) (by kernel_rfl) (by simp) ?_
    refine AllReadyH.cons rfl (fun K hK => ?_) AllReadyH.nil
    go_simp
    go_at_call 18
    refine (HOF.out _).mono ?_
    rintro e w3 ⟨hq, rfl⟩
    dsimp only
    have z0 := (hq.cell (p := ⟨w.heap.size, 0, none⟩) (show w.heap.size < w2.heap.size from D0.out.lt)).trans hHeld.1
    have z1 := (hq.cell (p := ⟨w.heap.size, 1, none⟩) (show w.heap.size < w2.heap.size from D0.out.lt)).trans hHeld.2.1
    have z2 := (hq.cell (p := ⟨w.heap.size, 2, none⟩) (show w.heap.size < w2.heap.size from D0.out.lt)).trans hHeld.2.2
    refine hK.out _ _ ⟨z0, z1, z2⟩ (fun hHeld2 => ?_)
    clear hK K hHeld
    (try simp only [Act.put, List.setIfInBounds_toArray, List.set_cons_zero, List.set_cons_succ])
    have s5 := S2.out.drew.trans (hq.mono S2.out.size)
    have b5 := D0.out.drew.keep hq
    have r5 := HR2.out.drew.below hq (Nat.le_refl _)
    have S5a := Lib.hid s5; clear s5
    have B5a := Lib.hid b5; clear b5
    have R5a := Lib.hid r5; clear r5
    clear hq x0 x1 x2
    refine wpAnyH_ready (rs := [5]) (by kernel_rfl) (by simp) ?_
    refine AllReadyH.cons rfl (fun K hK => ?_) AllReadyH.nil
    go_simp
    go_at_call 12
    refine (HPR.out _ _ R5a.out).mono ?_
    rintro e w4 ⟨hq, vla, rfl, -⟩
    dsimp only
    have z3 := (hq.cell (p := ⟨w.heap.size, 0, none⟩) (show w.heap.size < w3.heap.size from B5a.out.lt)).trans z0
    have z4 := (hq.cell (p := ⟨w.heap.size, 1, none⟩) (show w.heap.size < w3.heap.size from B5a.out.lt)).trans z1
    have z5 := (hq.cell (p := ⟨w.heap.size, 2, none⟩) (show w.heap.size < w3.heap.size from B5a.out.lt)).trans z2
    refine hK.out _ _ ⟨z3, z4, z5⟩ (fun hHeld3 => ?_)
    clear hK K hHeld2
    (try simp only [Act.put, List.setIfInBounds_toArray, List.set_cons_zero, List.set_cons_succ])
    have s6 := S5a.out.trans (hq.mono S5a.out.size)
    have b6 := B5a.out.keep hq
    have r6 := R5a.out.below hq (Nat.le_refl _)
    have x0 := b6.cell (j := 0) rfl
    have x1 := b6.cell (j := 1) rfl
    have x2 := b6.cell (j := 2) rfl
    have S4 := Lib.hid s6; clear s6
    have E0 := Lib.hid b6; clear b6
    have HR4 := Lib.hid r6; clear r6
    clear hq z0 z1 z2 z3 z4 z5
    refine wpAnyH_take (i := 6) (v := ?_) rfl (by kernel_rfl) (by kernel_rfl) (by kernel_rfl) (fun _ _ _ h => h) (Or.inl ⟨by rfl, ?_⟩) (by assumption) ?_
    rotate_left
    · (intro wS hSw; (try dsimp only at hSw); go_simp; (try with_reducible rfl))
    (try simp only [Act.put, List.setIfInBounds_toArray, List.set_cons_zero, List.set_cons_succ])
    refine wpAnyH_take (i := 7) (v := ?_) rfl (by kernel_rfl) (by kernel_rfl) (by kernel_rfl) (fun _ _ _ h => h) (Or.inl ⟨by rfl, ?_⟩) (by assumption) ?_
    rotate_left
    · (intro wS hSw; (try dsimp only at hSw); go_simp; (try with_reducible rfl))
    (try simp only [Act.put, List.setIfInBounds_toArray, List.set_cons_zero, List.set_cons_succ])
    refine wpAnyH_take (i := 8) (v := ?_) rfl (by kernel_rfl) (by kernel_rfl) (by kernel_rfl) (fun _ _ _ h => h) (Or.inl ⟨by rfl, ?_⟩) (by assumption) ?_
    rotate_left
    · (intro wS hSw; (try dsimp only at hSw); go_simp; (try with_reducible rfl))
    (try simp only [Act.put, List.setIfInBounds_toArray, List.set_cons_zero, List.set_cons_succ])
    refine wpAnyH_take (i := 9) (v := ?_) rfl (by kernel_rfl) (by kernel_rfl) (by kernel_rfl) (fun _ _ _ h => h) (Or.inl ⟨by rfl, ?_⟩) (by assumption) ?_
    rotate_left
    · (intro wS hSw; (try dsimp only at hSw); go_simp; (try with_reducible rfl))
    (try simp only [Act.put, List.setIfInBounds_toArray, List.set_cons_zero, List.set_cons_succ])
    refine wpAnyH_take (i := 10) (v := ?_) rfl (by kernel_rfl) (by kernel_rfl) (by kernel_rfl) (fun _ _ _ h => h) (Or.inl ⟨by rfl, ?_⟩) (by assumption) ?_
    rotate_left
    · (intro wS hSw; (try dsimp only at hSw); go_simp; (try with_reducible rfl))
    (try simp only [Act.put, List.setIfInBounds_toArray, List.set_cons_zero, List.set_cons_succ])
    refine wpAnyH_done (by kernel_rfl) ?_ _
    (try simp only [List.getElem_toArray, List.getElem_cons_zero, List.getElem_cons_succ, Act.put, List.setIfInBounds_toArray, List.set_cons_zero, List.set_cons_succ])
    clear hHeld3
    go_wp2_with fail
    refine wp_region_held_drew (S := fun w' => w'.cell? ⟨w.heap.size, 0, none⟩ = some (.int .i64 (l : Int)) ∧ w'.cell? ⟨w.heap.size, 1, none⟩ = some (.int .i64 (k : Int)) ∧ w'.cell? ⟨w.heap.size, 2, none⟩ = some (.slice va mm vc)) (by kernel_rfl) ?_ (fun hHeld => ?_)
    · go_keep
    refine wpAnyH_take (i := 0) (v := ?_) rfl (by kernel_rfl) (by kernel_rfl) (by kernel_rfl) (fun _ _ _ h => h) (Or.inl ⟨by rfl, ?_⟩) (by assumption) ?_
    rotate_left
    · (intro wS hSw; (try dsimp only at hSw); go_simp; (try with_reducible rfl))
    (try simp only [Act.put, List.setIfInBounds_toArray, List.set_cons_zero, List.set_cons_succ])
    refine wpAnyH_take (i := 1) (v := ?_) rfl (by kernel_rfl) (by kernel_rfl) (by kernel_rfl) (fun _ _ _ h => h) (Or.inl ⟨by rfl, ?_⟩) (by assumption) ?_
    rotate_left
    · (intro wS hSw; (try dsimp only at hSw); go_simp; (try with_reducible rfl))
    (try simp only [Act.put, List.setIfInBounds_toArray, List.set_cons_zero, List.set_cons_succ])
    refine wpAnyH_take (i := 2) (v := ?_) rfl (by kernel_rfl) (by kernel_rfl) (by kernel_rfl) (fun _ _ _ h => h) (Or.inl ⟨by rfl, ?_⟩) (by assumption) ?_
    rotate_left
    · (intro wS hSw; (try dsimp only at hSw); go_simp; (try with_reducible rfl))
    (try simp only [Act.put, List.setIfInBounds_toArray, List.set_cons_zero, List.set_cons_succ])
    refine wpAnyH_take (i := 3) (v := ?_) rfl (by kernel_rfl) (by kernel_rfl) (by kernel_rfl) (fun _ _ _ h => h) (Or.inl ⟨by rfl, ?_⟩) (by assumption) ?_
    rotate_left
    · (intro wS hSw; (try dsimp only at hSw); go_simp; (try with_reducible rfl))
    (try simp only [Act.put, List.setIfInBounds_toArray, List.set_cons_zero, List.set_cons_succ])
    refine wpAnyH_ready (rs := [4]) (by kernel_rfl) (by simp) ?_
    refine AllReadyH.cons rfl (fun K hK => ?_) AllReadyH.nil
    go_simp
    go_at_call 18
    refine (HOF1.out _).mono ?_
    rintro e w5 ⟨hq, rfl⟩
    dsimp only
    have z0 := (hq.cell (p := ⟨w.heap.size, 0, none⟩) (show w.heap.size < w4.heap.size from E0.out.lt)).trans hHeld.1
    have z1 := (hq.cell (p := ⟨w.heap.size, 1, none⟩) (show w.heap.size < w4.heap.size from E0.out.lt)).trans hHeld.2.1
    have z2 := (hq.cell (p := ⟨w.heap.size, 2, none⟩) (show w.heap.size < w4.heap.size from E0.out.lt)).trans hHeld.2.2
    refine hK.out _ _ ⟨z0, z1, z2⟩ (fun hHeld2 => ?_)
    clear hK K hHeld
    (try simp only [Act.put, List.setIfInBounds_toArray, List.set_cons_zero, List.set_cons_succ])
    have s5 := S4.out.drew.trans (hq.mono S4.out.size)
    have b5 := E0.out.drew.keep hq
    have r5 := HR4.out.drew.below hq (Nat.le_refl _)
    have S5b := Lib.hid s5; clear s5
    have B5b := Lib.hid b5; clear b5
    have R5b := Lib.hid r5; clear r5
    clear hq x0 x1 x2
    refine wpAnyH_ready (rs := [5]) (by kernel_rfl) (by simp) ?_
    refine AllReadyH.cons rfl (fun K hK => ?_) AllReadyH.nil
    go_simp
    go_at_call 12
    refine (HPR1.out _ _ R5b.out).mono ?_
    rintro e w6 ⟨hq, vlb, rfl, -⟩
    dsimp only
    have z3 := (hq.cell (p := ⟨w.heap.size, 0, none⟩) (show w.heap.size < w5.heap.size from B5b.out.lt)).trans z0
    have z4 := (hq.cell (p := ⟨w.heap.size, 1, none⟩) (show w.heap.size < w5.heap.size from B5b.out.lt)).trans z1
    have z5 := (hq.cell (p := ⟨w.heap.size, 2, none⟩) (show w.heap.size < w5.heap.size from B5b.out.lt)).trans z2
    refine hK.out _ _ ⟨z3, z4, z5⟩ (fun hHeld3 => ?_)
    clear hK K hHeld2
    (try simp only [Act.put, List.setIfInBounds_toArray, List.set_cons_zero, List.set_cons_succ])
    have s6 := S5b.out.trans (hq.mono S5b.out.size)
    have b6 := B5b.out.keep hq
    have r6 := R5b.out.below hq (Nat.le_refl _)
    have x0 := b6.cell (j := 0) rfl
    have x1 := b6.cell (j := 1) rfl
    have x2 := b6.cell (j := 2) rfl
    have S6 := Lib.hid s6; clear s6
    have F0 := Lib.hid b6; clear b6
    have HR6 := Lib.hid r6; clear r6
    clear hq z0 z1 z2 z3 z4 z5
    refine wpAnyH_take (i := 6) (v := ?_) rfl (by kernel_rfl) (by kernel_rfl) (by kernel_rfl) (fun _ _ _ h => h) (Or.inl ⟨by rfl, ?_⟩) (by assumption) ?_
    rotate_left
    · (intro wS hSw; (try dsimp only at hSw); go_simp; (try with_reducible rfl))
    (try simp only [Act.put, List.setIfInBounds_toArray, List.set_cons_zero, List.set_cons_succ])
    refine wpAnyH_take (i := 7) (v := ?_) rfl (by kernel_rfl) (by kernel_rfl) (by kernel_rfl) (fun _ _ _ h => h) (Or.inl ⟨by rfl, ?_⟩) (by assumption) ?_
    rotate_left
    · (intro wS hSw; (try dsimp only at hSw); go_simp; (try with_reducible rfl))
    (try simp only [Act.put, List.setIfInBounds_toArray, List.set_cons_zero, List.set_cons_succ])
    refine wpAnyH_take (i := 8) (v := ?_) rfl (by kernel_rfl) (by kernel_rfl) (by kernel_rfl) (fun _ _ _ h => h) (Or.inl ⟨by rfl, ?_⟩) (by assumption) ?_
    rotate_left
    · (intro wS hSw; (try dsimp only at hSw); go_simp; (try with_reducible rfl))
    (try simp only [Act.put, List.setIfInBounds_toArray, List.set_cons_zero, List.set_cons_succ])
    refine wpAnyH_take (i := 9) (v := ?_) rfl (by kernel_rfl) (by kernel_rfl) (by kernel_rfl) (fun _ _ _ h => h) (Or.inl ⟨by rfl, ?_⟩) (by assumption) ?_
    rotate_left
    · (intro wS hSw; (try dsimp only at hSw); go_simp; (try with_reducible rfl))
    (try simp only [Act.put, List.setIfInBounds_toArray, List.set_cons_zero, List.set_cons_succ])
    refine wpAnyH_take (i := 10) (v := ?_) rfl (by kernel_rfl) (by kernel_rfl) (by kernel_rfl) (fun _ _ _ h => h) (Or.inl ⟨by rfl, ?_⟩) (by assumption) ?_
    rotate_left
    · (intro wS hSw; (try dsimp only at hSw); go_simp; (try with_reducible rfl))
    (try simp only [Act.put, List.setIfInBounds_toArray, List.set_cons_zero, List.set_cons_succ])
    refine wpAnyH_done (by kernel_rfl) ?_ _
    (try simp only [List.getElem_toArray, List.getElem_cons_zero, List.getElem_cons_succ, Act.put, List.setIfInBounds_toArray, List.set_cons_zero, List.set_cons_succ])
    clear hHeld3
    go_wp2_with fail
    go_at_call 18
    refine (HOFL.out _).mono ?_
    rintro e w7 ⟨hq, rfl⟩
    have s7 := S6.out.trans (hq.mono S6.out.size)
    clear x0 x1 x2
    have S7 := Lib.hid s7; clear s7
    clear hq
    go_wp2_with fail
    go_at_call 19
    refine (HPOW.out _).mono ?_
    rintro e w8 ⟨hq, rfl⟩
    have s8 := S7.out.trans (hq.mono S7.out.size)
    have S8 := Lib.hid s8; clear s8
    clear hq
    go_wp2_with fail
    have a14 := Blk.new w8 26 [.bool (ineg WN), .string (imag WN)]
    have c0 := a14.cell (j := 0) rfl
    have c1 := a14.cell (j := 1) rfl
    have s9 := (S8.out.alloc S8.out.size (.cells #[.bool (ineg WN), .string (imag WN)] 26)).drew
    have S9 := Lib.hid s9; clear s9
    clear a14
    refine wp_region_held_drew (S := fun w' => w'.cell? ⟨w8.heap.size, 0, none⟩ = some (.bool (ineg WN)) ∧ w'.cell? ⟨w8.heap.size, 1, none⟩ = some (.string (imag WN))) (by kernel_rfl) ?_ (fun hHeld => ?_)
    · go_keep
    clear c0 c1
    refine wpAnyH_take (i := 0) (v := ?_) rfl (by kernel_rfl) (by kernel_rfl) (by kernel_rfl) (fun _ _ _ h => h) (Or.inl ⟨by rfl, ?_⟩) (by assumption) ?_
    rotate_left
    · (intro wS hSw; (try dsimp only at hSw); go_simp; (try with_reducible rfl))
    (try simp only [Act.put, List.setIfInBounds_toArray, List.set_cons_zero, List.set_cons_succ])
    refine wpAnyH_take (i := 1) (v := ?_) rfl (by kernel_rfl) (by kernel_rfl) (by kernel_rfl) (fun _ _ _ h => h) (Or.inl ⟨by rfl, ?_⟩) (by assumption) ?_
    rotate_left
    · (intro wS hSw; (try dsimp only at hSw); go_simp; (try with_reducible rfl))
    (try simp only [Act.put, List.setIfInBounds_toArray, List.set_cons_zero, List.set_cons_succ])
    refine wpAnyH_take (i := 2) (v := ?_) rfl (by kernel_rfl) (by kernel_rfl) (by kernel_rfl) (fun _ _ _ h => h) (Or.inl ⟨by rfl, ?_⟩) (by assumption) ?_
    rotate_left
    · (intro wS hSw; (try dsimp only at hSw); go_simp; (try with_reducible rfl))
    (try simp only [Act.put, List.setIfInBounds_toArray, List.set_cons_zero, List.set_cons_succ])
    refine wpAnyH_take (i := 3) (v := ?_) rfl (by kernel_rfl) (by kernel_rfl) (by kernel_rfl) (fun _ _ _ h => h) (Or.inl ⟨by kernel_rfl, ?_⟩) (by assumption) ?_
    rotate_left
    · (intro wS hSw; (try dsimp only at hSw); go_simp; (try with_reducible rfl))
    (try simp only [Act.put, List.setIfInBounds_toArray, List.set_cons_zero, List.set_cons_succ])
    refine wpAnyH_take (i := 4) (v := ?_) rfl (by kernel_rfl) (by kernel_rfl) (by kernel_rfl) (fun _ _ _ h => h) (Or.inl ⟨by kernel_rfl, ?_⟩) (by assumption) ?_
    rotate_left
    · (intro wS hSw; (try dsimp only at hSw); go_simp; (try with_reducible rfl))
    (try simp only [Act.put, List.setIfInBounds_toArray, List.set_cons_zero, List.set_cons_succ])
    refine wpAnyH_take (i := 5) (v := ?_) rfl (by kernel_rfl) (by kernel_rfl) (by kernel_rfl) (fun _ _ _ h => h) (Or.inl ⟨by rfl, ?_⟩) (by assumption) ?_
    rotate_left
    · (intro wS hSw; (try dsimp only at hSw); go_simp; (try with_reducible rfl))
    (try simp only [Act.put, List.setIfInBounds_toArray, List.set_cons_zero, List.set_cons_succ])
    refine wpAnyH_take (i := 6) (v := ?_) rfl (by kernel_rfl) (by kernel_rfl) (by kernel_rfl) (fun _ _ _ h => h) (Or.inl ⟨by rfl, ?_⟩) (by assumption) ?_
    rotate_left
    · (intro wS hSw; (try dsimp only at hSw); go_simp; (try with_reducible rfl))
    (try simp only [Act.put, List.setIfInBounds_toArray, List.set_cons_zero, List.set_cons_succ])
    refine wpAnyH_take (i := 7) (v := ?_) rfl (by kernel_rfl) (by kernel_rfl) (by kernel_rfl) (fun _ _ _ h => h) (Or.inl ⟨by kernel_rfl, ?_⟩) (by assumption) ?_
    rotate_left
    · (intro wS hSw; (try dsimp only at hSw); go_simp; (try with_reducible rfl))
    (try simp only [Act.put, List.setIfInBounds_toArray, List.set_cons_zero, List.set_cons_succ])
    refine wpAnyH_take (i := 8) (v := ?_) rfl (by kernel_rfl) (by kernel_rfl) (by kernel_rfl) (fun _ _ _ h => h) (Or.inl ⟨by kernel_rfl, ?_⟩) (by assumption) ?_
    rotate_left
    · (intro wS hSw; (try dsimp only at hSw); go_simp; (try with_reducible rfl))
    (try simp only [Act.put, List.setIfInBounds_toArray, List.set_cons_zero, List.set_cons_succ])
    refine wpAnyH_take (i := 9) (v := ?_) rfl (by kernel_rfl) (by kernel_rfl) (by kernel_rfl) (fun _ _ _ h => h) (Or.inl ⟨by rfl, ?_⟩) (by assumption) ?_
    rotate_left
    · (intro wS hSw; (try dsimp only at hSw); go_simp; (try with_reducible rfl))
    (try simp only [Act.put, List.setIfInBounds_toArray, List.set_cons_zero, List.set_cons_succ])
    refine wpAnyH_take (i := 10) (v := ?_) rfl (by kernel_rfl) (by kernel_rfl) (by kernel_rfl) (fun _ _ _ h => h) (Or.inl ⟨by rfl, ?_⟩) (by assumption) ?_
    rotate_left
    · (intro wS hSw; (try dsimp only at hSw); go_simp; (try with_reducible rfl))
    (try simp only [Act.put, List.setIfInBounds_toArray, List.set_cons_zero, List.set_cons_succ])
    refine wpAnyH_take (i := 11) (v := ?_) rfl (by kernel_rfl) (by kernel_rfl) (by kernel_rfl) (fun _ _ _ h => h) (Or.inl ⟨by kernel_rfl, ?_⟩) (by assumption) ?_
    rotate_left
    · (intro wS hSw; (try dsimp only at hSw); go_simp; (try with_reducible rfl))
    (try simp only [Act.put, List.setIfInBounds_toArray, List.set_cons_zero, List.set_cons_succ])
    refine wpAnyH_take (i := 12) (v := ?_) rfl (by kernel_rfl) (by kernel_rfl) (by kernel_rfl) (fun _ _ _ h => h) (Or.inl ⟨by kernel_rfl, ?_⟩) (by assumption) ?_
    rotate_left
    · (intro wS hSw; (try dsimp only at hSw); go_simp; (try with_reducible rfl))
    (try simp only [Act.put, List.setIfInBounds_toArray, List.set_cons_zero, List.set_cons_succ])
    refine wpAnyH_take (i := 14) (v := ?_) rfl (by kernel_rfl) (by kernel_rfl) (by kernel_rfl) (fun _ _ _ h => h) (Or.inl ⟨by kernel_rfl, ?_⟩) (by assumption) ?_
    rotate_left
    · (intro wS hSw; (try dsimp only at hSw); go_simp; (try with_reducible rfl))
    (try simp only [Act.put, List.setIfInBounds_toArray, List.set_cons_zero, List.set_cons_succ])
    refine wpAnyH_ready (rs := [13]) (by kernel_rfl) (by simp) ?_
    refine AllReadyH.cons rfl (fun K hK => ?_) AllReadyH.nil
    rw [if_pos (by kernel_rfl)]
    go_simp
    go_at_call 18
    refine (HOF.out _).mono ?_
    rintro e w9 ⟨hq, rfl⟩
    dsimp only
    have z0 := (hq.cell (p := ⟨w8.heap.size, 0, none⟩) (show w8.heap.size < (w8.alloc (.cells #[.bool (ineg WN), .string (imag WN)] 26)).heap.size by first | omega | simp)).trans hHeld.1
    have z1 := (hq.cell (p := ⟨w8.heap.size, 1, none⟩) (show w8.heap.size < (w8.alloc (.cells #[.bool (ineg WN), .string (imag WN)] 26)).heap.size by first | omega | simp)).trans hHeld.2
    clear hHeld
    refine hK.out _ _ ⟨z0, z1⟩ (fun hHeld => ?_)
    clear hK K
    (try simp only [Act.put, List.setIfInBounds_toArray, List.set_cons_zero, List.set_cons_succ])
    have sn := S9.out.trans (hq.mono S9.out.size)
    have lnw9 : w8.heap.size < w9.heap.size := Nat.lt_of_lt_of_le (show w8.heap.size < (w8.alloc (.cells #[.bool (ineg WN), .string (imag WN)] 26)).heap.size by first | omega | simp) hq.size
    have Sw9 := Lib.hid sn; clear sn
    clear hq z0 z1
    refine wpAnyH_ready (rs := [15]) (by kernel_rfl) (by simp) ?_
    refine AllReadyH.cons rfl (fun K hK => ?_) AllReadyH.nil
    rw [if_pos (by kernel_rfl)]
    go_simp
    go_at_call 20
    refine (HCMP.out _).mono ?_
    rintro e wa ⟨hq, rfl⟩
    dsimp only
    have z0 := (hq.cell (p := ⟨w8.heap.size, 0, none⟩) (show w8.heap.size < w9.heap.size by first | omega | simp)).trans hHeld.1
    have z1 := (hq.cell (p := ⟨w8.heap.size, 1, none⟩) (show w8.heap.size < w9.heap.size by first | omega | simp)).trans hHeld.2
    clear hHeld
    refine hK.out _ _ ⟨z0, z1⟩ (fun hHeld => ?_)
    clear hK K
    (try simp only [Act.put, List.setIfInBounds_toArray, List.set_cons_zero, List.set_cons_succ])
    have sn := Sw9.out.trans (hq.mono Sw9.out.size)
    have lnwa : w8.heap.size < wa.heap.size := Nat.lt_of_lt_of_le (show w8.heap.size < w9.heap.size by first | omega | simp) hq.size
    have Swa := Lib.hid sn; clear sn
    clear hq z0 z1
    refine wpAnyH_take (i := 16) (v := ?_) rfl (by kernel_rfl) (by kernel_rfl) (by kernel_rfl) (fun _ _ _ h => h) (Or.inl ⟨by kernel_rfl, ?_⟩) (by assumption) ?_
    rotate_left
    · (intro wS hSw; (try dsimp only at hSw); go_simp; (try with_reducible rfl))
    (try simp only [Act.put, List.setIfInBounds_toArray, List.set_cons_zero, List.set_cons_succ])
    refine wpAnyH_take (i := 17) (v := ?_) rfl (by kernel_rfl) (by kernel_rfl) (by kernel_rfl) (fun _ _ _ h => h) (Or.inl ⟨by rfl, ?_⟩) (by assumption) ?_
    rotate_left
    · (intro wS hSw; (try dsimp only at hSw); go_simp; (try with_reducible rfl))
    (try simp only [Act.put, List.setIfInBounds_toArray, List.set_cons_zero, List.set_cons_succ])
    refine wpAnyH_take (i := 18) (v := ?_) rfl (by kernel_rfl) (by kernel_rfl) (by kernel_rfl) (fun _ _ _ h => h) (Or.inl ⟨by rfl, ?_⟩) (by assumption) ?_
    rotate_left
    · (intro wS hSw; (try dsimp only at hSw); go_simp; (try with_reducible rfl))
    (try simp only [Act.put, List.setIfInBounds_toArray, List.set_cons_zero, List.set_cons_succ])
    refine wpAnyH_ready (rs := [19]) (by kernel_rfl) (by simp) ?_
    refine AllReadyH.cons rfl (fun K hK => ?_) AllReadyH.nil
    rw [if_pos (by kernel_rfl)]
    go_simp
    go_at_call 11
    refine (HAW.out _).mono ?_
    rintro e wb ⟨hq, rfl⟩
    dsimp only
    have z0 := (hq.cell (p := ⟨w8.heap.size, 0, none⟩) (show w8.heap.size < wa.heap.size by first | omega | simp)).trans hHeld.1
    have z1 := (hq.cell (p := ⟨w8.heap.size, 1, none⟩) (show w8.heap.size < wa.heap.size by first | omega | simp)).trans hHeld.2
    clear hHeld
    refine hK.out _ _ ⟨z0, z1⟩ (fun hHeld => ?_)
    clear hK K
    (try simp only [Act.put, List.setIfInBounds_toArray, List.set_cons_zero, List.set_cons_succ])
    have sn := Swa.out.trans (hq.mono Swa.out.size)
    have lnwb : w8.heap.size < wb.heap.size := Nat.lt_of_lt_of_le (show w8.heap.size < wa.heap.size by first | omega | simp) hq.size
    have Swb := Lib.hid sn; clear sn
    clear hq z0 z1
    refine wpAnyH_take (i := 20) (v := ?_) rfl (by kernel_rfl) (by kernel_rfl) (by kernel_rfl) (fun _ _ _ h => h) (Or.inl ⟨by rfl, ?_⟩) (by assumption) ?_
    rotate_left
    · (intro wS hSw; (try dsimp only at hSw); go_simp; (try with_reducible rfl))
    (try simp only [Act.put, List.setIfInBounds_toArray, List.set_cons_zero, List.set_cons_succ])
    refine wpAnyH_take (i := 21) (v := ?_) rfl (by kernel_rfl) (by kernel_rfl) (by kernel_rfl) (fun _ _ _ h => h) (Or.inl ⟨by rfl, ?_⟩) (by assumption) ?_
    rotate_left
    · (intro wS hSw; (try dsimp only at hSw); go_simp; (try with_reducible rfl))
    (try simp only [Act.put, List.setIfInBounds_toArray, List.set_cons_zero, List.set_cons_succ])
    refine wpAnyH_done (by kernel_rfl) ?_ _
    (try simp only [List.getElem_toArray, List.getElem_cons_zero, List.getElem_cons_succ, Act.put, List.setIfInBounds_toArray, List.set_cons_zero, List.set_cons_succ])
    clear hHeld
    go_wp2_with fail
    go_ret
    exact ⟨Swb.out, rfl⟩
/-- The law. -/
theorem lbits_all (L S : Int) (es : List E3) (v : Value) (nn : Nat) (w : World) (hr : Row w v es.length (ce es)) (hok : okEs es) (hnn : nn ≤ 255) :
    Calls Try.prog 4 #[.agg #[.int .i64 L, .int .i64 S, v], .int .u8 (nn : Int)] w (Ret w (.bool true)) := by
  rcases Classical.em (FineP L S es) with hF | hF
  · obtain ⟨hE, hS, hL⟩ := hF
    have hca := chk_all (eck_zero hE).1
    obtain ⟨l, rfl⟩ : ∃ l : Nat, L = l := ⟨L.toNat, by omega⟩
    obtain ⟨k, rfl⟩ : ∃ k : Nat, S = k := ⟨S.toNat, by omega⟩
    rcases bits_ex hE (1 + nn % 8) with h0 | ⟨p, hp4, hpm⟩
    · exact lbits_none l k _ es v nn w hr hok hnn hE (by omega) rfl h0
    · exact lbits_some l k _ es v nn w hr hok hnn hE (by omega) rfl p hp4 hpm
  · exact lbits_bad L S es v nn w hr hok hnn hF
end Go.Proofs.Ytalipfnbpnkgnaa


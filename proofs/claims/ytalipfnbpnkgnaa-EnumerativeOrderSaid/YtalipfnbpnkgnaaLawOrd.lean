/- Contracts and plain laws of several functions, one after the other: Fine, PlainB3, LBits, PlainQ, PlainO, UnrO, EUnrO, Cnt, Paths, From, Short, DivI. -/
import Derived.Deep.RegionHeld3
import Derived.Test.YtalipfnbpnkgnaaGreat29
import Derived.Test.YtalipfnbpnkgnaaDet
import Derived.Test.YtalipfnbpnkgnaaEPrc
import Derived.Test.YtalipfnbpnkgnaaPart7
import Derived.Test.YtalipfnbpnkgnaaLPriD
import Derived.Test.YtalipfnbpnkgnaaEBit
import Derived.Test.YtalipfnbpnkgnaaPow
import Derived.Test.YtalipfnbpnkgnaaPart9
import Derived.Test.YtalipfnbpnkgnaaERank
import Derived.Test.YtalipfnbpnkgnaaPart11
import Derived.Test.YtalipfnbpnkgnaaUnrk
import Derived.Test.YtalipfnbpnkgnaaEUnr
import Derived.Test.YtalipfnbpnkgnaaETab
import Derived.Test.YtalipfnbpnkgnaaPart6
import Derived.Test.YtalipfnbpnkgnaaPart4
/- groovelaw29.fine: where it is true the graph is valid, deterministic, has states, and at most 4 labels. -/
namespace Go.Proofs.Ytalipfnbpnkgnaa
open Go.RowKit

set_option maxRecDepth 100000 in
set_option maxHeartbeats 3200000 in
theorem great29_lab (L S : Int) (a : Option Addr) (n c : Nat) (w : World) (h4 : 4 < L) (h16 : L ≤ 16) :
    Calls Try.prog 8 #[.agg #[.int .i64 L, .int .i64 S, .slice a n c]] w (Ret w (.bool true)) := by
  have s0 := (Below.refl w.heap.size w).alloc (Nat.le_refl _) (.cells #[.int .i64 L, .int .i64 S, .slice a n c] 24)
  have b0 := Blk.new w 24 [.int .i64 L, .int .i64 S, .slice a n c]
  have t4 : decide (4 < L) = true := by simpa using h4
  have t16 : decide (L ≤ 16) = true := by simpa using h16
  have S0 := Lib.hid s0; clear s0
  have B0 := Lib.hid b0; clear b0
  go_enter Try.func8, Try.ntmps8
  go_wp2_with fail
  go_at_call 31
  refine (great09_any _ _ _ _ _ _).mono ?_
  rintro e w1 ⟨hq, b, rfl⟩
  have s1 := S0.out.trans (hq.mono S0.out.size)
  have tk := B0.out.keep hq; have x0 := tk.cell (j := 0) rfl; have x1 := tk.cell (j := 1) rfl; have x2 := tk.cell (j := 2) rfl; have C0 := Lib.hid tk; clear tk
  have S1 := Lib.hid s1; clear s1
  clear hq
  cases b with
  | true =>
    go_wp2_with fail
    go_ret
    exact ⟨S1.out, rfl⟩
  | false =>
    go_wp2_with fail
    all_goals
      go_ret
      first
        | exact ⟨S1.out, rfl⟩
        | exact ⟨S1.out, by simp [*]⟩
def FineP (L S : Int) (es : List E3) : Prop := eck L S es = 0 ∧ 0 < S ∧ L ≤ 4
def FineRet (L S : Int) (es : List E3) (w : World) (e : Ending) (w' : World) : Prop := Below w.heap.size w w' ∧ ∃ b, e = .returned (.bool b) ∧ (b = true → FineP L S es)
set_option maxRecDepth 100000 in
set_option maxHeartbeats 3200000 in
theorem fine_any (L S : Int) (es : List E3) (v : Value) (w : World) (hr : Row w v es.length (ce es)) (hok : okEs es) :
    Calls Try.prog 17 #[.agg #[.int .i64 L, .int .i64 S, v]] w (FineRet L S es w) := by
  obtain ⟨va, vc, rfl, hle⟩ := hr.slice
  obtain ⟨mm, hmm⟩ : ∃ mm, mm = es.length := ⟨_, rfl⟩
  have s0 := (Below.refl w.heap.size w).alloc (Nat.le_refl _) (.cells #[.int .i64 L, .int .i64 S, .slice va es.length vc] 24)
  have b0 := Blk.new w 24 [.int .i64 L, .int .i64 S, .slice va es.length vc]
  have hdt := det_any L S es (.slice va es.length vc) _ (hr.below s0 (Nat.le_refl _)) hok
  obtain ⟨dis, hdis⟩ : ∃ dis, dis = (decide (chk L S es = 0) && detB es) := ⟨_, rfl⟩
  obtain ⟨der, hder⟩ : ∃ der : Int, der = (if chk L S es = 0 then 0 else 1) := ⟨_, rfl⟩
  have hF : dis = true → 0 < S → L ≤ 16 → ¬ 4 < L → FineP L S es := by
    intro h1 h2 h3 h4
    rw [hdis, Bool.and_eq_true, decide_eq_true_eq] at h1
    refine ⟨?_, h2, by omega⟩
    unfold eck
    rw [if_neg (by simp [h1.1]), if_neg (by omega), if_pos h1.2]
  rw [← hdis, ← hder] at hdt
  rw [← hmm] at hdt s0 b0
  have hgl := fun w' h4 h16 => great29_lab L S va mm vc w' h4 h16
  have hga := fun w' => great29_any L S va mm vc w'
  have HMM := Lib.hid hmm; clear hmm
  have HDT := Lib.hid hdt; clear hdt
  have S0 := Lib.hid s0; clear s0
  have B0 := Lib.hid b0; clear b0
  have HF := Lib.hid hF; clear hF
  have HGL := Lib.hid hgl; clear hgl
  have HGA := Lib.hid hga; clear hga
  clear hr hok hdis hder
  go_enter Try.func17, Try.ntmps17
  rw [← HMM.out]
  go_wp2_with fail
  go_at_call 45
  refine HDT.out.mono ?_
  rintro e w1 ⟨hq, rfl⟩
  have s1 := S0.out.trans (hq.mono S0.out.size)
  have tk := B0.out.keep hq; have x0 := tk.cell (j := 0) rfl; have x1 := tk.cell (j := 1) rfl; have x2 := tk.cell (j := 2) rfl; have C0 := Lib.hid tk; clear tk
  have S1 := Lib.hid s1; clear s1
  clear hq
  go_wp2_with fail
  go_at_call 8
  by_cases hb : 4 < L ∧ L ≤ 16
  · refine (HGL.out _ hb.1 hb.2).mono ?_
    rintro e w2 ⟨hq, rfl⟩
    have s2 := S1.out.trans (hq.mono S1.out.size)
    clear x0 x1 x2
    have tk := C0.out.keep hq; have x0 := tk.cell (j := 0) rfl; have x1 := tk.cell (j := 1) rfl; have x2 := tk.cell (j := 2) rfl; have D0 := Lib.hid tk; clear tk
    have S2 := Lib.hid s2; clear s2
    clear hq
    go_wp2_with fail
    go_ret
    exact ⟨S2.out, _, rfl, fun h => by cases h⟩
  · refine (HGA.out _).mono ?_
    rintro e w2 ⟨hq, b, rfl⟩
    have s2 := S1.out.trans (hq.mono S1.out.size)
    clear x0 x1 x2
    have tk := C0.out.keep hq; have x0 := tk.cell (j := 0) rfl; have x1 := tk.cell (j := 1) rfl; have x2 := tk.cell (j := 2) rfl; have D0 := Lib.hid tk; clear tk
    have S2 := Lib.hid s2; clear s2
    clear hq
    cases b with
    | true =>
      go_wp2_with fail
      go_ret
      exact ⟨S2.out, _, rfl, fun h => by cases h⟩
    | false =>
      cases dis with
      | false =>
        by_cases hd0 : der = 0
        · have t0 : (der == 0) = true := by simp [hd0]
          go_wp2_with fail
          go_ret
          exact ⟨S2.out, _, rfl, fun h => by cases h⟩
        · have t0 : (der == 0) = false := by simp [hd0]
          go_wp2_with fail
          go_ret
          exact ⟨S2.out, _, rfl, fun h => by cases h⟩
      | true =>
        by_cases hd0 : der = 0
        · have t0 : (der == 0) = true := by simp [hd0]
          by_cases hS : 0 < S
          · have tS : decide (0 < S) = true := by simpa using hS
            by_cases hL : L ≤ 16
            · have tL : decide (L ≤ 16) = true := by simpa using hL
              have hf := HF.out rfl hS hL (by omega)
              have HFP := Lib.hid hf; clear hf
              go_wp2_with fail
              go_ret
              exact ⟨S2.out, _, rfl, fun _ => HFP.out⟩
            · have tL : decide (L ≤ 16) = false := by simpa using hL
              go_wp2_with fail
              go_ret
              exact ⟨S2.out, _, rfl, fun h => by cases h⟩
          · have tS : decide (0 < S) = false := by simpa using hS
            go_wp2_with fail
            go_ret
            exact ⟨S2.out, _, rfl, fun h => by cases h⟩
        · have t0 : (der == 0) = false := by simp [hd0]
          go_wp2_with fail
          go_ret
          exact ⟨S2.out, _, rfl, fun h => by cases h⟩
end Go.Proofs.Ytalipfnbpnkgnaa

/- Principal at powers of 2, and words over the letters of a graph, in plain Lean. -/
namespace Go.Proofs.Ytalipfnbpnkgnaa
open Go.RowKit

/-- At most as many edges leave a state as there are labels. -/
theorem deg_leL {L S : Int} {es : List E3} (h : eck L S es = 0) (s : Int) : (es.filter fun e => e.f == s).length ≤ L.toNat := by
  obtain ⟨hc, hL, hd⟩ := eck_zero h
  have hrng := (chk_all hc).2.2.2.2
  have hcl : chkL L S none es = 0 := by
    unfold chk at hc
    split at hc
    · cases hc
    · split at hc
      · cases hc
      · split at hc
        · cases hc
        · exact hc
  have hp := (det_sorted hcl hd).filter (fun e => e.f == s)
  have hm : ((es.filter fun e => e.f == s).map fun e => e.l).Pairwise (· < ·) := by
    rw [List.pairwise_map]
    refine hp.imp_of_mem fun {a b} ha hb hab => ?_
    have h1 : a.f = s := by simpa using (List.mem_filter.1 ha).2
    have h2 : b.f = s := by simpa using (List.mem_filter.1 hb).2
    unfold ltFL at hab
    omega
  have h3 := asc_length _ 0 L (fun x hx => by
    obtain ⟨e, he, rfl⟩ := List.mem_map.1 hx
    have := hrng e (List.mem_filter.1 he).1
    unfold edgeBad at this
    omega) hm
  rw [List.length_map] at h3
  omega
theorem cw_leL {L S : Int} {es : List E3} (h : eck L S es = 0) (p : Int → Bool) (n : Nat) (s : Int) : cw es p n s ≤ ((L.toNat ^ n : Nat) : Int) := cw_le es p L.toNat (deg_leL h) n s
/-- 2^q is at most the number of words, where there is a set for q bits. -/
theorem hasB_words {L : Int} {S : Nat} {es : List E3} (h : eck L (S : Int) es = 0) {n q : Nat} (hq : hasB S es n q = true) : 2 ^ q ≤ L.toNat ^ n := by
  rcases Nat.lt_or_ge (L.toNat ^ n) (2 ^ q) with h1 | h1
  · exfalso
    unfold hasB at hq
    rw [prin_empty (fun p s => by have := cw_leL h p n s; omega)] at hq
    cases hq
  · exact h1
theorem pow_four {L n : Nat} (hL : L ≤ 4) (hn : n ≤ 8) {q : Nat} (h : 2 ^ q ≤ L ^ n) : q ≤ 16 := by
  have h1 : L ^ n ≤ 4 ^ n := Nat.pow_le_pow_left hL n
  have h2 : 4 ^ n ≤ 4 ^ 8 := Nat.pow_le_pow_right (by decide) hn
  rcases Nat.lt_or_ge 16 q with h3 | h3
  · have h4 : 2 ^ 17 ≤ 2 ^ q := Nat.pow_le_pow_right (by decide) h3
    have h5 : (4 : Nat) ^ 8 = 65536 := by decide
    have h6 : (2 : Nat) ^ 17 = 131072 := by decide
    omega
  · exact h3
/-- Principal's error at 2^q. -/
theorem prcP_pow {L : Int} {S n q : Nat} {es : List E3} (h : eck L (S : Int) es = 0) (hn : n ≤ 4096) : (prcP L (S : Int) es (n : Int) (ineg ((2 ^ q : Nat) : Int)) (imag ((2 ^ q : Nat) : Int))).2 = if hasB S es n q = true then 0 else 15 := by
  have hc : cnB (ineg ((2 ^ q : Nat) : Int)) (imag ((2 ^ q : Nat) : Int)) = true := (cnB_iff _ _).2 (by rw [ival_canon]; exact ⟨rfl, rfl⟩)
  have hp : 0 < 2 ^ q := Nat.pow_pos (by decide)
  unfold prcP
  rw [if_neg (by simp [h]), if_neg (by omega), hc, if_neg (by simp), ival_canon, if_neg (by omega)]
  rw [Int.toNat_natCast, Int.toNat_natCast]
  by_cases hb : prin es n ((2 ^ q : Nat) : Int) (uptoZ S) = []
  · rw [if_pos hb]
    have : hasB S es n q = false := by unfold hasB; rw [hb]; rfl
    rw [this]; rfl
  · rw [if_neg hb]
    have : hasB S es n q = true := by
      unfold hasB
      rw [decide_eq_true_iff]
      exact List.length_pos_iff.2 hb
    rw [this]; rfl
end Go.Proofs.Ytalipfnbpnkgnaa

/- The law EnumerativeBits. -/
namespace Go.Proofs.Ytalipfnbpnkgnaa
open Go.RowKit

theorem ipow4_any (l N : Nat) (w : World) (hl : l ≤ 4) (hN : N ≤ 8) : Calls Try.prog 19 #[IntV (l : Int), .int .i64 (N : Int)] w (Ret w (.tuple #[IntV ((l ^ N : Nat) : Int), .int .i64 0])) := by
  have hb : ∀ x : Fin 5, 0 ≤ lenB x.val ∧ lenB x.val ≤ 3 := by decide +kernel
  have h1 := hb ⟨l, by omega⟩
  dsimp only at h1
  refine ipower_any l N w ?_ (by omega) ?_ ⟨h1.1, by omega⟩ (fun e he => ?_)
  · rw [imag_size]
    refine Nat.le_trans (bb_length_le (m := 1) ?_) (by decide)
    rw [Nat.pow_one]; omega
  · have : (N : Int) * lenB l ≤ (N : Int) * 3 := Int.mul_le_mul_of_nonneg_left h1.2 (by omega)
    omega
  · refine Nat.le_trans (dg_length_le (m := e + 1) ?_) (by omega)
    have h2 : l ^ e ≤ 4294967296 ^ e := Nat.pow_le_pow_left (by omega) e
    have h3 : 4294967296 ^ e < 4294967296 ^ (e + 1) := Nat.pow_lt_pow_right (by decide) (by omega)
    omega
theorem pow17 {q : Nat} (h : q ≤ 17) : 2 ^ q ≤ 131072 := Nat.le_trans (Nat.pow_le_pow_right (by decide) h) (by decide)
theorem pow_rng {q : Nat} (h : q ≤ 17) : -9223372036854775808 ≤ ((2 ^ q : Nat) : Int) ∧ ((2 ^ q : Nat) : Int) ≤ 9223372036854775807 :=
  ⟨Int.le_trans (by decide) (Int.natCast_nonneg _), Int.le_trans (Int.ofNat_le.2 (pow17 h)) (by decide)⟩
theorem small_nat {x : Nat} (h : x ≤ 1000000) : small (x : Int) := small_of (m := 3) (by rw [Int.natAbs_natCast]; have : (256:Nat)^3 = 16777216 := by decide
                                                                                         omega) (by omega)

set_option maxRecDepth 100000 in
set_option maxHeartbeats 3200000 in
theorem lbits_bad (L S : Int) (es : List E3) (v : Value) (nn : Nat) (w : World) (hr : Row w v es.length (ce es)) (hok : okEs es) (hnn : nn ≤ 255) (hF : ¬ FineP L S es) :
    Calls Try.prog 4 #[.agg #[.int .i64 L, .int .i64 S, v], .int .u8 (nn : Int)] w (Ret w (.bool true)) := by
  obtain ⟨va, vc, rfl, hle⟩ := hr.slice
  obtain ⟨mm, hmm⟩ : ∃ mm, mm = es.length := ⟨_, rfl⟩
  have s0 := (Below.refl w.heap.size w).alloc (Nat.le_refl _) (.cells #[.int .i64 L, .int .i64 S, .slice va es.length vc] 24)
  have b0 := Blk.new w 24 [.int .i64 L, .int .i64 S, .slice va es.length vc]
  have hr0 := hr.below s0 (Nat.le_refl _)
  have hfi := fine_any L S es _ _ hr0 hok
  have haw := awake29_true
  rw [← hmm] at s0 b0 hr0 hfi
  have HMM := Lib.hid hmm; clear hmm
  have HFI := Lib.hid hfi; clear hfi
  have HAW := Lib.hid haw; clear haw
  have S0 := Lib.hid s0; clear s0
  have B0 := Lib.hid b0; clear b0
  have HR := Lib.hid hr0; clear hr0
  clear hr
  go_enter Try.func4, Try.ntmps4
  rw [← HMM.out]
  go_wp2_with fail
  go_at_call 17
  refine HFI.out.mono ?_
  rintro e w1 ⟨hq, b, rfl, hb⟩
  have s1 := S0.out.trans (hq.mono S0.out.size)
  have hr1 := HR.out.below hq (Nat.le_refl _)
  have tk := B0.out.keep hq; have x0 := tk.cell (j := 0) rfl; have x1 := tk.cell (j := 1) rfl; have x2 := tk.cell (j := 2) rfl; have C0 := Lib.hid tk; clear tk
  have S1 := Lib.hid s1; clear s1
  have HR1 := Lib.hid hr1; clear hr1
  clear hq
  cases b with
  | false =>
    go_wp2_with fail
    go_at_call 11
    refine (HAW.out _).mono ?_
    rintro e w2 ⟨hq, rfl⟩
    have HQ := Lib.hid hq; clear hq
    go_wp2_with fail
    go_ret
    exact ⟨S1.out.trans (HQ.out.mono S1.out.size), rfl⟩
  | true => exact absurd (hb rfl) hF
set_option maxRecDepth 100000 in
set_option maxHeartbeats 3200000 in
theorem lbits_none (l k N : Nat) (es : List E3) (v : Value) (nn : Nat) (w : World) (hr : Row w v es.length (ce es)) (hok : okEs es) (hnn : nn ≤ 255) (hE : eck (l : Int) (k : Int) es = 0) (hl4 : l ≤ 4) (hN : N = 1 + nn % 8) (h0 : hasB k es N 0 = false) :
    Calls Try.prog 4 #[.agg #[.int .i64 (l : Int), .int .i64 (k : Int), v], .int .u8 (nn : Int)] w (Ret w (.bool true)) := by
  have hN1 : 1 ≤ N := by omega
  have hN8 : N ≤ 8 := by omega
  obtain ⟨va, vc, rfl, hle⟩ := hr.slice
  obtain ⟨mm, hmm⟩ : ∃ mm, mm = es.length := ⟨_, rfl⟩
  have s0 := (Below.refl w.heap.size w).alloc (Nat.le_refl _) (.cells #[.int .i64 (l : Int), .int .i64 (k : Int), .slice va es.length vc] 24)
  have b0 := Blk.new w 24 [.int .i64 (l : Int), .int .i64 (k : Int), .slice va es.length vc]
  have hr0 := hr.below s0 (Nat.le_refl _)
  have hfi := fine_any (l : Int) (k : Int) es _ _ hr0 hok
  have haw := awake29_true
  rw [← hmm] at s0 b0 hr0 hfi
  have HMM := Lib.hid hmm; clear hmm
  have HFI := Lib.hid hfi; clear hfi
  have HAW := Lib.hid haw; clear haw
  have S0 := Lib.hid s0; clear s0
  have B0 := Lib.hid b0; clear b0
  have HR := Lib.hid hr0; clear hr0
  have hNz : (1 + (nn : Int) % 8) = (N : Int) := by omega
  clear hN
  have hprq := fun (q : Nat) (hq : q ≤ 17) v' w' (h : Row w' v' es.length (ce es)) => eprc_any (l : Int) (k : Int) es v' (N : Int) (ineg ((2 ^ q : Nat) : Int)) (imag ((2 ^ q : Nat) : Int)) w' h hok (by
    have := small_nat (x := 2 ^ q) (by have := pow17 hq; omega)
    exact this)
  simp only [prcP_pow hE (show N ≤ 4096 by omega)] at hprq
  have hofq := fun (q : Nat) (hq : q ≤ 17) w' => iof_any ((2 ^ q : Nat) : Int) w' (pow_rng hq).1 (pow_rng hq).2
  have HNZ := Lib.hid hNz; clear hNz
  have hbi := fun v' w' (h : Row w' v' es.length (ce es)) => ebits_ok (l : Int) k N es v' w' h hok hE hN1 (by omega) 0 15 (.inl ⟨h0, rfl, rfl⟩)
  have hpr := fun v' w' h => hprq 0 (by omega) v' w' h
  have hof := fun w' => hofq 0 (by omega) w'
  simp only [h0, Bool.false_eq_true, if_false] at hpr
  simp only [Nat.pow_zero, Int.natCast_one] at hpr hof
  rw [← HMM.out] at hbi hpr
  have HBI := Lib.hid hbi; clear hbi
  have HPR := Lib.hid hpr; clear hpr
  have HOF := Lib.hid hof; clear hof
  clear hprq hofq hE h0 hok
  clear hr
  go_enter Try.func4, Try.ntmps4
  rw [← HMM.out]
  go_wp2_with fail
  go_at_call 17
  refine HFI.out.mono ?_
  rintro e w1 ⟨hq, b, rfl, hb⟩
  have s1 := S0.out.trans (hq.mono S0.out.size)
  have hr1 := HR.out.below hq (Nat.le_refl _)
  have tk := B0.out.keep hq; have x0 := tk.cell (j := 0) rfl; have x1 := tk.cell (j := 1) rfl; have x2 := tk.cell (j := 2) rfl; have C0 := Lib.hid tk; clear tk
  have S1 := Lib.hid s1; clear s1
  have HR1 := Lib.hid hr1; clear hr1
  clear hq
  cases b with
  | false =>
    go_wp2_with fail
    go_at_call 11
    refine (HAW.out _).mono ?_
    rintro e w2 ⟨hq, rfl⟩
    have HQ := Lib.hid hq; clear hq
    go_wp2_with fail
    go_ret
    exact ⟨S1.out.trans (HQ.out.mono S1.out.size), rfl⟩
  | true =>
    go_wp2_with fail
    rw [HNZ.out]
    go_at_call 14
    refine (HBI.out _ _ HR1.out).mono ?_
    rintro e w2 ⟨hq, rfl⟩
    have s2 := S1.out.trans (hq.mono S1.out.size)
    have hr2 := HR1.out.below hq (Nat.le_refl _)
    clear x0 x1 x2
    have tk := C0.out.keep hq; have x0 := tk.cell (j := 0) rfl; have x1 := tk.cell (j := 1) rfl; have x2 := tk.cell (j := 2) rfl; have D0 := Lib.hid tk; clear tk
    have S2 := Lib.hid s2; clear s2
    have HR2 := Lib.hid hr2; clear hr2
    clear hq
    go_wp2_with fail
    refine wp_region_held_drew (S := fun w' => w'.cell? ⟨w.heap.size, 0, none⟩ = some (.int .i64 (l : Int)) ∧ w'.cell? ⟨w.heap.size, 1, none⟩ = some (.int .i64 (k : Int)) ∧ w'.cell? ⟨w.heap.size, 2, none⟩ = some (.slice va mm vc)) (by kernel_rfl) ?_ (fun hHeld => ?_)
    · go_keep
    refine wpAnyH_take (i := 0) (v := ?_) rfl (by kernel_rfl) (by kernel_rfl) (by kernel_rfl) (fun _ _ _ h => h) (Or.inl ⟨by rfl, ?_⟩) (by assumption) ?_
    rotate_left
    · (intro wS hSw; (try dsimp only at hSw); go_simp; (try with_reducible rfl))
    (try simp only [Act.put, List.setIfInBounds_toArray, List.set_cons_zero, List.set_cons_succ])
    refine wpAnyH_take (i := 1) (v := ?_) rfl (by kernel_rfl) (by kernel_rfl) (by kernel_rfl) (fun _ _ _ h => h) (Or.inl ⟨by rfl, ?_⟩) (by assumption) ?_
    rotate_left
    · (intro wS hSw; (try dsimp only at hSw); go_simp; (try with_reducible rfl))
    (try simp only [Act.put, List.setIfInBounds_toArray, List.set_cons_zero, List.set_cons_succ])
    refine wpAnyH_ready (rs := [2]) (by kernel_rfl) (by simp) ?_
    refine AllReadyH.cons rfl (fun K hK => ?_) AllReadyH.nil
    go_simp
    go_at_call 18
    refine (HOF.out _).mono ?_
    rintro e w3 ⟨hq, rfl⟩
    dsimp only
    have z0 := (hq.cell (p := ⟨w.heap.size, 0, none⟩) (show w.heap.size < w2.heap.size from D0.out.lt)).trans hHeld.1
    have z1 := (hq.cell (p := ⟨w.heap.size, 1, none⟩) (show w.heap.size < w2.heap.size from D0.out.lt)).trans hHeld.2.1
    have z2 := (hq.cell (p := ⟨w.heap.size, 2, none⟩) (show w.heap.size < w2.heap.size from D0.out.lt)).trans hHeld.2.2
    refine hK.out _ _ ⟨z0, z1, z2⟩ (fun hHeld2 => ?_)
    clear hK K hHeld
    (try simp only [Act.put, List.setIfInBounds_toArray, List.set_cons_zero, List.set_cons_succ])
    have s5 := S2.out.drew.trans (hq.mono S2.out.size)
    have b5 := D0.out.drew.keep hq
    have r5 := HR2.out.drew.below hq (Nat.le_refl _)
    have S5a := Lib.hid s5; clear s5
    have B5a := Lib.hid b5; clear b5
    have R5a := Lib.hid r5; clear r5
    clear hq x0 x1 x2
    refine wpAnyH_ready (rs := [3]) (by kernel_rfl) (by simp) ?_
    refine AllReadyH.cons rfl (fun K hK => ?_) AllReadyH.nil
    go_simp
    go_at_call 12
    refine (HPR.out _ _ R5a.out).mono ?_
    rintro e w4 ⟨hq, vl, rfl, -⟩
    dsimp only
    have z3 := (hq.cell (p := ⟨w.heap.size, 0, none⟩) (show w.heap.size < w3.heap.size from B5a.out.lt)).trans z0
    have z4 := (hq.cell (p := ⟨w.heap.size, 1, none⟩) (show w.heap.size < w3.heap.size from B5a.out.lt)).trans z1
    have z5 := (hq.cell (p := ⟨w.heap.size, 2, none⟩) (show w.heap.size < w3.heap.size from B5a.out.lt)).trans z2
    refine hK.out _ _ ⟨z3, z4, z5⟩ (fun hHeld3 => ?_)
    clear hK K hHeld2
    (try simp only [Act.put, List.setIfInBounds_toArray, List.set_cons_zero, List.set_cons_succ])
    have s6 := S5a.out.trans (hq.mono S5a.out.size)
    have b6 := B5a.out.keep hq
    have r6 := R5a.out.below hq (Nat.le_refl _)
    have x0 := b6.cell (j := 0) rfl
    have x1 := b6.cell (j := 1) rfl
    have x2 := b6.cell (j := 2) rfl
    have S4 := Lib.hid s6; clear s6
    have E0 := Lib.hid b6; clear b6
    have HR4 := Lib.hid r6; clear r6
    clear hq z0 z1 z2 z3 z4 z5
    refine wpAnyH_take (i := 4) (v := ?_) rfl (by kernel_rfl) (by kernel_rfl) (by kernel_rfl) (fun _ _ _ h => h) (Or.inl ⟨by rfl, ?_⟩) (by assumption) ?_
    rotate_left
    · (intro wS hSw; (try dsimp only at hSw); go_simp; (try with_reducible rfl))
    (try simp only [Act.put, List.setIfInBounds_toArray, List.set_cons_zero, List.set_cons_succ])
    refine wpAnyH_take (i := 5) (v := ?_) rfl (by kernel_rfl) (by kernel_rfl) (by kernel_rfl) (fun _ _ _ h => h) (Or.inl ⟨by rfl, ?_⟩) (by assumption) ?_
    rotate_left
    · (intro wS hSw; (try dsimp only at hSw); go_simp; (try with_reducible rfl))
    (try simp only [Act.put, List.setIfInBounds_toArray, List.set_cons_zero, List.set_cons_succ])
    refine wpAnyH_take (i := 6) (v := ?_) rfl (by kernel_rfl) (by kernel_rfl) (by kernel_rfl) (fun _ _ _ h => h) (Or.inl ⟨by rfl, ?_⟩) (by assumption) ?_
    rotate_left
    · (intro wS hSw; (try dsimp only at hSw); go_simp; (try with_reducible rfl))
    (try simp only [Act.put, List.setIfInBounds_toArray, List.set_cons_zero, List.set_cons_succ])
    refine wpAnyH_take (i := 7) (v := ?_) rfl (by kernel_rfl) (by kernel_rfl) (by kernel_rfl) (fun _ _ _ h => h) (Or.inl ⟨by rfl, ?_⟩) (by assumption) ?_
    rotate_left
    · (intro wS hSw; (try dsimp only at hSw); go_simp; (try with_reducible rfl))
    (try simp only [Act.put, List.setIfInBounds_toArray, List.set_cons_zero, List.set_cons_succ])
    refine wpAnyH_take (i := 8) (v := ?_) rfl (by kernel_rfl) (by kernel_rfl) (by kernel_rfl) (fun _ _ _ h => h) (Or.inl ⟨by rfl, ?_⟩) (by assumption) ?_
    rotate_left
    · (intro wS hSw; (try dsimp only at hSw); go_simp; (try with_reducible rfl))
    (try simp only [Act.put, List.setIfInBounds_toArray, List.set_cons_zero, List.set_cons_succ])
    refine wpAnyH_done (by kernel_rfl) ?_ _
    (try simp only [List.getElem_toArray, List.getElem_cons_zero, List.getElem_cons_succ, Act.put, List.setIfInBounds_toArray, List.set_cons_zero, List.set_cons_succ])
    clear hHeld3
    go_wp2_with fail
    go_at_call 11
    refine (HAW.out _).mono ?_
    rintro e w5 ⟨hq, rfl⟩
    have HQ := Lib.hid hq; clear hq
    go_wp2_with fail
    go_ret
    exact ⟨S4.out.trans (HQ.out.mono S4.out.size), rfl⟩
set_option maxRecDepth 100000 in
set_option maxHeartbeats 3200000 in
theorem lbits_some (l k N : Nat) (es : List E3) (v : Value) (nn : Nat) (w : World) (hr : Row w v es.length (ce es)) (hok : okEs es) (hnn : nn ≤ 255) (hE : eck (l : Int) (k : Int) es = 0) (hl4 : l ≤ 4) (hN : N = 1 + nn % 8) (p : Nat) (hp4 : p < 4 * N + 1) (hpm : ∀ m, hasB k es N m = decide (m ≤ p)) :
    Calls Try.prog 4 #[.agg #[.int .i64 (l : Int), .int .i64 (k : Int), v], .int .u8 (nn : Int)] w (Ret w (.bool true)) := by
  have hN1 : 1 ≤ N := by omega
  have hN8 : N ≤ 8 := by omega
  obtain ⟨va, vc, rfl, hle⟩ := hr.slice
  obtain ⟨mm, hmm⟩ : ∃ mm, mm = es.length := ⟨_, rfl⟩
  have s0 := (Below.refl w.heap.size w).alloc (Nat.le_refl _) (.cells #[.int .i64 (l : Int), .int .i64 (k : Int), .slice va es.length vc] 24)
  have b0 := Blk.new w 24 [.int .i64 (l : Int), .int .i64 (k : Int), .slice va es.length vc]
  have hr0 := hr.below s0 (Nat.le_refl _)
  have hfi := fine_any (l : Int) (k : Int) es _ _ hr0 hok
  have haw := awake29_true
  rw [← hmm] at s0 b0 hr0 hfi
  have HMM := Lib.hid hmm; clear hmm
  have HFI := Lib.hid hfi; clear hfi
  have HAW := Lib.hid haw; clear haw
  have S0 := Lib.hid s0; clear s0
  have B0 := Lib.hid b0; clear b0
  have HR := Lib.hid hr0; clear hr0
  have hNz : (1 + (nn : Int) % 8) = (N : Int) := by omega
  clear hN
  have hprq := fun (q : Nat) (hq : q ≤ 17) v' w' (h : Row w' v' es.length (ce es)) => eprc_any (l : Int) (k : Int) es v' (N : Int) (ineg ((2 ^ q : Nat) : Int)) (imag ((2 ^ q : Nat) : Int)) w' h hok (by
    have := small_nat (x := 2 ^ q) (by have := pow17 hq; omega)
    exact this)
  simp only [prcP_pow hE (show N ≤ 4096 by omega)] at hprq
  have hofq := fun (q : Nat) (hq : q ≤ 17) w' => iof_any ((2 ^ q : Nat) : Int) w' (pow_rng hq).1 (pow_rng hq).2
  have HNZ := Lib.hid hNz; clear hNz
  have hbp : hasB k es N p = true := by rw [hpm]; simp
  have hbp1 : hasB k es N (p + 1) = false := by rw [hpm]; simp
  have hwd := hasB_words hE hbp
  rw [Int.toNat_natCast] at hwd
  have hp16 := pow_four hl4 hN8 hwd
  have hbi := fun v' w' (h : Row w' v' es.length (ce es)) => ebits_ok (l : Int) k N es v' w' h hok hE hN1 (by omega) (p : Int) 0 (.inr ⟨p, rfl, rfl, hp4, hpm⟩)
  have hpr := fun v' w' h => hprq p (by omega) v' w' h
  have hof := fun w' => hofq p (by omega) w'
  have hpr1 := fun v' w' h => hprq (p + 1) (by omega) v' w' h
  have hof1 := fun w' => hofq (p + 1) (by omega) w'
  simp only [hbp, if_true] at hpr
  simp only [hbp1, Bool.false_eq_true, if_false] at hpr1
  rw [← HMM.out] at hbi hpr hpr1
  have hofl := fun w' => iof_any (l : Int) w' (by omega) (by omega)
  have hpow := fun w' => ipow4_any l N w' hl4 hN8
  have hlN : l ^ N ≤ 65536 := Nat.le_trans (Nat.pow_le_pow_left hl4 N) (Nat.le_trans (Nat.pow_le_pow_right (by decide) hN8) (by decide))
  have hcmp := fun w' => icompare_any (ineg ((2 ^ p : Nat) : Int)) (ineg ((l ^ N : Nat) : Int)) (imag ((2 ^ p : Nat) : Int)) (imag ((l ^ N : Nat) : Int)) w' (small_nat (by have := pow17 (q := p) (by omega); omega)) (small_nat (by omega))
  simp only [ival_canon] at hcmp
  obtain ⟨z, hz⟩ : ∃ z, z = cmpZ ((2 ^ p : Nat) : Int) ((l ^ N : Nat) : Int) := ⟨_, rfl⟩
  rw [← hz] at hcmp
  have hzle : z ≤ 0 := by
    have h := cmpZ_neg ((l ^ N : Nat) : Int) ((2 ^ p : Nat) : Int)
    have h2 : ¬ ((l ^ N : Nat) : Int) < ((2 ^ p : Nat) : Int) := by omega
    rw [hz]
    unfold cmpZ
    split
    · decide
    · split
      · decide
      · omega
  have tz : decide (z ≤ 0) = true := by simpa using hzle
  obtain ⟨P1, hP1⟩ : ∃ P1, P1 = ((2 ^ p : Nat) : Int) := ⟨_, rfl⟩
  obtain ⟨P2, hP2⟩ : ∃ P2, P2 = ((2 ^ (p + 1) : Nat) : Int) := ⟨_, rfl⟩
  obtain ⟨WN, hWN⟩ : ∃ WN, WN = ((l ^ N : Nat) : Int) := ⟨_, rfl⟩
  rw [← hP1] at hpr hof hcmp
  rw [← hP2] at hpr1 hof1
  rw [← hWN] at hpow hcmp
  have hp17 := pow17 (q := p + 1) (by omega)
  have hsh1 : IntKind.i64.wrap ((2 : Int) ^ p) = P1 := by
    rw [hP1, show (2 : Int) ^ p = ((2 ^ p : Nat) : Int) by simp]
    exact IntWalk.i64_in _ (pow_rng (by omega))
  have hsh2 : IntKind.i64.wrap ((2 : Int) * (2 : Int) ^ p) = P2 := by
    have e : (2 : Int) * (2 : Int) ^ p = ((2 ^ (p + 1) : Nat) : Int) := by rw [Int.natCast_pow, Int.pow_succ, Int.mul_comm]; rfl
    rw [e, hP2]
    exact IntWalk.i64_in _ (pow_rng (by omega))
  have tp0 : decide ((p : Int) < 0) = false := decide_eq_false (by omega)
  have tp16 : decide (16 < (p : Int)) = false := decide_eq_false (by omega)
  have tpn : (0 : Int) ≤ (p : Int) := by omega
  have HBI := Lib.hid hbi; clear hbi
  have HPR := Lib.hid hpr; clear hpr
  have HOF := Lib.hid hof; clear hof
  have HPR1 := Lib.hid hpr1; clear hpr1
  have HOF1 := Lib.hid hof1; clear hof1
  have HOFL := Lib.hid hofl; clear hofl
  have HPOW := Lib.hid hpow; clear hpow
  have HCMP := Lib.hid hcmp; clear hcmp
  have HPM := Lib.hid hpm; clear hpm
  clear hprq hofq hE hok hbp hbp1 hwd hz hzle hP1 hP2 hWN hlN
  clear hr
  go_enter Try.func4, Try.ntmps4
  rw [← HMM.out]
  go_wp2_with fail
  go_at_call 17
  refine HFI.out.mono ?_
  rintro e w1 ⟨hq, b, rfl, hb⟩
  have s1 := S0.out.trans (hq.mono S0.out.size)
  have hr1 := HR.out.below hq (Nat.le_refl _)
  have tk := B0.out.keep hq; have x0 := tk.cell (j := 0) rfl; have x1 := tk.cell (j := 1) rfl; have x2 := tk.cell (j := 2) rfl; have C0 := Lib.hid tk; clear tk
  have S1 := Lib.hid s1; clear s1
  have HR1 := Lib.hid hr1; clear hr1
  clear hq
  cases b with
  | false =>
    go_wp2_with fail
    go_at_call 11
    refine (HAW.out _).mono ?_
    rintro e w2 ⟨hq, rfl⟩
    have HQ := Lib.hid hq; clear hq
    go_wp2_with fail
    go_ret
    exact ⟨S1.out.trans (HQ.out.mono S1.out.size), rfl⟩
  | true =>
    go_wp2_with fail
    rw [HNZ.out]
    go_at_call 14
    refine (HBI.out _ _ HR1.out).mono ?_
    rintro e w2 ⟨hq, rfl⟩
    have s2 := S1.out.trans (hq.mono S1.out.size)
    have hr2 := HR1.out.below hq (Nat.le_refl _)
    clear x0 x1 x2
    have tk := C0.out.keep hq; have x0 := tk.cell (j := 0) rfl; have x1 := tk.cell (j := 1) rfl; have x2 := tk.cell (j := 2) rfl; have D0 := Lib.hid tk; clear tk
    have S2 := Lib.hid s2; clear s2
    have HR2 := Lib.hid hr2; clear hr2
    clear hq
    go_wp2_with fail
    refine wp_region_held_drew (S := fun w' => w'.cell? ⟨w.heap.size, 0, none⟩ = some (.int .i64 (l : Int)) ∧ w'.cell? ⟨w.heap.size, 1, none⟩ = some (.int .i64 (k : Int)) ∧ w'.cell? ⟨w.heap.size, 2, none⟩ = some (.slice va mm vc)) (by kernel_rfl) ?_ (fun hHeld => ?_)
    · go_keep
    refine wpAnyH_take (i := 0) (v := ?_) rfl (by kernel_rfl) (by kernel_rfl) (by kernel_rfl) (fun _ _ _ h => h) (Or.inl ⟨by rfl, ?_⟩) (by assumption) ?_
    rotate_left
    · (intro wS hSw; (try dsimp only at hSw); go_simp; (try with_reducible rfl))
    (try simp only [Act.put, List.setIfInBounds_toArray, List.set_cons_zero, List.set_cons_succ])
    refine wpAnyH_take (i := 1) (v := ?_) rfl (by kernel_rfl) (by kernel_rfl) (by kernel_rfl) (fun _ _ _ h => h) (Or.inl ⟨by rfl, ?_⟩) (by assumption) ?_
    rotate_left
    · (intro wS hSw; (try dsimp only at hSw); go_simp; (try with_reducible rfl))
    (try simp only [Act.put, List.setIfInBounds_toArray, List.set_cons_zero, List.set_cons_succ])
    refine wpAnyH_take (i := 2) (v := ?_) rfl (by kernel_rfl) (by kernel_rfl) (by kernel_rfl) (fun _ _ _ h => h) (Or.inl ⟨by rfl, ?_⟩) (by assumption) ?_
    rotate_left
    · (intro wS hSw; (try dsimp only at hSw); go_simp; (try with_reducible rfl))
    (try simp only [Act.put, List.setIfInBounds_toArray, List.set_cons_zero, List.set_cons_succ])
    refine wpAnyH_take (i := 3) (v := ?_) rfl (by kernel_rfl) (by kernel_rfl) (by kernel_rfl) (fun _ _ _ h => h) (Or.inl ⟨by rfl, ?_⟩) (by assumption) ?_
    rotate_left
    · (intro wS hSw; (try dsimp only at hSw); go_simp; (try with_reducible rfl))
    (try simp only [Act.put, List.setIfInBounds_toArray, List.set_cons_zero, List.set_cons_succ])
    refine wpAnyH_ready (rs := [4]) (by kernel_rfl) (by simp) ?_
    refine AllReadyH.cons rfl (fun K hK => ?_) AllReadyH.nil
    go_simp
    go_at_call 18
    refine (HOF.out _).mono ?_
    rintro e w3 ⟨hq, rfl⟩
    dsimp only
    have z0 := (hq.cell (p := ⟨w.heap.size, 0, none⟩) (show w.heap.size < w2.heap.size from D0.out.lt)).trans hHeld.1
    have z1 := (hq.cell (p := ⟨w.heap.size, 1, none⟩) (show w.heap.size < w2.heap.size from D0.out.lt)).trans hHeld.2.1
    have z2 := (hq.cell (p := ⟨w.heap.size, 2, none⟩) (show w.heap.size < w2.heap.size from D0.out.lt)).trans hHeld.2.2
    refine hK.out _ _ ⟨z0, z1, z2⟩ (fun hHeld2 => ?_)
    clear hK K hHeld
    (try simp only [Act.put, List.setIfInBounds_toArray, List.set_cons_zero, List.set_cons_succ])
    have s5 := S2.out.drew.trans (hq.mono S2.out.size)
    have b5 := D0.out.drew.keep hq
    have r5 := HR2.out.drew.below hq (Nat.le_refl _)
    have S5a := Lib.hid s5; clear s5
    have B5a := Lib.hid b5; clear b5
    have R5a := Lib.hid r5; clear r5
    clear hq x0 x1 x2
    refine wpAnyH_ready (rs := [5]) (by kernel_rfl) (by simp) ?_
    refine AllReadyH.cons rfl (fun K hK => ?_) AllReadyH.nil
    go_simp
    go_at_call 12
    refine (HPR.out _ _ R5a.out).mono ?_
    rintro e w4 ⟨hq, vla, rfl, -⟩
    dsimp only
    have z3 := (hq.cell (p := ⟨w.heap.size, 0, none⟩) (show w.heap.size < w3.heap.size from B5a.out.lt)).trans z0
    have z4 := (hq.cell (p := ⟨w.heap.size, 1, none⟩) (show w.heap.size < w3.heap.size from B5a.out.lt)).trans z1
    have z5 := (hq.cell (p := ⟨w.heap.size, 2, none⟩) (show w.heap.size < w3.heap.size from B5a.out.lt)).trans z2
    refine hK.out _ _ ⟨z3, z4, z5⟩ (fun hHeld3 => ?_)
    clear hK K hHeld2
    (try simp only [Act.put, List.setIfInBounds_toArray, List.set_cons_zero, List.set_cons_succ])
    have s6 := S5a.out.trans (hq.mono S5a.out.size)
    have b6 := B5a.out.keep hq
    have r6 := R5a.out.below hq (Nat.le_refl _)
    have x0 := b6.cell (j := 0) rfl
    have x1 := b6.cell (j := 1) rfl
    have x2 := b6.cell (j := 2) rfl
    have S4 := Lib.hid s6; clear s6
    have E0 := Lib.hid b6; clear b6
    have HR4 := Lib.hid r6; clear r6
    clear hq z0 z1 z2 z3 z4 z5
    refine wpAnyH_take (i := 6) (v := ?_) rfl (by kernel_rfl) (by kernel_rfl) (by kernel_rfl) (fun _ _ _ h => h) (Or.inl ⟨by rfl, ?_⟩) (by assumption) ?_
    rotate_left
    · (intro wS hSw; (try dsimp only at hSw); go_simp; (try with_reducible rfl))
    (try simp only [Act.put, List.setIfInBounds_toArray, List.set_cons_zero, List.set_cons_succ])
    refine wpAnyH_take (i := 7) (v := ?_) rfl (by kernel_rfl) (by kernel_rfl) (by kernel_rfl) (fun _ _ _ h => h) (Or.inl ⟨by rfl, ?_⟩) (by assumption) ?_
    rotate_left
    · (intro wS hSw; (try dsimp only at hSw); go_simp; (try with_reducible rfl))
    (try simp only [Act.put, List.setIfInBounds_toArray, List.set_cons_zero, List.set_cons_succ])
    refine wpAnyH_take (i := 8) (v := ?_) rfl (by kernel_rfl) (by kernel_rfl) (by kernel_rfl) (fun _ _ _ h => h) (Or.inl ⟨by rfl, ?_⟩) (by assumption) ?_
    rotate_left
    · (intro wS hSw; (try dsimp only at hSw); go_simp; (try with_reducible rfl))
    (try simp only [Act.put, List.setIfInBounds_toArray, List.set_cons_zero, List.set_cons_succ])
    refine wpAnyH_take (i := 9) (v := ?_) rfl (by kernel_rfl) (by kernel_rfl) (by kernel_rfl) (fun _ _ _ h => h) (Or.inl ⟨by rfl, ?_⟩) (by assumption) ?_
    rotate_left
    · (intro wS hSw; (try dsimp only at hSw); go_simp; (try with_reducible rfl))
    (try simp only [Act.put, List.setIfInBounds_toArray, List.set_cons_zero, List.set_cons_succ])
    refine wpAnyH_take (i := 10) (v := ?_) rfl (by kernel_rfl) (by kernel_rfl) (by kernel_rfl) (fun _ _ _ h => h) (Or.inl ⟨by rfl, ?_⟩) (by assumption) ?_
    rotate_left
    · (intro wS hSw; (try dsimp only at hSw); go_simp; (try with_reducible rfl))
    (try simp only [Act.put, List.setIfInBounds_toArray, List.set_cons_zero, List.set_cons_succ])
    refine wpAnyH_done (by kernel_rfl) ?_ _
    (try simp only [List.getElem_toArray, List.getElem_cons_zero, List.getElem_cons_succ, Act.put, List.setIfInBounds_toArray, List.set_cons_zero, List.set_cons_succ])
    clear hHeld3
    go_wp2_with fail
    refine wp_region_held_drew (S := fun w' => w'.cell? ⟨w.heap.size, 0, none⟩ = some (.int .i64 (l : Int)) ∧ w'.cell? ⟨w.heap.size, 1, none⟩ = some (.int .i64 (k : Int)) ∧ w'.cell? ⟨w.heap.size, 2, none⟩ = some (.slice va mm vc)) (by kernel_rfl) ?_ (fun hHeld => ?_)
    · go_keep
    refine wpAnyH_take (i := 0) (v := ?_) rfl (by kernel_rfl) (by kernel_rfl) (by kernel_rfl) (fun _ _ _ h => h) (Or.inl ⟨by rfl, ?_⟩) (by assumption) ?_
    rotate_left
    · (intro wS hSw; (try dsimp only at hSw); go_simp; (try with_reducible rfl))
    (try simp only [Act.put, List.setIfInBounds_toArray, List.set_cons_zero, List.set_cons_succ])
    refine wpAnyH_take (i := 1) (v := ?_) rfl (by kernel_rfl) (by kernel_rfl) (by kernel_rfl) (fun _ _ _ h => h) (Or.inl ⟨by rfl, ?_⟩) (by assumption) ?_
    rotate_left
    · (intro wS hSw; (try dsimp only at hSw); go_simp; (try with_reducible rfl))
    (try simp only [Act.put, List.setIfInBounds_toArray, List.set_cons_zero, List.set_cons_succ])
    refine wpAnyH_take (i := 2) (v := ?_) rfl (by kernel_rfl) (by kernel_rfl) (by kernel_rfl) (fun _ _ _ h => h) (Or.inl ⟨by rfl, ?_⟩) (by assumption) ?_
    rotate_left
    · (intro wS hSw; (try dsimp only at hSw); go_simp; (try with_reducible rfl))
    (try simp only [Act.put, List.setIfInBounds_toArray, List.set_cons_zero, List.set_cons_succ])
    refine wpAnyH_take (i := 3) (v := ?_) rfl (by kernel_rfl) (by kernel_rfl) (by kernel_rfl) (fun _ _ _ h => h) (Or.inl ⟨by rfl, ?_⟩) (by assumption) ?_
    rotate_left
    · (intro wS hSw; (try dsimp only at hSw); go_simp; (try with_reducible rfl))
    (try simp only [Act.put, List.setIfInBounds_toArray, List.set_cons_zero, List.set_cons_succ])
    refine wpAnyH_ready (rs := [4]) (by kernel_rfl) (by simp) ?_
    refine AllReadyH.cons rfl (fun K hK => ?_) AllReadyH.nil
    go_simp
    go_at_call 18
    refine (HOF1.out _).mono ?_
    rintro e w5 ⟨hq, rfl⟩
    dsimp only
    have z0 := (hq.cell (p := ⟨w.heap.size, 0, none⟩) (show w.heap.size < w4.heap.size from E0.out.lt)).trans hHeld.1
    have z1 := (hq.cell (p := ⟨w.heap.size, 1, none⟩) (show w.heap.size < w4.heap.size from E0.out.lt)).trans hHeld.2.1
    have z2 := (hq.cell (p := ⟨w.heap.size, 2, none⟩) (show w.heap.size < w4.heap.size from E0.out.lt)).trans hHeld.2.2
    refine hK.out _ _ ⟨z0, z1, z2⟩ (fun hHeld2 => ?_)
    clear hK K hHeld
    (try simp only [Act.put, List.setIfInBounds_toArray, List.set_cons_zero, List.set_cons_succ])
    have s5 := S4.out.drew.trans (hq.mono S4.out.size)
    have b5 := E0.out.drew.keep hq
    have r5 := HR4.out.drew.below hq (Nat.le_refl _)
    have S5b := Lib.hid s5; clear s5
    have B5b := Lib.hid b5; clear b5
    have R5b := Lib.hid r5; clear r5
    clear hq x0 x1 x2
    refine wpAnyH_ready (rs := [5]) (by kernel_rfl) (by simp) ?_
    refine AllReadyH.cons rfl (fun K hK => ?_) AllReadyH.nil
    go_simp
    go_at_call 12
    refine (HPR1.out _ _ R5b.out).mono ?_
    rintro e w6 ⟨hq, vlb, rfl, -⟩
    dsimp only
    have z3 := (hq.cell (p := ⟨w.heap.size, 0, none⟩) (show w.heap.size < w5.heap.size from B5b.out.lt)).trans z0
    have z4 := (hq.cell (p := ⟨w.heap.size, 1, none⟩) (show w.heap.size < w5.heap.size from B5b.out.lt)).trans z1
    have z5 := (hq.cell (p := ⟨w.heap.size, 2, none⟩) (show w.heap.size < w5.heap.size from B5b.out.lt)).trans z2
    refine hK.out _ _ ⟨z3, z4, z5⟩ (fun hHeld3 => ?_)
    clear hK K hHeld2
    (try simp only [Act.put, List.setIfInBounds_toArray, List.set_cons_zero, List.set_cons_succ])
    have s6 := S5b.out.trans (hq.mono S5b.out.size)
    have b6 := B5b.out.keep hq
    have r6 := R5b.out.below hq (Nat.le_refl _)
    have x0 := b6.cell (j := 0) rfl
    have x1 := b6.cell (j := 1) rfl
    have x2 := b6.cell (j := 2) rfl
    have S6 := Lib.hid s6; clear s6
    have F0 := Lib.hid b6; clear b6
    have HR6 := Lib.hid r6; clear r6
    clear hq z0 z1 z2 z3 z4 z5
    refine wpAnyH_take (i := 6) (v := ?_) rfl (by kernel_rfl) (by kernel_rfl) (by kernel_rfl) (fun _ _ _ h => h) (Or.inl ⟨by rfl, ?_⟩) (by assumption) ?_
    rotate_left
    · (intro wS hSw; (try dsimp only at hSw); go_simp; (try with_reducible rfl))
    (try simp only [Act.put, List.setIfInBounds_toArray, List.set_cons_zero, List.set_cons_succ])
    refine wpAnyH_take (i := 7) (v := ?_) rfl (by kernel_rfl) (by kernel_rfl) (by kernel_rfl) (fun _ _ _ h => h) (Or.inl ⟨by rfl, ?_⟩) (by assumption) ?_
    rotate_left
    · (intro wS hSw; (try dsimp only at hSw); go_simp; (try with_reducible rfl))
    (try simp only [Act.put, List.setIfInBounds_toArray, List.set_cons_zero, List.set_cons_succ])
    refine wpAnyH_take (i := 8) (v := ?_) rfl (by kernel_rfl) (by kernel_rfl) (by kernel_rfl) (fun _ _ _ h => h) (Or.inl ⟨by rfl, ?_⟩) (by assumption) ?_
    rotate_left
    · (intro wS hSw; (try dsimp only at hSw); go_simp; (try with_reducible rfl))
    (try simp only [Act.put, List.setIfInBounds_toArray, List.set_cons_zero, List.set_cons_succ])
    refine wpAnyH_take (i := 9) (v := ?_) rfl (by kernel_rfl) (by kernel_rfl) (by kernel_rfl) (fun _ _ _ h => h) (Or.inl ⟨by rfl, ?_⟩) (by assumption) ?_
    rotate_left
    · (intro wS hSw; (try dsimp only at hSw); go_simp; (try with_reducible rfl))
    (try simp only [Act.put, List.setIfInBounds_toArray, List.set_cons_zero, List.set_cons_succ])
    refine wpAnyH_take (i := 10) (v := ?_) rfl (by kernel_rfl) (by kernel_rfl) (by kernel_rfl) (fun _ _ _ h => h) (Or.inl ⟨by rfl, ?_⟩) (by assumption) ?_
    rotate_left
    · (intro wS hSw; (try dsimp only at hSw); go_simp; (try with_reducible rfl))
    (try simp only [Act.put, List.setIfInBounds_toArray, List.set_cons_zero, List.set_cons_succ])
    refine wpAnyH_done (by kernel_rfl) ?_ _
    (try simp only [List.getElem_toArray, List.getElem_cons_zero, List.getElem_cons_succ, Act.put, List.setIfInBounds_toArray, List.set_cons_zero, List.set_cons_succ])
    clear hHeld3
    go_wp2_with fail
    go_at_call 18
    refine (HOFL.out _).mono ?_
    rintro e w7 ⟨hq, rfl⟩
    have s7 := S6.out.trans (hq.mono S6.out.size)
    clear x0 x1 x2
    have S7 := Lib.hid s7; clear s7
    clear hq
    go_wp2_with fail
    go_at_call 19
    refine (HPOW.out _).mono ?_
    rintro e w8 ⟨hq, rfl⟩
    have s8 := S7.out.trans (hq.mono S7.out.size)
    have S8 := Lib.hid s8; clear s8
    clear hq
    go_wp2_with fail
    have a14 := Blk.new w8 26 [.bool (ineg WN), .string (imag WN)]
    have c0 := a14.cell (j := 0) rfl
    have c1 := a14.cell (j := 1) rfl
    have s9 := (S8.out.alloc S8.out.size (.cells #[.bool (ineg WN), .string (imag WN)] 26)).drew
    have S9 := Lib.hid s9; clear s9
    clear a14
    refine wp_region_held_drew (S := fun w' => w'.cell? ⟨w8.heap.size, 0, none⟩ = some (.bool (ineg WN)) ∧ w'.cell? ⟨w8.heap.size, 1, none⟩ = some (.string (imag WN))) (by kernel_rfl) ?_ (fun hHeld => ?_)
    · go_keep
    clear c0 c1
    refine wpAnyH_take (i := 0) (v := ?_) rfl (by kernel_rfl) (by kernel_rfl) (by kernel_rfl) (fun _ _ _ h => h) (Or.inl ⟨by rfl, ?_⟩) (by assumption) ?_
    rotate_left
    · (intro wS hSw; (try dsimp only at hSw); go_simp; (try with_reducible rfl))
    (try simp only [Act.put, List.setIfInBounds_toArray, List.set_cons_zero, List.set_cons_succ])
    refine wpAnyH_take (i := 1) (v := ?_) rfl (by kernel_rfl) (by kernel_rfl) (by kernel_rfl) (fun _ _ _ h => h) (Or.inl ⟨by rfl, ?_⟩) (by assumption) ?_
    rotate_left
    · (intro wS hSw; (try dsimp only at hSw); go_simp; (try with_reducible rfl))
    (try simp only [Act.put, List.setIfInBounds_toArray, List.set_cons_zero, List.set_cons_succ])
    refine wpAnyH_take (i := 2) (v := ?_) rfl (by kernel_rfl) (by kernel_rfl) (by kernel_rfl) (fun _ _ _ h => h) (Or.inl ⟨by rfl, ?_⟩) (by assumption) ?_
    rotate_left
    · (intro wS hSw; (try dsimp only at hSw); go_simp; (try with_reducible rfl))
    (try simp only [Act.put, List.setIfInBounds_toArray, List.set_cons_zero, List.set_cons_succ])
    refine wpAnyH_take (i := 3) (v := ?_) rfl (by kernel_rfl) (by kernel_rfl) (by kernel_rfl) (fun _ _ _ h => h) (Or.inl ⟨by kernel_rfl, ?_⟩) (by assumption) ?_
    rotate_left
    · (intro wS hSw; (try dsimp only at hSw); go_simp; (try with_reducible rfl))
    (try simp only [Act.put, List.setIfInBounds_toArray, List.set_cons_zero, List.set_cons_succ])
    refine wpAnyH_take (i := 4) (v := ?_) rfl (by kernel_rfl) (by kernel_rfl) (by kernel_rfl) (fun _ _ _ h => h) (Or.inl ⟨by kernel_rfl, ?_⟩) (by assumption) ?_
    rotate_left
    · (intro wS hSw; (try dsimp only at hSw); go_simp; (try with_reducible rfl))
    (try simp only [Act.put, List.setIfInBounds_toArray, List.set_cons_zero, List.set_cons_succ])
    refine wpAnyH_take (i := 5) (v := ?_) rfl (by kernel_rfl) (by kernel_rfl) (by kernel_rfl) (fun _ _ _ h => h) (Or.inl ⟨by rfl, ?_⟩) (by assumption) ?_
    rotate_left
    · (intro wS hSw; (try dsimp only at hSw); go_simp; (try with_reducible rfl))
    (try simp only [Act.put, List.setIfInBounds_toArray, List.set_cons_zero, List.set_cons_succ])
    refine wpAnyH_take (i := 6) (v := ?_) rfl (by kernel_rfl) (by kernel_rfl) (by kernel_rfl) (fun _ _ _ h => h) (Or.inl ⟨by rfl, ?_⟩) (by assumption) ?_
    rotate_left
    · (intro wS hSw; (try dsimp only at hSw); go_simp; (try with_reducible rfl))
    (try simp only [Act.put, List.setIfInBounds_toArray, List.set_cons_zero, List.set_cons_succ])
    refine wpAnyH_take (i := 7) (v := ?_) rfl (by kernel_rfl) (by kernel_rfl) (by kernel_rfl) (fun _ _ _ h => h) (Or.inl ⟨by kernel_rfl, ?_⟩) (by assumption) ?_
    rotate_left
    · (intro wS hSw; (try dsimp only at hSw); go_simp; (try with_reducible rfl))
    (try simp only [Act.put, List.setIfInBounds_toArray, List.set_cons_zero, List.set_cons_succ])
    refine wpAnyH_take (i := 8) (v := ?_) rfl (by kernel_rfl) (by kernel_rfl) (by kernel_rfl) (fun _ _ _ h => h) (Or.inl ⟨by kernel_rfl, ?_⟩) (by assumption) ?_
    rotate_left
    · (intro wS hSw; (try dsimp only at hSw); go_simp; (try with_reducible rfl))
    (try simp only [Act.put, List.setIfInBounds_toArray, List.set_cons_zero, List.set_cons_succ])
    refine wpAnyH_take (i := 9) (v := ?_) rfl (by kernel_rfl) (by kernel_rfl) (by kernel_rfl) (fun _ _ _ h => h) (Or.inl ⟨by rfl, ?_⟩) (by assumption) ?_
    rotate_left
    · (intro wS hSw; (try dsimp only at hSw); go_simp; (try with_reducible rfl))
    (try simp only [Act.put, List.setIfInBounds_toArray, List.set_cons_zero, List.set_cons_succ])
    refine wpAnyH_take (i := 10) (v := ?_) rfl (by kernel_rfl) (by kernel_rfl) (by kernel_rfl) (fun _ _ _ h => h) (Or.inl ⟨by rfl, ?_⟩) (by assumption) ?_
    rotate_left
    · (intro wS hSw; (try dsimp only at hSw); go_simp; (try with_reducible rfl))
    (try simp only [Act.put, List.setIfInBounds_toArray, List.set_cons_zero, List.set_cons_succ])
    refine wpAnyH_take (i := 11) (v := ?_) rfl (by kernel_rfl) (by kernel_rfl) (by kernel_rfl) (fun _ _ _ h => h) (Or.inl ⟨by kernel_rfl, ?_⟩) (by assumption) ?_
    rotate_left
    · (intro wS hSw; (try dsimp only at hSw); go_simp; (try with_reducible rfl))
    (try simp only [Act.put, List.setIfInBounds_toArray, List.set_cons_zero, List.set_cons_succ])
    refine wpAnyH_take (i := 12) (v := ?_) rfl (by kernel_rfl) (by kernel_rfl) (by kernel_rfl) (fun _ _ _ h => h) (Or.inl ⟨by kernel_rfl, ?_⟩) (by assumption) ?_
    rotate_left
    · (intro wS hSw; (try dsimp only at hSw); go_simp; (try with_reducible rfl))
    (try simp only [Act.put, List.setIfInBounds_toArray, List.set_cons_zero, List.set_cons_succ])
    refine wpAnyH_take (i := 14) (v := ?_) rfl (by kernel_rfl) (by kernel_rfl) (by kernel_rfl) (fun _ _ _ h => h) (Or.inl ⟨by kernel_rfl, ?_⟩) (by assumption) ?_
    rotate_left
    · (intro wS hSw; (try dsimp only at hSw); go_simp; (try with_reducible rfl))
    (try simp only [Act.put, List.setIfInBounds_toArray, List.set_cons_zero, List.set_cons_succ])
    refine wpAnyH_ready (rs := [13]) (by kernel_rfl) (by simp) ?_
    refine AllReadyH.cons rfl (fun K hK => ?_) AllReadyH.nil
    rw [if_pos (by kernel_rfl)]
    go_simp
    go_at_call 18
    refine (HOF.out _).mono ?_
    rintro e w9 ⟨hq, rfl⟩
    dsimp only
    have z0 := (hq.cell (p := ⟨w8.heap.size, 0, none⟩) (show w8.heap.size < (w8.alloc (.cells #[.bool (ineg WN), .string (imag WN)] 26)).heap.size by first | omega | simp)).trans hHeld.1
    have z1 := (hq.cell (p := ⟨w8.heap.size, 1, none⟩) (show w8.heap.size < (w8.alloc (.cells #[.bool (ineg WN), .string (imag WN)] 26)).heap.size by first | omega | simp)).trans hHeld.2
    clear hHeld
    refine hK.out _ _ ⟨z0, z1⟩ (fun hHeld => ?_)
    clear hK K
    (try simp only [Act.put, List.setIfInBounds_toArray, List.set_cons_zero, List.set_cons_succ])
    have sn := S9.out.trans (hq.mono S9.out.size)
    have lnw9 : w8.heap.size < w9.heap.size := Nat.lt_of_lt_of_le (show w8.heap.size < (w8.alloc (.cells #[.bool (ineg WN), .string (imag WN)] 26)).heap.size by first | omega | simp) hq.size
    have Sw9 := Lib.hid sn; clear sn
    clear hq z0 z1
    refine wpAnyH_ready (rs := [15]) (by kernel_rfl) (by simp) ?_
    refine AllReadyH.cons rfl (fun K hK => ?_) AllReadyH.nil
    rw [if_pos (by kernel_rfl)]
    go_simp
    go_at_call 20
    refine (HCMP.out _).mono ?_
    rintro e wa ⟨hq, rfl⟩
    dsimp only
    have z0 := (hq.cell (p := ⟨w8.heap.size, 0, none⟩) (show w8.heap.size < w9.heap.size by first | omega | simp)).trans hHeld.1
    have z1 := (hq.cell (p := ⟨w8.heap.size, 1, none⟩) (show w8.heap.size < w9.heap.size by first | omega | simp)).trans hHeld.2
    clear hHeld
    refine hK.out _ _ ⟨z0, z1⟩ (fun hHeld => ?_)
    clear hK K
    (try simp only [Act.put, List.setIfInBounds_toArray, List.set_cons_zero, List.set_cons_succ])
    have sn := Sw9.out.trans (hq.mono Sw9.out.size)
    have lnwa : w8.heap.size < wa.heap.size := Nat.lt_of_lt_of_le (show w8.heap.size < w9.heap.size by first | omega | simp) hq.size
    have Swa := Lib.hid sn; clear sn
    clear hq z0 z1
    refine wpAnyH_take (i := 16) (v := ?_) rfl (by kernel_rfl) (by kernel_rfl) (by kernel_rfl) (fun _ _ _ h => h) (Or.inl ⟨by kernel_rfl, ?_⟩) (by assumption) ?_
    rotate_left
    · (intro wS hSw; (try dsimp only at hSw); go_simp; (try with_reducible rfl))
    (try simp only [Act.put, List.setIfInBounds_toArray, List.set_cons_zero, List.set_cons_succ])
    refine wpAnyH_take (i := 17) (v := ?_) rfl (by kernel_rfl) (by kernel_rfl) (by kernel_rfl) (fun _ _ _ h => h) (Or.inl ⟨by rfl, ?_⟩) (by assumption) ?_
    rotate_left
    · (intro wS hSw; (try dsimp only at hSw); go_simp; (try with_reducible rfl))
    (try simp only [Act.put, List.setIfInBounds_toArray, List.set_cons_zero, List.set_cons_succ])
    refine wpAnyH_take (i := 18) (v := ?_) rfl (by kernel_rfl) (by kernel_rfl) (by kernel_rfl) (fun _ _ _ h => h) (Or.inl ⟨by rfl, ?_⟩) (by assumption) ?_
    rotate_left
    · (intro wS hSw; (try dsimp only at hSw); go_simp; (try with_reducible rfl))
    (try simp only [Act.put, List.setIfInBounds_toArray, List.set_cons_zero, List.set_cons_succ])
    refine wpAnyH_ready (rs := [19]) (by kernel_rfl) (by simp) ?_
    refine AllReadyH.cons rfl (fun K hK => ?_) AllReadyH.nil
    rw [if_pos (by kernel_rfl)]
    go_simp
    go_at_call 11
    refine (HAW.out _).mono ?_
    rintro e wb ⟨hq, rfl⟩
    dsimp only
    have z0 := (hq.cell (p := ⟨w8.heap.size, 0, none⟩) (show w8.heap.size < wa.heap.size by first | omega | simp)).trans hHeld.1
    have z1 := (hq.cell (p := ⟨w8.heap.size, 1, none⟩) (show w8.heap.size < wa.heap.size by first | omega | simp)).trans hHeld.2
    clear hHeld
    refine hK.out _ _ ⟨z0, z1⟩ (fun hHeld => ?_)
    clear hK K
    (try simp only [Act.put, List.setIfInBounds_toArray, List.set_cons_zero, List.set_cons_succ])
    have sn := Swa.out.trans (hq.mono Swa.out.size)
    have lnwb : w8.heap.size < wb.heap.size := Nat.lt_of_lt_of_le (show w8.heap.size < wa.heap.size by first | omega | simp) hq.size
    have Swb := Lib.hid sn; clear sn
    clear hq z0 z1
    refine wpAnyH_take (i := 20) (v := ?_) rfl (by kernel_rfl) (by kernel_rfl) (by kernel_rfl) (fun _ _ _ h => h) (Or.inl ⟨by rfl, ?_⟩) (by assumption) ?_
    rotate_left
    · (intro wS hSw; (try dsimp only at hSw); go_simp; (try with_reducible rfl))
    (try simp only [Act.put, List.setIfInBounds_toArray, List.set_cons_zero, List.set_cons_succ])
    refine wpAnyH_take (i := 21) (v := ?_) rfl (by kernel_rfl) (by kernel_rfl) (by kernel_rfl) (fun _ _ _ h => h) (Or.inl ⟨by rfl, ?_⟩) (by assumption) ?_
    rotate_left
    · (intro wS hSw; (try dsimp only at hSw); go_simp; (try with_reducible rfl))
    (try simp only [Act.put, List.setIfInBounds_toArray, List.set_cons_zero, List.set_cons_succ])
    refine wpAnyH_done (by kernel_rfl) ?_ _
    (try simp only [List.getElem_toArray, List.getElem_cons_zero, List.getElem_cons_succ, Act.put, List.setIfInBounds_toArray, List.set_cons_zero, List.set_cons_succ])
    clear hHeld
    go_wp2_with fail
    go_ret
    exact ⟨Swb.out, rfl⟩
/-- The law. -/
theorem lbits_all (L S : Int) (es : List E3) (v : Value) (nn : Nat) (w : World) (hr : Row w v es.length (ce es)) (hok : okEs es) (hnn : nn ≤ 255) :
    Calls Try.prog 4 #[.agg #[.int .i64 L, .int .i64 S, v], .int .u8 (nn : Int)] w (Ret w (.bool true)) := by
  rcases Classical.em (FineP L S es) with hF | hF
  · obtain ⟨hE, hS, hL⟩ := hF
    have hca := chk_all (eck_zero hE).1
    obtain ⟨l, rfl⟩ : ∃ l : Nat, L = l := ⟨L.toNat, by omega⟩
    obtain ⟨k, rfl⟩ : ∃ k : Nat, S = k := ⟨S.toNat, by omega⟩
    rcases bits_ex hE (1 + nn % 8) with h0 | ⟨p, hp4, hpm⟩
    · exact lbits_none l k _ es v nn w hr hok hnn hE (by omega) rfl h0
    · exact lbits_some l k _ es v nn w hr hok hnn hE (by omega) rfl p hp4 hpm
  · exact lbits_bad L S es v nn w hr hok hnn hF
end Go.Proofs.Ytalipfnbpnkgnaa

/- The rank of the word with a number is that number, in plain Lean. -/
namespace Go.Proofs.Ytalipfnbpnkgnaa
open Go.RowKit

theorem letL_lt {a b : Int} (h0 : 0 ≤ a) (hab : a < b) (hb : b < 16) : letL a < letL b := by
  have h : ∀ i j : Fin 16, i.val < j.val → letters.getD i.val 0 < letters.getD j.val 0 := by decide
  obtain ⟨i, rfl⟩ : ∃ i : Nat, a = i := ⟨a.toNat, by omega⟩
  obtain ⟨j, rfl⟩ : ∃ j : Nat, b = j := ⟨b.toNat, by omega⟩
  have := h ⟨i, by omega⟩ ⟨j, by omega⟩ (by show i < j; omega)
  simpa [letL] using this
theorem letL_ne {a b : Int} (h0 : 0 ≤ a) (hab : a < b) (hb : b < 16) : ¬ letL a = letL b := fun e => by
  have h := letL_lt h0 hab hb
  rw [e] at h
  have h2 : (letL b).toNat < (letL b).toNat := UInt8.lt_iff_toNat_lt.1 h
  omega
/-- The edges that leave a state lie by ascending labels. -/
def AscL (l : List E3) : Prop := l.Pairwise (fun a b => a.l < b.l) ∧ ∀ e ∈ l, 0 ≤ e.l ∧ e.l < 16
theorem outE_asc {L S : Int} {es : List E3} (h : eck L S es = 0) (s : Int) : AscL (outE es s) := by
  obtain ⟨hc, hL, hd⟩ := eck_zero h
  have hcl : chkL L S none es = 0 := by
    unfold chk at hc
    split at hc
    · cases hc
    · split at hc
      · cases hc
      · split at hc
        · cases hc
        · exact hc
  refine ⟨?_, fun e he => chk_lab hc hL e (List.mem_filter.1 he).1⟩
  refine ((det_sorted hcl hd).filter (fun e => e.f == s)).imp_of_mem fun {a b} ha hb hab => ?_
  have h1 : a.f = s := by simpa using (List.mem_filter.1 ha).2
  have h2 : b.f = s := by simpa using (List.mem_filter.1 hb).2
  unfold ltFL at hab
  omega
theorem rkGo_urGo {es : List E3} {p : Int → Bool} {k : Nat} : ∀ {l : List E3} {a : Int} {e : E3} (sum : Int), AscL l → (urGo es p k l a).1 = some e →
    rkGo es p k (letL e.l) l sum = (sum + (a - (urGo es p k l a).2), some e.t)
  | [], _, _, _, _, h => by cases h
  | x :: l, a, e, sum, hl, h => by
    obtain ⟨hp, hr⟩ := hl
    obtain ⟨hp1, hp2⟩ := List.pairwise_cons.1 hp
    rw [urGo] at h ⊢
    rw [rkGo]
    by_cases hc : a < cw es p k x.t
    · rw [if_pos hc] at h ⊢
      obtain rfl : x = e := by injection h
      rw [if_pos rfl]
      simp
    · rw [if_neg hc] at h ⊢
      have he := (urGo_mem h).1
      have hlt := hp1 e he
      rw [if_neg (letL_ne (hr x (by simp)).1 hlt (hr e (by simp [he])).2)]
      rw [rkGo_urGo (sum + cw es p k x.t) ⟨hp2, fun y hy => hr y (by simp [hy])⟩ h]
      refine Prod.ext ?_ rfl
      dsimp only
      omega
theorem ur_length {es : List E3} {p : Int → Bool} : ∀ (n : Nat) (s a : Int), 0 ≤ a → a < cw es p n s → (ur es p n s a).1.length = n
  | 0, _, _, _, _ => rfl
  | n + 1, s, a, h0, h1 => by
    rw [cw_succ] at h1
    have hf := urGo_found h1 h0
    have hb := urGo_bd es p n (outE es s) a h0
    rw [ur]
    rcases hu : urGo es p n (outE es s) a with ⟨_ | e, a'⟩
    · rw [hu] at hf; exact absurd rfl hf
    · have hm := urGo_mem (es := es) (p := p) (k := n) (l := outE es s) (a := a) (e := e) (by rw [hu])
      rw [hu] at hb hm
      dsimp only
      rw [List.length_cons, ur_length n e.t a' hb.1 hm.2]
/-- The number of the word with a number, and where it ends. -/
theorem rk_ur {L S : Int} {es : List E3} (hE : eck L S es = 0) (p : Int → Bool) : ∀ (n : Nat) (s a sum : Int), 0 ≤ a → a < cw es p n s → rk es p (ur es p n s a).1 s sum = some (sum + a, (ur es p n s a).2) ∧ p (ur es p n s a).2 = true
  | 0, s, a, sum, h0, h1 => by
    rw [cw] at h1
    split at h1
    · rename_i hp
      obtain rfl : a = 0 := by omega
      rw [ur, rk]
      exact ⟨by simp, hp⟩
    · omega
  | n + 1, s, a, sum, h0, h1 => by
    have h1' := h1
    rw [cw_succ] at h1'
    have hf := urGo_found h1' h0
    have hb := urGo_bd es p n (outE es s) a h0
    rw [ur]
    rcases hu : urGo es p n (outE es s) a with ⟨_ | e, a'⟩
    · rw [hu] at hf; exact absurd rfl hf
    · have hm := urGo_mem (es := es) (p := p) (k := n) (l := outE es s) (a := a) (e := e) (by rw [hu])
      have hg := rkGo_urGo sum (outE_asc hE s) (show (urGo es p n (outE es s) a).1 = some e by rw [hu])
      rw [hu] at hb hm hg
      dsimp only at hb hm hg ⊢
      rw [rk, ur_length n e.t a' hb.1 hm.2, hg]
      dsimp only
      obtain ⟨r1, r2⟩ := rk_ur hE p n e.t a' (sum + (a - a')) hb.1 hm.2
      rw [r1]
      exact ⟨by congr 2; omega, r2⟩
end Go.Proofs.Ytalipfnbpnkgnaa

/- Of two numbers the lesser one has the lesser word, in plain Lean. -/
namespace Go.Proofs.Ytalipfnbpnkgnaa
open Go.RowKit

theorem less_irr : ∀ x : List UInt8, Op.bytesLess x x = false
  | [] => rfl
  | a :: x => by
    rw [Op.bytesLess, less_irr x]
    simp
theorem less_asym : ∀ {x y : List UInt8}, Op.bytesLess x y = true → Op.bytesLess y x = false
  | _, [], h => by simp [Op.bytesLess] at h
  | [], _ :: _, _ => rfl
  | a :: x, b :: y, h => by
    rw [Op.bytesLess] at h ⊢
    simp only [Bool.or_eq_true, decide_eq_true_eq, Bool.and_eq_true, beq_iff_eq] at h
    rcases h with h | ⟨rfl, h⟩
    · have h1 : a.toNat < b.toNat := UInt8.lt_iff_toNat_lt.1 h
      have h2 : ¬ b < a := fun h2 => by have := UInt8.lt_iff_toNat_lt.1 h2; omega
      have h3 : ¬ b = a := fun e => by rw [e] at h1; omega
      simp [h2, h3]
    · rw [less_asym h]; simp
theorem less_ne {x y : List UInt8} (h : Op.bytesLess x y = true) : ¬ x = y := fun e => by
  rw [e, less_irr] at h; cases h
theorem urGo_mono {es : List E3} {p : Int → Bool} {k : Nat} : ∀ {l : List E3} {a b a' b' : Int} {x y : E3}, AscL l → a < b → urGo es p k l a = (some x, a') → urGo es p k l b = (some y, b') → x.l < y.l ∨ x = y ∧ a' < b'
  | [], _, _, _, _, _, _, _, _, h, _ => by simp [urGo] at h
  | e :: l, a, b, a', b', x, y, hl, hab, h1, h2 => by
    obtain ⟨hp, hr⟩ := hl
    obtain ⟨hp1, hp2⟩ := List.pairwise_cons.1 hp
    rw [urGo] at h1 h2
    by_cases ca : a < cw es p k e.t
    · rw [if_pos ca] at h1
      obtain ⟨rfl, rfl⟩ : e = x ∧ a = a' := by simpa using h1
      by_cases cb : b < cw es p k e.t
      · rw [if_pos cb] at h2
        obtain ⟨rfl, rfl⟩ : e = y ∧ b = b' := by simpa using h2
        exact .inr ⟨rfl, hab⟩
      · rw [if_neg cb] at h2
        have hm := (urGo_mem (es := es) (p := p) (k := k) (l := l) (a := b - cw es p k e.t) (e := y) (by rw [h2])).1
        exact .inl (hp1 y hm)
    · rw [if_neg ca] at h1
      rw [if_neg (by omega)] at h2
      exact urGo_mono ⟨hp2, fun z hz => hr z (by simp [hz])⟩ (by omega) h1 h2
theorem ur_less {L S : Int} {es : List E3} (hE : eck L S es = 0) (p : Int → Bool) : ∀ (n : Nat) (s a b : Int), 0 ≤ a → a < b → b < cw es p n s → Op.bytesLess (ur es p n s a).1 (ur es p n s b).1 = true
  | 0, s, a, b, h0, h1, h2 => by
    rw [cw] at h2
    split at h2 <;> omega
  | n + 1, s, a, b, h0, h1, h2 => by
    have h2' := h2
    rw [cw_succ] at h2'
    have fa := urGo_found (es := es) (p := p) (k := n) (l := outE es s) (a := a) (by omega) h0
    have fb := urGo_found h2' (by omega)
    have ba := urGo_bd es p n (outE es s) a h0
    have bb' := urGo_bd es p n (outE es s) b (by omega)
    rw [ur, ur]
    rcases hu : urGo es p n (outE es s) a with ⟨_ | x, a'⟩
    · rw [hu] at fa; exact absurd rfl fa
    · rcases hv : urGo es p n (outE es s) b with ⟨_ | y, b'⟩
      · rw [hv] at fb; exact absurd rfl fb
      · have hA := outE_asc hE s
        have mx := urGo_mem (es := es) (p := p) (k := n) (l := outE es s) (a := a) (e := x) (by rw [hu])
        have my := urGo_mem (es := es) (p := p) (k := n) (l := outE es s) (a := b) (e := y) (by rw [hv])
        have hm := urGo_mono hA h1 hu hv
        rw [hu] at ba mx
        rw [hv] at bb' my
        dsimp only at ba bb' mx my ⊢
        rw [Op.bytesLess]
        rcases hm with hm | ⟨rfl, hm⟩
        · have := letL_lt (hA.2 x mx.1).1 hm (hA.2 y my.1).2
          simp [this]
        · rw [ur_less hE p n x.t a' b' ba.1 hm my.2]
          simp
/-- The order of the words is the order of the numbers. -/
theorem ur_lss {L S : Int} {es : List E3} (hE : eck L S es = 0) {p : Int → Bool} {n : Nat} {s a b : Int} (ha : 0 ≤ a) (ha1 : a < cw es p n s) (hb : 0 ≤ b) (hb1 : b < cw es p n s) :
    Op.bytesLess (ur es p n s a).1 (ur es p n s b).1 = decide (a < b) ∧ (!(Op.bytesLess (ur es p n s a).1 (ur es p n s b).1 || (ur es p n s a).1 == (ur es p n s b).1)) = decide (b < a) := by
  by_cases h : a < b
  · have h1 := ur_less hE p n s a b ha h hb1
    rw [h1]
    exact ⟨by simp [h], by simp; omega⟩
  · by_cases h2 : b < a
    · have h1 := ur_less hE p n s b a hb h2 ha1
      have h3 := less_asym h1
      have h4 : ((ur es p n s a).1 == (ur es p n s b).1) = false := by
        have := less_ne h1
        simp only [beq_eq_false_iff_ne, ne_eq]
        exact fun e => this e.symm
      rw [h3, h4]
      exact ⟨by simp; omega, by simp [h2]⟩
    · obtain rfl : a = b := by omega
      rw [less_irr]
      exact ⟨by simp, by simp⟩
theorem ur_mem {es : List E3} {p : Int → Bool} : ∀ (n : Nat) (s a : Int), ∀ c ∈ (ur es p n s a).1, ∃ e ∈ es, c = letL e.l
  | 0, s, a, c, h => by simp [ur] at h
  | n + 1, s, a, c, h => by
    rw [ur] at h
    rcases hu : urGo es p n (outE es s) a with ⟨_ | e, a'⟩
    · rw [hu] at h; exact ur_mem n s a' c h
    · rw [hu] at h
      have hm := (urGo_mem (es := es) (p := p) (k := n) (l := outE es s) (a := a) (e := e) (by rw [hu])).1
      rcases List.mem_cons.1 h with h | h
      · exact ⟨e, (List.mem_filter.1 hm).1, h⟩
      · exact ur_mem n e.t a' c h
theorem letL_is {L x : Int} (h0 : 0 ≤ x) (h1 : x < L) (h2 : L ≤ 16) : isLetter L.toNat (letL x) = true := by
  have h : ∀ (i : Fin 17) (j : Fin 16), j.val < i.val → isLetter i.val (letters.getD j.val 0) = true := by decide
  exact h ⟨L.toNat, by omega⟩ ⟨x.toNat, by omega⟩ (by show x.toNat < L.toNat; omega)
/-- Words with numbers are words over the letters. -/
theorem ur_ckw {L S : Int} {es : List E3} (hE : eck L S es = 0) (p : Int → Bool) (n : Nat) (hn : n ≤ 4096) (s a : Int) (ha : 0 ≤ a) (ha1 : a < cw es p n s) : ckw L (ur es p n s a).1 = 0 := by
  obtain ⟨hc, hL, hd⟩ := eck_zero hE
  have hca := chk_all hc
  have hl := ur_length n s a ha ha1
  have hw : wchk L (ur es p n s a).1 = 0 := by
    unfold wchk
    rw [if_neg (by omega), if_neg (by rw [hl]; omega), if_pos]
    rw [List.all_eq_true]
    intro c hcm
    obtain ⟨e, he, rfl⟩ := ur_mem n s a c hcm
    have := hca.2.2.2.2 e he
    unfold edgeBad at this
    exact letL_is (by omega) (by omega) (by omega)
  unfold ckw
  rw [hw, if_neg (by simp), if_neg (by rw [hl]; omega)]
end Go.Proofs.Ytalipfnbpnkgnaa

/- enumerative.unrank outside of the numbers of words. -/
namespace Go.Proofs.Ytalipfnbpnkgnaa
open Go.RowKit Go.Shelf

attribute [local go_sem] Oper.semAt_some
def UrOut (w : World) (e : Ending) (w' : World) : Prop := Below w.heap.size w w' ∧ e = .returned (.tuple #[.string ⟨#[]⟩, .int .i64 0, .bool false])

set_option maxRecDepth 100000 in
set_option maxHeartbeats 8000000 in
theorem unrank_neg (L : Int) (S s0 n : Nat) (a0 : Int) (es : List E3) (v tv : Value) (p : Int → Bool) (w : World) (hr : Row w v es.length (ce es)) (ht : Tab w tv (tabL es S p n)) (hS : S ≤ 64) (hl : es.length ≤ 1024) (hin : InS S es) (hlab : ∀ e ∈ es, 0 ≤ e.l ∧ e.l < 16) (hs0 : s0 < S) (hn : n ≤ 4096) (sA : small a0) (ha : a0 < 0) :
    CallsIn Fence.wide 8 Try.prog 61 #[.agg #[.int .i64 L, .int .i64 (S : Int), v], tv, .int .i64 (s0 : Int), .int .i64 (n : Int), .agg #[.bool (ineg a0), .string (imag a0)]] w (UrOut w) := by
  obtain ⟨rvs, hrvl, hrt, hrows⟩ := ht
  rw [tabL_length] at hrt
  obtain ⟨at0, ct, rfl, hct⟩ := hrt.slice
  obtain ⟨bt, ot, rfl, hbt, htc⟩ := hrt.at_ (by omega)
  -- the row of length n
  obtain ⟨rv, hrv1, hrv2⟩ := hrows n _ (tabL_get (by omega))
  rw [rowK_length] at hrv2
  obtain ⟨ar, cr, rfl, hcr⟩ := hrv2.slice
  obtain ⟨br, orr, rfl, hbr, hrc⟩ := hrv2.at_ (by omega)
  have r0 := htc n _ hrv1
  have gy : (rowK es S p n)[s0]? = some (cw es p n (s0 : Int)) := rowK_get hs0
  have sY : small (cw es p n (s0 : Int)) := cw_small (by omega) p n (by omega) _
  obtain ⟨Y, hY⟩ : ∃ Y, Y = cw es p n (s0 : Int) := ⟨_, rfl⟩
  rw [← hY] at gy sY
  have y0 := hrc _ _ (civ_get gy).1
  have y1 := hrc _ _ (civ_get gy).2
  rw [← Nat.add_assoc] at y1
  have hc1 := fun w' => icompare_any (ineg a0) false (imag a0) ⟨#[]⟩ w' sA (by decide)
  have hc2 := fun w' => icompare_any (ineg a0) (ineg Y) (imag a0) (imag Y) w' sA sY
  simp only [ival_canon, ival_zero0] at hc1 hc2
  obtain ⟨z1, hz1⟩ : ∃ z, z = cmpZ a0 0 := ⟨_, rfl⟩
  obtain ⟨z2, hz2⟩ : ∃ z, z = cmpZ a0 Y := ⟨_, rfl⟩
  rw [← hz1] at hc1
  rw [← hz2] at hc2
  have t1 : decide (z1 < 0) = true := by rw [hz1]; exact (cmpZ_neg a0 0).trans (by simp; omega)
  have hix1 : (0 : Int) ≤ (n : Int) := by omega
  have hix2 : (n : Int) < (n : Int) + 1 := by omega
  have hix3 : (0 : Int) ≤ (s0 : Int) := by omega
  have hix4 : (s0 : Int) < (S : Int) := by omega
  have hwn : IntKind.i64.wrap ((n : Int) - 1) = (n : Int) - 1 := IntWalk.i64_in _ (by omega)
  have HRVL := Lib.hid hrvl; clear hrvl
  have HROWS := Lib.hid hrows; clear hrows
  have HTC := Lib.hid htc; clear htc
  have HIN := Lib.hid hin; clear hin
  have HLAB := Lib.hid hlab; clear hlab
  have HR := Lib.hid hr; clear hr
  have HC1 := Lib.hid hc1; clear hc1
  have HC2 := Lib.hid hc2; clear hc2
  have HY0 := Lib.hid hY; clear hY
  clear hrt hrv1 hrv2 hrc gy sA sY hz1 hz2
  refine callsIn_of_wp_marks Try.func61 rfl trivial ?_ rfl
  simp only [Try.ntmps61, List.size_toArray, List.length_cons, List.length_nil, Nat.reduceAdd, Nat.reduceSub, Array.replicate_succ, Array.replicate_zero, List.push_toArray, List.append_toArray, List.nil_append, List.cons_append]
  gi_wp2
  simp only [Nat.add_assoc, Nat.reduceAdd]
  obtain ⟨w1, hw1⟩ : ∃ w1, ((((w.alloc (.cells #[.int .i64 L, .int .i64 (S : Int), v] 24)).alloc (.cells #[.slice (some ⟨bt, ot, none⟩) (n + 1) ct] 88)).alloc (.cells #[.int .i64 (s0 : Int)] 3)).alloc (.cells #[.bool (ineg a0), .string (imag a0)] 26)) = w1 := ⟨_, rfl⟩
  rw [hw1]
  have hsz1 : w1.heap.size = w.heap.size + 4 := by rw [← hw1]; simp
  have hb1 : Below w.heap.size w w1 := by rw [← hw1]; exact ((((Below.refl _ w).alloc (Nat.le_refl _) _).alloc (by simp) _).alloc (by simp; omega) _).alloc (by simp; omega) _
  have bG1 : Blk w1 w.heap.size 24 [.int .i64 L, .int .i64 (S : Int), v] := by rw [← hw1]; exact (((Blk.new w _ _).alloc _).alloc _).alloc _
  have bT1 : Blk w1 (w.heap.size + 1) 88 [.slice (some ⟨bt, ot, none⟩) (n + 1) ct] := by
    have h := Blk.new (w.alloc (.cells #[.int .i64 L, .int .i64 (S : Int), v] 24)) 88 [.slice (some ⟨bt, ot, none⟩) (n + 1) ct]
    rw [World.size_alloc] at h
    rw [← hw1]; exact (h.alloc _).alloc _
  have bS1 : Blk w1 (w.heap.size + 2) 3 [.int .i64 (s0 : Int)] := by
    have h := Blk.new ((w.alloc (.cells #[.int .i64 L, .int .i64 (S : Int), v] 24)).alloc (.cells #[.slice (some ⟨bt, ot, none⟩) (n + 1) ct] 88)) 3 [.int .i64 (s0 : Int)]
    simp only [World.size_alloc, Nat.add_assoc, Nat.reduceAdd] at h
    rw [← hw1]; exact h.alloc _
  have bA1 : Blk w1 (w.heap.size + 3) 26 [.bool (ineg a0), .string (imag a0)] := by
    have h := Blk.new (((w.alloc (.cells #[.int .i64 L, .int .i64 (S : Int), v] 24)).alloc (.cells #[.slice (some ⟨bt, ot, none⟩) (n + 1) ct] 88)).alloc (.cells #[.int .i64 (s0 : Int)] 3)) 26 [.bool (ineg a0), .string (imag a0)]
    simp only [World.size_alloc, Nat.add_assoc, Nat.reduceAdd] at h
    rw [← hw1]; exact h
  clear hw1
  have x0 := bA1.cell (j := 0) rfl
  have x1 := bA1.cell (j := 1) rfl
  have xT := bT1.cell (j := 0) rfl
  have xS := bS1.cell (j := 0) rfl
  have r1 := (hb1.cell (p := ⟨bt, ot + n, none⟩) hbt).trans r0
  have y2 := (hb1.cell (p := ⟨br, orr + s0 * 2, none⟩) hbr).trans y0
  have y3 := (hb1.cell (p := ⟨br, orr + s0 * 2 + 1, none⟩) hbr).trans y1
  clear r0 y0 y1
  have BG1 := Lib.hid bG1; clear bG1
  have BT1 := Lib.hid bT1; clear bT1
  have BS1 := Lib.hid bS1; clear bS1
  have BA1 := Lib.hid bA1; clear bA1
  have HB1 := Lib.hid hb1; clear hb1
  refine wpIn_wide.2 ?_
  refine wp_region_noPanic ?_
  refine wp_region_held_drew (S := fun w' => w'.cell? ⟨w.heap.size + 3, 0, none⟩ = some (.bool (ineg a0)) ∧ w'.cell? ⟨w.heap.size + 3, 1, none⟩ = some (.string (imag a0)) ∧ w'.cell? ⟨w.heap.size + 1, 0, none⟩ = some (.slice (some ⟨bt, ot, none⟩) (n + 1) ct) ∧ w'.cell? ⟨w.heap.size + 2, 0, none⟩ = some (.int .i64 (s0 : Int)) ∧ w'.cell? ⟨bt, ot + n, none⟩ = some (.slice (some ⟨br, orr, none⟩) S cr) ∧ w'.cell? ⟨br, orr + s0 * 2, none⟩ = some (.bool (ineg Y)) ∧ w'.cell? ⟨br, orr + s0 * 2 + 1, none⟩ = some (.string (imag Y))) (by kernel_rfl) ?_ (fun hHeld => ?_)
  · go_keep
  refine wpAnyH_take (i := 0) (v := ?_) rfl (by kernel_rfl) (by kernel_rfl) (by kernel_rfl) (fun _ _ _ h => h) (Or.inl ⟨by rfl, ?_⟩) (by assumption) ?_
  rotate_left
  · (intro wS hSw; (try dsimp only at hSw); go_simp; (try with_reducible rfl))
  (try simp only [Act.put, List.setIfInBounds_toArray, List.set_cons_zero, List.set_cons_succ])
  refine wpAnyH_take (i := 1) (v := ?_) rfl (by kernel_rfl) (by kernel_rfl) (by kernel_rfl) (fun _ _ _ h => h) (Or.inl ⟨by rfl, ?_⟩) (by assumption) ?_
  rotate_left
  · (intro wS hSw; (try dsimp only at hSw); go_simp; (try with_reducible rfl))
  (try simp only [Act.put, List.setIfInBounds_toArray, List.set_cons_zero, List.set_cons_succ])
  refine wpAnyH_ready (rs := [2]) (by kernel_rfl) (by simp) ?_
  refine AllReadyH.cons rfl (fun K hK => ?_) AllReadyH.nil
  go_simp
  go_at_call 20
  refine (HC1.out _).mono ?_
  rintro e w2 ⟨hq2, rfl⟩
  dsimp only
  have q0 := (hq2.cell (p := ⟨w.heap.size + 3, 0, none⟩) (show w.heap.size + 3 < w1.heap.size by omega)).trans hHeld.1
  have q1 := (hq2.cell (p := ⟨w.heap.size + 3, 1, none⟩) (show w.heap.size + 3 < w1.heap.size by omega)).trans hHeld.2.1
  have q2 := (hq2.cell (p := ⟨w.heap.size + 1, 0, none⟩) (show w.heap.size + 1 < w1.heap.size by omega)).trans hHeld.2.2.1
  have q3 := (hq2.cell (p := ⟨w.heap.size + 2, 0, none⟩) (show w.heap.size + 2 < w1.heap.size by omega)).trans hHeld.2.2.2.1
  have q4 := (hq2.cell (p := ⟨bt, ot + n, none⟩) (show bt < w1.heap.size by omega)).trans hHeld.2.2.2.2.1
  have q5 := (hq2.cell (p := ⟨br, orr + s0 * 2, none⟩) (show br < w1.heap.size by omega)).trans hHeld.2.2.2.2.2.1
  have q6 := (hq2.cell (p := ⟨br, orr + s0 * 2 + 1, none⟩) (show br < w1.heap.size by omega)).trans hHeld.2.2.2.2.2.2
  refine hK.out _ _ ⟨q0, q1, q2, q3, q4, q5, q6⟩ (fun hHeld2 => ?_)
  clear hK K hHeld x0 x1 xT xS r1 y2 y3
  (try simp only [Act.put, List.setIfInBounds_toArray, List.set_cons_zero, List.set_cons_succ])
  have hbB := HB1.out.drew.trans (hq2.mono HB1.out.size)
  have k1 := BG1.out.drew.keep hq2
  have k2 := BT1.out.drew.keep hq2
  have k3 := BS1.out.drew.keep hq2
  have k4 := BA1.out.drew.keep hq2
  have hl2 : w.heap.size + 3 < w2.heap.size := k4.lt
  have HB2 := Lib.hid hbB; clear hbB
  have BG2 := Lib.hid k1; clear k1
  have BT2 := Lib.hid k2; clear k2
  have BS2 := Lib.hid k3; clear k3
  have BA2 := Lib.hid k4; clear k4
  clear hq2
  refine wpAnyH_take (i := 3) (v := ?_) rfl (by kernel_rfl) (by kernel_rfl) (by kernel_rfl) (fun _ _ _ h => h) (Or.inl ⟨by rfl, ?_⟩) (by assumption) ?_
  rotate_left
  · (intro wS hSw; (try dsimp only at hSw); go_simp; (try with_reducible rfl))
  (try simp only [Act.put, List.setIfInBounds_toArray, List.set_cons_zero, List.set_cons_succ])
  refine wpAnyH_take (i := 4) (v := ?_) rfl (by kernel_rfl) (by kernel_rfl) (by kernel_rfl) (fun _ _ _ h => h) (Or.inl ⟨by rfl, ?_⟩) (by assumption) ?_
  rotate_left
  · (intro wS hSw; (try dsimp only at hSw); go_simp; (try with_reducible rfl))
  (try simp only [Act.put, List.setIfInBounds_toArray, List.set_cons_zero, List.set_cons_succ])
  refine wpAnyH_take (i := 5) (v := undef) rfl (by kernel_rfl) (by kernel_rfl) (by kernel_rfl) (fun _ _ _ h => h) (Or.inr ⟨by kernel_rfl, rfl⟩) (by assumption) ?_
  (try simp only [Act.put, List.setIfInBounds_toArray, List.set_cons_zero, List.set_cons_succ])
  refine wpAnyH_take (i := 6) (v := undef) rfl (by kernel_rfl) (by kernel_rfl) (by kernel_rfl) (fun _ _ _ h => h) (Or.inr ⟨by kernel_rfl, rfl⟩) (by assumption) ?_
  (try simp only [Act.put, List.setIfInBounds_toArray, List.set_cons_zero, List.set_cons_succ])
  refine wpAnyH_take (i := 7) (v := undef) rfl (by kernel_rfl) (by kernel_rfl) (by kernel_rfl) (fun _ _ _ h => h) (Or.inr ⟨by kernel_rfl, rfl⟩) (by assumption) ?_
  (try simp only [Act.put, List.setIfInBounds_toArray, List.set_cons_zero, List.set_cons_succ])
  refine wpAnyH_take (i := 8) (v := undef) rfl (by kernel_rfl) (by kernel_rfl) (by kernel_rfl) (fun _ _ _ h => h) (Or.inr ⟨by kernel_rfl, rfl⟩) (by assumption) ?_
  (try simp only [Act.put, List.setIfInBounds_toArray, List.set_cons_zero, List.set_cons_succ])
  refine wpAnyH_take (i := 9) (v := undef) rfl (by kernel_rfl) (by kernel_rfl) (by kernel_rfl) (fun _ _ _ h => h) (Or.inr ⟨by kernel_rfl, rfl⟩) (by assumption) ?_
  (try simp only [Act.put, List.setIfInBounds_toArray, List.set_cons_zero, List.set_cons_succ])
  refine wpAnyH_take (i := 10) (v := undef) rfl (by kernel_rfl) (by kernel_rfl) (by kernel_rfl) (fun _ _ _ h => h) (Or.inr ⟨by kernel_rfl, rfl⟩) (by assumption) ?_
  (try simp only [Act.put, List.setIfInBounds_toArray, List.set_cons_zero, List.set_cons_succ])
  refine wpAnyH_take (i := 11) (v := undef) rfl (by kernel_rfl) (by kernel_rfl) (by kernel_rfl) (fun _ _ _ h => h) (Or.inr ⟨by kernel_rfl, rfl⟩) (by assumption) ?_
  (try simp only [Act.put, List.setIfInBounds_toArray, List.set_cons_zero, List.set_cons_succ])
  refine wpAnyH_take (i := 12) (v := undef) rfl (by kernel_rfl) (by kernel_rfl) (by kernel_rfl) (fun _ _ _ h => h) (Or.inr ⟨by kernel_rfl, rfl⟩) (by assumption) ?_
  (try simp only [Act.put, List.setIfInBounds_toArray, List.set_cons_zero, List.set_cons_succ])
  refine wpAnyH_take (i := 13) (v := undef) rfl (by kernel_rfl) (by kernel_rfl) (by kernel_rfl) (fun _ _ _ h => h) (Or.inr ⟨by kernel_rfl, rfl⟩) (by assumption) ?_
  (try simp only [Act.put, List.setIfInBounds_toArray, List.set_cons_zero, List.set_cons_succ])
  refine wpAnyH_take (i := 14) (v := undef) rfl (by kernel_rfl) (by kernel_rfl) (by kernel_rfl) (fun _ _ _ h => h) (Or.inr ⟨by kernel_rfl, rfl⟩) (by assumption) ?_
  (try simp only [Act.put, List.setIfInBounds_toArray, List.set_cons_zero, List.set_cons_succ])
  refine wpAnyH_take (i := 15) (v := ?_) rfl (by kernel_rfl) (by kernel_rfl) (by kernel_rfl) (fun _ _ _ h => h) (Or.inl ⟨by rfl, ?_⟩) (by assumption) ?_
  rotate_left
  · (intro wS hSw; (try dsimp only at hSw); go_simp; (try with_reducible rfl))
  (try simp only [Act.put, List.setIfInBounds_toArray, List.set_cons_zero, List.set_cons_succ])
  refine wpAnyH_done (by kernel_rfl) ?_ _
  (try simp only [List.getElem_toArray, List.getElem_cons_zero, List.getElem_cons_succ, Act.put, List.setIfInBounds_toArray, List.set_cons_zero, List.set_cons_succ])
  refine NoPanic.normal ?_
  clear hHeld2
  gi_wp2
  refine leaves_marks w.heap.size (fun W => Below w.heap.size w W) (fun W D hB hk hD => hk.grown (grownBy_putObj' W D _) (by have := hk.size; omega) (fun j' e' => by cases e'; omega)) (fun W hk => ?hfin) [] _ HB2.out (by simp) (by simp) (by simp)
  case hfin =>
    refine ⟨_, ?_, hk, rfl⟩
    simp [results, Try.results61, go_sem]
set_option maxRecDepth 100000 in
set_option maxHeartbeats 8000000 in
theorem unrank_big (L : Int) (S s0 n : Nat) (a0 : Int) (es : List E3) (v tv : Value) (p : Int → Bool) (w : World) (hr : Row w v es.length (ce es)) (ht : Tab w tv (tabL es S p n)) (hS : S ≤ 64) (hl : es.length ≤ 1024) (hin : InS S es) (hlab : ∀ e ∈ es, 0 ≤ e.l ∧ e.l < 16) (hs0 : s0 < S) (hn : n ≤ 4096) (sA : small a0) (ha0 : 0 ≤ a0) (ha1 : cw es p n (s0 : Int) ≤ a0) :
    CallsIn Fence.wide 8 Try.prog 61 #[.agg #[.int .i64 L, .int .i64 (S : Int), v], tv, .int .i64 (s0 : Int), .int .i64 (n : Int), .agg #[.bool (ineg a0), .string (imag a0)]] w (UrOut w) := by
  obtain ⟨rvs, hrvl, hrt, hrows⟩ := ht
  rw [tabL_length] at hrt
  obtain ⟨at0, ct, rfl, hct⟩ := hrt.slice
  obtain ⟨bt, ot, rfl, hbt, htc⟩ := hrt.at_ (by omega)
  -- the row of length n
  obtain ⟨rv, hrv1, hrv2⟩ := hrows n _ (tabL_get (by omega))
  rw [rowK_length] at hrv2
  obtain ⟨ar, cr, rfl, hcr⟩ := hrv2.slice
  obtain ⟨br, orr, rfl, hbr, hrc⟩ := hrv2.at_ (by omega)
  have r0 := htc n _ hrv1
  have gy : (rowK es S p n)[s0]? = some (cw es p n (s0 : Int)) := rowK_get hs0
  have sY : small (cw es p n (s0 : Int)) := cw_small (by omega) p n (by omega) _
  obtain ⟨Y, hY⟩ : ∃ Y, Y = cw es p n (s0 : Int) := ⟨_, rfl⟩
  rw [← hY] at gy sY
  have y0 := hrc _ _ (civ_get gy).1
  have y1 := hrc _ _ (civ_get gy).2
  rw [← Nat.add_assoc] at y1
  have hc1 := fun w' => icompare_any (ineg a0) false (imag a0) ⟨#[]⟩ w' sA (by decide)
  have hc2 := fun w' => icompare_any (ineg a0) (ineg Y) (imag a0) (imag Y) w' sA sY
  simp only [ival_canon, ival_zero0] at hc1 hc2
  obtain ⟨z1, hz1⟩ : ∃ z, z = cmpZ a0 0 := ⟨_, rfl⟩
  obtain ⟨z2, hz2⟩ : ∃ z, z = cmpZ a0 Y := ⟨_, rfl⟩
  rw [← hz1] at hc1
  rw [← hz2] at hc2
  have t1 : decide (z1 < 0) = false := by rw [hz1]; exact (cmpZ_neg a0 0).trans (by simp; omega)
  have t2 : decide (0 ≤ z2) = true := by
    have h := cmpZ_neg a0 Y
    rw [← hz2, decide_eq_decide] at h
    have h3 : ¬ z2 < 0 := fun h4 => by have := h.1 h4; omega
    simp; omega
  have hix1 : (0 : Int) ≤ (n : Int) := by omega
  have hix2 : (n : Int) < (n : Int) + 1 := by omega
  have hix3 : (0 : Int) ≤ (s0 : Int) := by omega
  have hix4 : (s0 : Int) < (S : Int) := by omega
  have hwn : IntKind.i64.wrap ((n : Int) - 1) = (n : Int) - 1 := IntWalk.i64_in _ (by omega)
  have HRVL := Lib.hid hrvl; clear hrvl
  have HROWS := Lib.hid hrows; clear hrows
  have HTC := Lib.hid htc; clear htc
  have HIN := Lib.hid hin; clear hin
  have HLAB := Lib.hid hlab; clear hlab
  have HR := Lib.hid hr; clear hr
  have HC1 := Lib.hid hc1; clear hc1
  have HC2 := Lib.hid hc2; clear hc2
  have HY0 := Lib.hid hY; clear hY
  clear hrt hrv1 hrv2 hrc gy sA sY hz1 hz2
  refine callsIn_of_wp_marks Try.func61 rfl trivial ?_ rfl
  simp only [Try.ntmps61, List.size_toArray, List.length_cons, List.length_nil, Nat.reduceAdd, Nat.reduceSub, Array.replicate_succ, Array.replicate_zero, List.push_toArray, List.append_toArray, List.nil_append, List.cons_append]
  gi_wp2
  simp only [Nat.add_assoc, Nat.reduceAdd]
  obtain ⟨w1, hw1⟩ : ∃ w1, ((((w.alloc (.cells #[.int .i64 L, .int .i64 (S : Int), v] 24)).alloc (.cells #[.slice (some ⟨bt, ot, none⟩) (n + 1) ct] 88)).alloc (.cells #[.int .i64 (s0 : Int)] 3)).alloc (.cells #[.bool (ineg a0), .string (imag a0)] 26)) = w1 := ⟨_, rfl⟩
  rw [hw1]
  have hsz1 : w1.heap.size = w.heap.size + 4 := by rw [← hw1]; simp
  have hb1 : Below w.heap.size w w1 := by rw [← hw1]; exact ((((Below.refl _ w).alloc (Nat.le_refl _) _).alloc (by simp) _).alloc (by simp; omega) _).alloc (by simp; omega) _
  have bG1 : Blk w1 w.heap.size 24 [.int .i64 L, .int .i64 (S : Int), v] := by rw [← hw1]; exact (((Blk.new w _ _).alloc _).alloc _).alloc _
  have bT1 : Blk w1 (w.heap.size + 1) 88 [.slice (some ⟨bt, ot, none⟩) (n + 1) ct] := by
    have h := Blk.new (w.alloc (.cells #[.int .i64 L, .int .i64 (S : Int), v] 24)) 88 [.slice (some ⟨bt, ot, none⟩) (n + 1) ct]
    rw [World.size_alloc] at h
    rw [← hw1]; exact (h.alloc _).alloc _
  have bS1 : Blk w1 (w.heap.size + 2) 3 [.int .i64 (s0 : Int)] := by
    have h := Blk.new ((w.alloc (.cells #[.int .i64 L, .int .i64 (S : Int), v] 24)).alloc (.cells #[.slice (some ⟨bt, ot, none⟩) (n + 1) ct] 88)) 3 [.int .i64 (s0 : Int)]
    simp only [World.size_alloc, Nat.add_assoc, Nat.reduceAdd] at h
    rw [← hw1]; exact h.alloc _
  have bA1 : Blk w1 (w.heap.size + 3) 26 [.bool (ineg a0), .string (imag a0)] := by
    have h := Blk.new (((w.alloc (.cells #[.int .i64 L, .int .i64 (S : Int), v] 24)).alloc (.cells #[.slice (some ⟨bt, ot, none⟩) (n + 1) ct] 88)).alloc (.cells #[.int .i64 (s0 : Int)] 3)) 26 [.bool (ineg a0), .string (imag a0)]
    simp only [World.size_alloc, Nat.add_assoc, Nat.reduceAdd] at h
    rw [← hw1]; exact h
  clear hw1
  have x0 := bA1.cell (j := 0) rfl
  have x1 := bA1.cell (j := 1) rfl
  have xT := bT1.cell (j := 0) rfl
  have xS := bS1.cell (j := 0) rfl
  have r1 := (hb1.cell (p := ⟨bt, ot + n, none⟩) hbt).trans r0
  have y2 := (hb1.cell (p := ⟨br, orr + s0 * 2, none⟩) hbr).trans y0
  have y3 := (hb1.cell (p := ⟨br, orr + s0 * 2 + 1, none⟩) hbr).trans y1
  clear r0 y0 y1
  have BG1 := Lib.hid bG1; clear bG1
  have BT1 := Lib.hid bT1; clear bT1
  have BS1 := Lib.hid bS1; clear bS1
  have BA1 := Lib.hid bA1; clear bA1
  have HB1 := Lib.hid hb1; clear hb1
  refine wpIn_wide.2 ?_
  refine wp_region_noPanic ?_
  refine wp_region_held_drew (S := fun w' => w'.cell? ⟨w.heap.size + 3, 0, none⟩ = some (.bool (ineg a0)) ∧ w'.cell? ⟨w.heap.size + 3, 1, none⟩ = some (.string (imag a0)) ∧ w'.cell? ⟨w.heap.size + 1, 0, none⟩ = some (.slice (some ⟨bt, ot, none⟩) (n + 1) ct) ∧ w'.cell? ⟨w.heap.size + 2, 0, none⟩ = some (.int .i64 (s0 : Int)) ∧ w'.cell? ⟨bt, ot + n, none⟩ = some (.slice (some ⟨br, orr, none⟩) S cr) ∧ w'.cell? ⟨br, orr + s0 * 2, none⟩ = some (.bool (ineg Y)) ∧ w'.cell? ⟨br, orr + s0 * 2 + 1, none⟩ = some (.string (imag Y))) (by kernel_rfl) ?_ (fun hHeld => ?_)
  · go_keep
  refine wpAnyH_take (i := 0) (v := ?_) rfl (by kernel_rfl) (by kernel_rfl) (by kernel_rfl) (fun _ _ _ h => h) (Or.inl ⟨by rfl, ?_⟩) (by assumption) ?_
  rotate_left
  · (intro wS hSw; (try dsimp only at hSw); go_simp; (try with_reducible rfl))
  (try simp only [Act.put, List.setIfInBounds_toArray, List.set_cons_zero, List.set_cons_succ])
  refine wpAnyH_take (i := 1) (v := ?_) rfl (by kernel_rfl) (by kernel_rfl) (by kernel_rfl) (fun _ _ _ h => h) (Or.inl ⟨by rfl, ?_⟩) (by assumption) ?_
  rotate_left
  · (intro wS hSw; (try dsimp only at hSw); go_simp; (try with_reducible rfl))
  (try simp only [Act.put, List.setIfInBounds_toArray, List.set_cons_zero, List.set_cons_succ])
  refine wpAnyH_ready (rs := [2]) (by kernel_rfl) (by simp) ?_
  refine AllReadyH.cons rfl (fun K hK => ?_) AllReadyH.nil
  go_simp
  go_at_call 20
  refine (HC1.out _).mono ?_
  rintro e w2 ⟨hq2, rfl⟩
  dsimp only
  have q0 := (hq2.cell (p := ⟨w.heap.size + 3, 0, none⟩) (show w.heap.size + 3 < w1.heap.size by omega)).trans hHeld.1
  have q1 := (hq2.cell (p := ⟨w.heap.size + 3, 1, none⟩) (show w.heap.size + 3 < w1.heap.size by omega)).trans hHeld.2.1
  have q2 := (hq2.cell (p := ⟨w.heap.size + 1, 0, none⟩) (show w.heap.size + 1 < w1.heap.size by omega)).trans hHeld.2.2.1
  have q3 := (hq2.cell (p := ⟨w.heap.size + 2, 0, none⟩) (show w.heap.size + 2 < w1.heap.size by omega)).trans hHeld.2.2.2.1
  have q4 := (hq2.cell (p := ⟨bt, ot + n, none⟩) (show bt < w1.heap.size by omega)).trans hHeld.2.2.2.2.1
  have q5 := (hq2.cell (p := ⟨br, orr + s0 * 2, none⟩) (show br < w1.heap.size by omega)).trans hHeld.2.2.2.2.2.1
  have q6 := (hq2.cell (p := ⟨br, orr + s0 * 2 + 1, none⟩) (show br < w1.heap.size by omega)).trans hHeld.2.2.2.2.2.2
  refine hK.out _ _ ⟨q0, q1, q2, q3, q4, q5, q6⟩ (fun hHeld2 => ?_)
  clear hK K hHeld x0 x1 xT xS r1 y2 y3
  (try simp only [Act.put, List.setIfInBounds_toArray, List.set_cons_zero, List.set_cons_succ])
  have hbB := HB1.out.drew.trans (hq2.mono HB1.out.size)
  have k1 := BG1.out.drew.keep hq2
  have k2 := BT1.out.drew.keep hq2
  have k3 := BS1.out.drew.keep hq2
  have k4 := BA1.out.drew.keep hq2
  have hl2 : w.heap.size + 3 < w2.heap.size := k4.lt
  have HB2 := Lib.hid hbB; clear hbB
  have BG2 := Lib.hid k1; clear k1
  have BT2 := Lib.hid k2; clear k2
  have BS2 := Lib.hid k3; clear k3
  have BA2 := Lib.hid k4; clear k4
  clear hq2
  refine wpAnyH_take (i := 3) (v := ?_) rfl (by kernel_rfl) (by kernel_rfl) (by kernel_rfl) (fun _ _ _ h => h) (Or.inl ⟨by rfl, ?_⟩) (by assumption) ?_
  rotate_left
  · (intro wS hSw; (try dsimp only at hSw); go_simp; (try with_reducible rfl))
  (try simp only [Act.put, List.setIfInBounds_toArray, List.set_cons_zero, List.set_cons_succ])
  refine wpAnyH_take (i := 4) (v := ?_) rfl (by kernel_rfl) (by kernel_rfl) (by kernel_rfl) (fun _ _ _ h => h) (Or.inl ⟨by rfl, ?_⟩) (by assumption) ?_
  rotate_left
  · (intro wS hSw; (try dsimp only at hSw); go_simp; (try with_reducible rfl))
  (try simp only [Act.put, List.setIfInBounds_toArray, List.set_cons_zero, List.set_cons_succ])
  refine wpAnyH_take (i := 5) (v := ?_) rfl (by kernel_rfl) (by kernel_rfl) (by kernel_rfl) (fun _ _ _ h => h) (Or.inl ⟨by kernel_rfl, ?_⟩) (by assumption) ?_
  rotate_left
  · (intro wS hSw; (try dsimp only at hSw); go_simp; (try with_reducible rfl))
  (try simp only [Act.put, List.setIfInBounds_toArray, List.set_cons_zero, List.set_cons_succ])
  refine wpAnyH_take (i := 6) (v := ?_) rfl (by kernel_rfl) (by kernel_rfl) (by kernel_rfl) (fun _ _ _ h => h) (Or.inl ⟨by kernel_rfl, ?_⟩) (by assumption) ?_
  rotate_left
  · (intro wS hSw; (try dsimp only at hSw); go_simp; (try with_reducible rfl))
  (try simp only [Act.put, List.setIfInBounds_toArray, List.set_cons_zero, List.set_cons_succ])
  refine wpAnyH_take (i := 7) (v := ?_) rfl (by kernel_rfl) (by kernel_rfl) (by kernel_rfl) (fun _ _ _ h => h) (Or.inl ⟨by kernel_rfl, ?_⟩) (by assumption) ?_
  rotate_left
  · (intro wS hSw; (try dsimp only at hSw); go_simp; (try with_reducible rfl))
  (try simp only [Act.put, List.setIfInBounds_toArray, List.set_cons_zero, List.set_cons_succ])
  refine wpAnyH_take (i := 8) (v := ?_) rfl (by kernel_rfl) (by kernel_rfl) (by kernel_rfl) (fun _ _ _ h => h) (Or.inl ⟨by kernel_rfl, ?_⟩) (by assumption) ?_
  rotate_left
  · (intro wS hSw; (try dsimp only at hSw); go_simp; (try with_reducible rfl))
  (try simp only [Act.put, List.setIfInBounds_toArray, List.set_cons_zero, List.set_cons_succ])
  refine wpAnyH_take (i := 9) (v := ?_) rfl (by kernel_rfl) (by kernel_rfl) (by kernel_rfl) (fun _ _ _ h => h) (Or.inl ⟨by kernel_rfl, ?_⟩) (by assumption) ?_
  rotate_left
  · (intro wS hSw; (try dsimp only at hSw); go_simp; (try with_reducible rfl))
  (try simp only [Act.put, List.setIfInBounds_toArray, List.set_cons_zero, List.set_cons_succ])
  refine wpAnyH_take (i := 10) (v := ?_) rfl (by kernel_rfl) (by kernel_rfl) (by kernel_rfl) (fun _ _ _ h => h) (Or.inl ⟨by kernel_rfl, ?_⟩) (by assumption) ?_
  rotate_left
  · (intro wS hSw; (try dsimp only at hSw); go_simp; (try with_reducible rfl))
  (try simp only [Act.put, List.setIfInBounds_toArray, List.set_cons_zero, List.set_cons_succ])
  refine wpAnyH_take (i := 11) (v := ?_) rfl (by kernel_rfl) (by kernel_rfl) (by kernel_rfl) (fun _ _ _ h => h) (Or.inl ⟨by kernel_rfl, ?_⟩) (by assumption) ?_
  rotate_left
  · (intro wS hSw; (try dsimp only at hSw); go_simp; (try with_reducible rfl))
  (try simp only [Act.put, List.setIfInBounds_toArray, List.set_cons_zero, List.set_cons_succ])
  refine wpAnyH_take (i := 12) (v := ?_) rfl (by kernel_rfl) (by kernel_rfl) (by kernel_rfl) (fun _ _ _ h => h) (Or.inl ⟨by kernel_rfl, ?_⟩) (by assumption) ?_
  rotate_left
  · (intro wS hSw; (try dsimp only at hSw); go_simp; (try with_reducible rfl))
  (try simp only [Act.put, List.setIfInBounds_toArray, List.set_cons_zero, List.set_cons_succ])
  refine wpAnyH_ready (rs := [13]) (by kernel_rfl) (by simp) ?_
  refine AllReadyH.cons rfl (fun K hK => ?_) AllReadyH.nil
  rw [if_pos (by kernel_rfl)]
  go_simp
  go_at_call 20
  refine (HC2.out _).mono ?_
  rintro e w3 ⟨hq3, rfl⟩
  dsimp only
  have p0 := (hq3.cell (p := ⟨w.heap.size + 3, 0, none⟩) (show w.heap.size + 3 < w2.heap.size by omega)).trans hHeld2.1
  have p1 := (hq3.cell (p := ⟨w.heap.size + 3, 1, none⟩) (show w.heap.size + 3 < w2.heap.size by omega)).trans hHeld2.2.1
  have p2 := (hq3.cell (p := ⟨w.heap.size + 1, 0, none⟩) (show w.heap.size + 1 < w2.heap.size by omega)).trans hHeld2.2.2.1
  have p3 := (hq3.cell (p := ⟨w.heap.size + 2, 0, none⟩) (show w.heap.size + 2 < w2.heap.size by omega)).trans hHeld2.2.2.2.1
  have p4 := (hq3.cell (p := ⟨bt, ot + n, none⟩) (show bt < w2.heap.size by omega)).trans hHeld2.2.2.2.2.1
  have p5 := (hq3.cell (p := ⟨br, orr + s0 * 2, none⟩) (show br < w2.heap.size by omega)).trans hHeld2.2.2.2.2.2.1
  have p6 := (hq3.cell (p := ⟨br, orr + s0 * 2 + 1, none⟩) (show br < w2.heap.size by omega)).trans hHeld2.2.2.2.2.2.2
  refine hK.out _ _ ⟨p0, p1, p2, p3, p4, p5, p6⟩ (fun hHeld3 => ?_)
  clear hK K hHeld2
  (try simp only [Act.put, List.setIfInBounds_toArray, List.set_cons_zero, List.set_cons_succ])
  have hbB := HB2.out.trans (hq3.mono HB2.out.size)
  have k1 := BG2.out.keep hq3
  have k2 := BT2.out.keep hq3
  have k3 := BS2.out.keep hq3
  have k4 := BA2.out.keep hq3
  have hl3 : w.heap.size + 3 < w3.heap.size := k4.lt
  have HB3 := Lib.hid hbB; clear hbB
  have BG3 := Lib.hid k1; clear k1
  have BT3 := Lib.hid k2; clear k2
  have BS3 := Lib.hid k3; clear k3
  have BA3 := Lib.hid k4; clear k4
  clear hq3 q0 q1 q2 q3 q4 q5 q6 p0 p1 p2 p3 p4 p5 p6
  refine wpAnyH_take (i := 14) (v := ?_) rfl (by kernel_rfl) (by kernel_rfl) (by kernel_rfl) (fun _ _ _ h => h) (Or.inl ⟨by kernel_rfl, ?_⟩) (by assumption) ?_
  rotate_left
  · (intro wS hSw; (try dsimp only at hSw); go_simp; (try with_reducible rfl))
  (try simp only [Act.put, List.setIfInBounds_toArray, List.set_cons_zero, List.set_cons_succ])
  refine wpAnyH_take (i := 15) (v := ?_) rfl (by kernel_rfl) (by kernel_rfl) (by kernel_rfl) (fun _ _ _ h => h) (Or.inl ⟨by rfl, ?_⟩) (by assumption) ?_
  rotate_left
  · (intro wS hSw; (try dsimp only at hSw); go_simp; (try with_reducible rfl))
  (try simp only [Act.put, List.setIfInBounds_toArray, List.set_cons_zero, List.set_cons_succ])
  refine wpAnyH_done (by kernel_rfl) ?_ _
  (try simp only [List.getElem_toArray, List.getElem_cons_zero, List.getElem_cons_succ, Act.put, List.setIfInBounds_toArray, List.set_cons_zero, List.set_cons_succ])
  refine NoPanic.normal ?_
  clear hHeld3
  gi_wp2
  refine leaves_marks w.heap.size (fun W => Below w.heap.size w W) (fun W D hB hk hD => hk.grown (grownBy_putObj' W D _) (by have := hk.size; omega) (fun j' e' => by cases e'; omega)) (fun W hk => ?hfin) [] _ HB3.out (by simp) (by simp) (by simp)
  case hfin =>
    refine ⟨_, ?_, hk, rfl⟩
    simp [results, Try.results61, go_sem]
end Go.Proofs.Ytalipfnbpnkgnaa

/- enumerative.Unrank at numbers that are too great (the text of XEUnr, changed by gen_eunro.py). -/
namespace Go.Proofs.Ytalipfnbpnkgnaa
open Go.RowKit

set_option maxRecDepth 100000 in
set_option maxHeartbeats 3200000 in
theorem eunr_big (L : Int) (S s0 n : Nat) (a0 : Int) (es : List E3) (v : Value) (w : World) (hr : Row w v es.length (ce es)) (hok : okEs es) (hE : eck L (S : Int) es = 0) (hs0 : s0 < S) (hn : n ≤ 4096) (sA : small a0) (ha0 : 0 ≤ a0) (ha1 : cw es allP n (s0 : Int) ≤ a0) :
    Calls Try.prog 28 #[.agg #[.int .i64 L, .int .i64 (S : Int), v], .int .i64 (s0 : Int), .int .i64 (n : Int), .agg #[.bool (ineg a0), .string (imag a0)]] w (Ret w (.tuple #[.string ⟨#[]⟩, .int .i64 2])) := by
  obtain ⟨va, vc, rfl, hle⟩ := hr.slice
  obtain ⟨mm, hmm⟩ : ∃ mm, mm = es.length := ⟨_, rfl⟩
  have hz := eck_zero hE
  have hca := chk_all hz.1
  have s0'' := ((Below.refl w.heap.size w).alloc (Nat.le_refl _) (.cells #[.int .i64 L, .int .i64 (S : Int), .slice va es.length vc] 24)).alloc (by simp) (.cells #[.bool (ineg a0), .string (imag a0)] 26)
  have b0 := (Blk.new w 24 [.int .i64 L, .int .i64 (S : Int), .slice va es.length vc]).alloc (.cells #[.bool (ineg a0), .string (imag a0)] 26)
  have b1 := Blk.new (w.alloc (.cells #[.int .i64 L, .int .i64 (S : Int), .slice va es.length vc] 24)) 26 [.bool (ineg a0), .string (imag a0)]
  simp only [World.size_alloc] at b1
  have hr0 := hr.below s0'' (Nat.le_refl _)
  have hck := echeck_any L (S : Int) es _ _ hr0 hok
  have hel := fun w' => elen_any L (S : Int) (s0 : Int) (n : Int) (.slice va es.length vc) w'
  have hic := fun w' => icheck_any (ineg a0) (imag a0) w' sA
  rw [hE] at hck
  rw [elen_zero2 hs0 hn] at hel
  have hch : chkZ (cnB (ineg a0) (imag a0)) = 0 := by rw [cnB_canon]; rfl
  rw [hch] at hic
  have htab := fun w' (h : Row w' (.slice va es.length vc) es.length (ce es)) => table_any L S n es (.slice va es.length vc) 70 #[] allP w' h (by omega) hn (by omega) (chk_inS hz.1) (fun args w => enters_of Try.func70 (by kernel_rfl) rfl args w) (fun s w' _ _ => every_any _ _)
  have hun := fun w' tv (h : Row w' (.slice va es.length vc) es.length (ce es)) (ht : Tab w' tv (tabL es S allP n)) => callsIn_wide.1 (unrank_big L S s0 n a0 es (.slice va es.length vc) tv allP w' h ht (by omega) (by omega) (chk_inS hz.1) (chk_lab hz.1 hz.2.1) hs0 hn sA ha0 ha1)
  rw [← hmm] at s0'' b0 b1 hr0 hck hle hel htab hun
  have HMM := Lib.hid hmm; clear hmm
  have HCK := Lib.hid hck; clear hck
  have HEL := Lib.hid hel; clear hel
  have HIC := Lib.hid hic; clear hic
  have HTAB := Lib.hid htab; clear htab
  have HUN := Lib.hid hun; clear hun
  have S0 := Lib.hid s0''; clear s0''
  have B0 := Lib.hid b0; clear b0
  have B1 := Lib.hid b1; clear b1
  have HR := Lib.hid hr0; clear hr0
  clear hr hok hE hz hca sA ha0 ha1
  go_enter Try.func28, Try.ntmps28
  rw [← HMM.out]
  go_wp2_with fail
  go_at_call 33
  refine HCK.out.mono ?_
  rintro e w1 ⟨hq1, rfl⟩
  have s1 := S0.out.trans (hq1.mono S0.out.size)
  have hr1 := HR.out.below hq1 (Nat.le_refl _)
  have tk := B0.out.keep hq1; have x0 := tk.cell (j := 0) rfl; have x1 := tk.cell (j := 1) rfl; have x2 := tk.cell (j := 2) rfl; have C0 := Lib.hid tk; clear tk
  have tk := B1.out.keep hq1; have y0 := tk.cell (j := 0) rfl; have y1 := tk.cell (j := 1) rfl; have C1 := Lib.hid tk; clear tk
  have S1 := Lib.hid s1; clear s1
  have HR1 := Lib.hid hr1; clear hr1
  clear hq1
  go_wp2_with fail
  go_at_call 69
  refine (HEL.out _).mono ?_
  rintro e w2 ⟨hq1, rfl⟩
  have s1 := S1.out.trans (hq1.mono S1.out.size)
  have hr1 := HR1.out.below hq1 (Nat.le_refl _)
  clear x0 x1 x2 y0 y1
  have tk := C0.out.keep hq1; have x0 := tk.cell (j := 0) rfl; have x1 := tk.cell (j := 1) rfl; have x2 := tk.cell (j := 2) rfl; have D0 := Lib.hid tk; clear tk
  have tk := C1.out.keep hq1; have y0 := tk.cell (j := 0) rfl; have y1 := tk.cell (j := 1) rfl; have D1 := Lib.hid tk; clear tk
  have S2 := Lib.hid s1; clear s1
  have HR2 := Lib.hid hr1; clear hr1
  clear hq1
  go_wp2_with fail
  go_at_call 34
  refine (HIC.out _).mono ?_
  rintro e w3 ⟨hq1, rfl⟩
  have s1 := S2.out.trans (hq1.mono S2.out.size)
  have hr1 := HR2.out.below hq1 (Nat.le_refl _)
  clear x0 x1 x2 y0 y1
  have tk := D0.out.keep hq1; have x0 := tk.cell (j := 0) rfl; have x1 := tk.cell (j := 1) rfl; have x2 := tk.cell (j := 2) rfl; have E0 := Lib.hid tk; clear tk
  have tk := D1.out.keep hq1; have y0 := tk.cell (j := 0) rfl; have y1 := tk.cell (j := 1) rfl; have E1 := Lib.hid tk; clear tk
  have S3 := Lib.hid s1; clear s1
  have HR3 := Lib.hid hr1; clear hr1
  clear hq1
  have hw3 : w.heap.size + 1 < w3.heap.size := E1.out.lt
  go_wp2_with fail
  refine wp_region_held_drew (S := fun w' => w'.cell? ⟨w.heap.size, 0, none⟩ = some (.int .i64 L) ∧ w'.cell? ⟨w.heap.size, 1, none⟩ = some (.int .i64 (S : Int)) ∧ w'.cell? ⟨w.heap.size, 2, none⟩ = some (.slice va mm vc) ∧ w'.cell? ⟨w.heap.size + 1, 0, none⟩ = some (.bool (ineg a0)) ∧ w'.cell? ⟨w.heap.size + 1, 1, none⟩ = some (.string (imag a0))) (by kernel_rfl) ?_ (fun hHeld => ?_)
  · go_keep
  refine wpAnyH_take (i := 0) (v := ?_) rfl (by kernel_rfl) (by kernel_rfl) (by kernel_rfl) (fun _ _ _ h => h) (Or.inl ⟨by rfl, ?_⟩) (by assumption) ?_
  rotate_left
  · (intro wS hSw; (try dsimp only at hSw); go_simp; (try with_reducible rfl))
  (try simp only [Act.put, List.setIfInBounds_toArray, List.set_cons_zero, List.set_cons_succ])
  refine wpAnyH_take (i := 1) (v := ?_) rfl (by kernel_rfl) (by kernel_rfl) (by kernel_rfl) (fun _ _ _ h => h) (Or.inl ⟨by rfl, ?_⟩) (by assumption) ?_
  rotate_left
  · (intro wS hSw; (try dsimp only at hSw); go_simp; (try with_reducible rfl))
  (try simp only [Act.put, List.setIfInBounds_toArray, List.set_cons_zero, List.set_cons_succ])
  refine wpAnyH_take (i := 2) (v := ?_) rfl (by kernel_rfl) (by kernel_rfl) (by kernel_rfl) (fun _ _ _ h => h) (Or.inl ⟨by rfl, ?_⟩) (by assumption) ?_
  rotate_left
  · (intro wS hSw; (try dsimp only at hSw); go_simp; (try with_reducible rfl))
  (try simp only [Act.put, List.setIfInBounds_toArray, List.set_cons_zero, List.set_cons_succ])
  refine wpAnyH_take (i := 4) (v := ?_) rfl (by kernel_rfl) (by kernel_rfl) (by kernel_rfl) (fun _ _ _ h => h) (Or.inl ⟨by rfl, ?_⟩) (by assumption) ?_
  rotate_left
  · (intro wS hSw; (try dsimp only at hSw); go_simp; (try with_reducible rfl))
  (try simp only [Act.put, List.setIfInBounds_toArray, List.set_cons_zero, List.set_cons_succ])
  refine wpAnyH_take (i := 5) (v := ?_) rfl (by kernel_rfl) (by kernel_rfl) (by kernel_rfl) (fun _ _ _ h => h) (Or.inl ⟨by rfl, ?_⟩) (by assumption) ?_
  rotate_left
  · (intro wS hSw; (try dsimp only at hSw); go_simp; (try with_reducible rfl))
  (try simp only [Act.put, List.setIfInBounds_toArray, List.set_cons_zero, List.set_cons_succ])
  refine wpAnyH_take (i := 6) (v := ?_) rfl (by kernel_rfl) (by kernel_rfl) (by kernel_rfl) (fun _ _ _ h => h) (Or.inl ⟨by rfl, ?_⟩) (by assumption) ?_
  rotate_left
  · (intro wS hSw; (try dsimp only at hSw); go_simp; (try with_reducible rfl))
  (try simp only [Act.put, List.setIfInBounds_toArray, List.set_cons_zero, List.set_cons_succ])
  refine wpAnyH_ready (rs := [3]) (by kernel_rfl) (by simp) ?_
  refine AllReadyH.cons rfl (fun K hK => ?_) AllReadyH.nil
  go_simp
  go_at_call 59
  refine (HTAB.out _ HR3.out.drew).mono ?_
  rintro e w4 ⟨hq, tv, rfl, htb⟩
  dsimp only
  have z0 := (hq.cell (p := ⟨w.heap.size, 0, none⟩) (show w.heap.size < w3.heap.size by omega)).trans hHeld.1
  have z1 := (hq.cell (p := ⟨w.heap.size, 1, none⟩) (show w.heap.size < w3.heap.size by omega)).trans hHeld.2.1
  have z2 := (hq.cell (p := ⟨w.heap.size, 2, none⟩) (show w.heap.size < w3.heap.size by omega)).trans hHeld.2.2.1
  have z3 := (hq.cell (p := ⟨w.heap.size + 1, 0, none⟩) (show w.heap.size + 1 < w3.heap.size by omega)).trans hHeld.2.2.2.1
  have z4 := (hq.cell (p := ⟨w.heap.size + 1, 1, none⟩) (show w.heap.size + 1 < w3.heap.size by omega)).trans hHeld.2.2.2.2
  refine hK.out _ _ ⟨z0, z1, z2, z3, z4⟩ (fun hHeld2 => ?_)
  clear hK K
  (try simp only [Act.put, List.setIfInBounds_toArray, List.set_cons_zero, List.set_cons_succ])
  have s4 := S3.out.drew.trans (hq.mono S3.out.size)
  have hr4 := HR3.out.drew.below hq (Nat.le_refl _)
  have ht4 := htb.tab
  have hw4 : w.heap.size + 1 < w4.heap.size := Nat.lt_of_lt_of_le hw3 hq.size
  have S4 := Lib.hid s4; clear s4
  have HR4 := Lib.hid hr4; clear hr4
  have HT4 := Lib.hid ht4; clear ht4
  clear hq htb x0 x1 x2 y0 y1 hHeld
  refine wpAnyH_ready (rs := [7]) (by kernel_rfl) (by simp) ?_
  refine AllReadyH.cons rfl (fun K hK => ?_) AllReadyH.nil
  go_simp
  go_at_call 61
  refine (HUN.out _ _ HR4.out HT4.out).mono ?_
  rintro e w5 ⟨hq, rfl⟩
  dsimp only
  have p0 := (hq.cell (p := ⟨w.heap.size, 0, none⟩) (show w.heap.size < w4.heap.size by omega)).trans z0
  have p1 := (hq.cell (p := ⟨w.heap.size, 1, none⟩) (show w.heap.size < w4.heap.size by omega)).trans z1
  have p2 := (hq.cell (p := ⟨w.heap.size, 2, none⟩) (show w.heap.size < w4.heap.size by omega)).trans z2
  have p3 := (hq.cell (p := ⟨w.heap.size + 1, 0, none⟩) (show w.heap.size + 1 < w4.heap.size by omega)).trans z3
  have p4 := (hq.cell (p := ⟨w.heap.size + 1, 1, none⟩) (show w.heap.size + 1 < w4.heap.size by omega)).trans z4
  refine hK.out _ _ ⟨p0, p1, p2, p3, p4⟩ (fun hHeld3 => ?_)
  clear hK K hHeld2
  (try simp only [Act.put, List.setIfInBounds_toArray, List.set_cons_zero, List.set_cons_succ])
  have s5 := S4.out.trans (hq.mono S4.out.size)
  have S5 := Lib.hid s5; clear s5
  clear hq z0 z1 z2 z3 z4 p0 p1 p2 p3 p4
  refine wpAnyH_take (i := 8) (v := ?_) rfl (by kernel_rfl) (by kernel_rfl) (by kernel_rfl) (fun _ _ _ h => h) (Or.inl ⟨by rfl, ?_⟩) (by assumption) ?_
  rotate_left
  · (intro wS hSw; (try dsimp only at hSw); go_simp; (try with_reducible rfl))
  (try simp only [Act.put, List.setIfInBounds_toArray, List.set_cons_zero, List.set_cons_succ])
  refine wpAnyH_take (i := 9) (v := ?_) rfl (by kernel_rfl) (by kernel_rfl) (by kernel_rfl) (fun _ _ _ h => h) (Or.inl ⟨by rfl, ?_⟩) (by assumption) ?_
  rotate_left
  · (intro wS hSw; (try dsimp only at hSw); go_simp; (try with_reducible rfl))
  (try simp only [Act.put, List.setIfInBounds_toArray, List.set_cons_zero, List.set_cons_succ])
  refine wpAnyH_take (i := 10) (v := ?_) rfl (by kernel_rfl) (by kernel_rfl) (by kernel_rfl) (fun _ _ _ h => h) (Or.inl ⟨by rfl, ?_⟩) (by assumption) ?_
  rotate_left
  · (intro wS hSw; (try dsimp only at hSw); go_simp; (try with_reducible rfl))
  (try simp only [Act.put, List.setIfInBounds_toArray, List.set_cons_zero, List.set_cons_succ])
  refine wpAnyH_take (i := 11) (v := ?_) rfl (by kernel_rfl) (by kernel_rfl) (by kernel_rfl) (fun _ _ _ h => h) (Or.inl ⟨by rfl, ?_⟩) (by assumption) ?_
  rotate_left
  · (intro wS hSw; (try dsimp only at hSw); go_simp; (try with_reducible rfl))
  (try simp only [Act.put, List.setIfInBounds_toArray, List.set_cons_zero, List.set_cons_succ])
  refine wpAnyH_take (i := 12) (v := ?_) rfl (by kernel_rfl) (by kernel_rfl) (by kernel_rfl) (fun _ _ _ h => h) (Or.inl ⟨by rfl, ?_⟩) (by assumption) ?_
  rotate_left
  · (intro wS hSw; (try dsimp only at hSw); go_simp; (try with_reducible rfl))
  (try simp only [Act.put, List.setIfInBounds_toArray, List.set_cons_zero, List.set_cons_succ])
  refine wpAnyH_take (i := 13) (v := ?_) rfl (by kernel_rfl) (by kernel_rfl) (by kernel_rfl) (fun _ _ _ h => h) (Or.inl ⟨by rfl, ?_⟩) (by assumption) ?_
  rotate_left
  · (intro wS hSw; (try dsimp only at hSw); go_simp; (try with_reducible rfl))
  (try simp only [Act.put, List.setIfInBounds_toArray, List.set_cons_zero, List.set_cons_succ])
  refine wpAnyH_take (i := 14) (v := ?_) rfl (by kernel_rfl) (by kernel_rfl) (by kernel_rfl) (fun _ _ _ h => h) (Or.inl ⟨by rfl, ?_⟩) (by assumption) ?_
  rotate_left
  · (intro wS hSw; (try dsimp only at hSw); go_simp; (try with_reducible rfl))
  (try simp only [Act.put, List.setIfInBounds_toArray, List.set_cons_zero, List.set_cons_succ])
  refine wpAnyH_done (by kernel_rfl) ?_ _
  (try simp only [List.getElem_toArray, List.getElem_cons_zero, List.getElem_cons_succ, Act.put, List.setIfInBounds_toArray, List.set_cons_zero, List.set_cons_succ])
  clear hHeld3
  go_wp2_with fail
  go_ret2
  exact ⟨S5.out, rfl⟩
end Go.Proofs.Ytalipfnbpnkgnaa

/- counting.count: the table's rows, along edges that a function turns. -/
namespace Go.Proofs.Ytalipfnbpnkgnaa
open Go.RowKit

def CntRet (S : Nat) (l : List Int) (w : World) (e : Ending) (w' : World) : Prop := Below w.heap.size w w' ∧ ∃ b, e = .returned (.slice (some ⟨b, 0, none⟩) S S) ∧ Blk w' b 26 (civ l)
set_option maxRecDepth 100000 in
set_option maxHeartbeats 8000000 in
theorem count_any (L : Int) (S n bl : Nat) (es : List E3) (v : Value) (F : Nat) (sw : E3 → E3) (p : Int → Bool) (w : World) (hr : Row w v es.length (ce es)) (hS : S ≤ 64) (hn : n ≤ 4096) (hl : es.length ≤ 1024) (hin : InS S (es.map sw))
    (hent : ∀ args w, (callFunc F args).run Try.prog w = .ok (.enter F args) w)
    (hal : ∀ (e : E3) (w' : World), Calls Try.prog F #[.agg #[.int .i64 e.f, .int .i64 e.l, .int .i64 e.t]] w' (Ret w' (.tuple #[.int .i64 (sw e).t, .int .i64 (sw e).f])))
    (hb : Blk w bl 26 (civ (rowK (es.map sw) S p 0))) :
    Calls Try.prog 91 #[.agg #[.int .i64 L, .int .i64 (S : Int), v], .slice (some ⟨bl, 0, none⟩) S S, .int .i64 (n : Int), .func (.func F) #[] #[]] w (CntRet S (rowK (es.map sw) S p n) w) := by
  obtain ⟨va, vc, rfl, hle⟩ := hr.slice
  obtain ⟨m, hm⟩ : ∃ m, m = es.length := ⟨_, rfl⟩
  obtain ⟨es', hes⟩ : ∃ es', es' = es.map sw := ⟨_, rfl⟩
  have hes' : ∀ (q : Nat) (e : E3), es[q]? = some e → es'[q]? = some (sw e) := fun q e h => by rw [hes, List.getElem?_map, h]; rfl
  have hel : es'.length = m := by rw [hes, List.length_map, hm]
  rw [← hes] at hin hb ⊢
  rw [← hm] at hr hl hle ⊢
  have bg := Blk.new w 24 [.int .i64 L, .int .i64 (S : Int), .slice va m vc]
  have s0 := (Below.refl w.heap.size w).alloc (Nat.le_refl _) (.cells #[.int .i64 L, .int .i64 (S : Int), .slice va m vc] 24)
  have hb0 := hb.alloc (.cells #[.int .i64 L, .int .i64 (S : Int), .slice va m vc] 24)
  have hmk := mkI S (by omega) (S : Int) rfl
  have HR := Lib.hid hr; clear hr
  have BG := Lib.hid bg; clear bg
  have S0 := Lib.hid s0; clear s0
  have HM := Lib.hid hm; clear hm
  have HEL := Lib.hid hel; clear hel
  have HIN := Lib.hid hin; clear hin
  have HAL := Lib.hid hal; clear hal
  have HES := Lib.hid hes'; clear hes'
  have HB0 := Lib.hid hb0; clear hb0
  clear hes hb
  go_enter Try.func91, Try.ntmps91
  go_wp2_with fail
  go_loopw [1, 15] (fun u i wr => ∃ k b : Nat, k ≤ n ∧ i = .int .i64 k ∧ u = .slice (some ⟨b, 0, none⟩) S S ∧ Below (w.heap.size + 1) (w.alloc (.cells #[.int .i64 L, .int .i64 (S : Int), .slice va m vc] 24)) wr ∧ Blk wr b 26 (civ (rowK es' S p k))) (fun _ i _ => n - (intOf i).toNat)
  case atStart => exact ⟨0, bl, Nat.zero_le _, rfl, rfl, by have := Below.refl (w.heap.size + 1) (w.alloc (.cells #[.int .i64 L, .int .i64 (S : Int), .slice va m vc] 24)); exact this, HB0.out⟩
  case round =>
    obtain ⟨k, b, hk, rfl, rfl, hbel, hblk⟩ := hrel
    obtain ⟨wq, rfl⟩ : ∃ wq : World, wq = wr := ⟨_, rfl⟩
    have hszq := hbel.size
    have hsq : w.heap.size < wq.heap.size := by simp at hszq; omega
    have hbg := BG.out.below hbel (by omega)
    have hbw0 : Below w.heap.size w wq := S0.out.trans (hbel.mono (by omega))
    have hbb := hblk.lt
    have HB2 := Lib.hid hbel; clear hbel
    have HBG := Lib.hid hbg; clear hbg
    have HBW0 := Lib.hid hbw0; clear hbw0
    have HBK := Lib.hid hblk; clear hblk
    by_cases hlt2 : k < n
    · have g2 := (below_new wq (.cells (zarr (.agg #[.bool false, .string ⟨#[]⟩]) S) 26) hsq 2).trans (HBG.out.cell (j := 2) rfl)
      go_wp2_with fail
      clear g2
      go_loopw [23] (fun i wr => ∃ q : Nat, q ≤ m ∧ i = .int .i64 q ∧ Below wq.heap.size wq wr ∧ Blk wr wq.heap.size 26 (civ (rowP es' S p k q))) (fun i _ => m - (intOf i).toNat)
      case atStart => exact ⟨0, Nat.zero_le _, rfl, (Below.refl _ _).alloc (Nat.le_refl _) _, by rw [rowP_zero]; exact blk_mkI wq S⟩
      case round =>
        obtain ⟨q, hq, rfl, hbel, hblk⟩ := hrel
        have HB3 := Lib.hid hbel; clear hbel
        have hs3 : wq.heap.size < wr.heap.size := hblk.lt
        by_cases hlt3 : q < m
        · have ge0 : es[q]? = some (es[q]'(by rw [← HM.out]; exact hlt3)) := List.getElem?_eq_getElem _
          obtain ⟨e, hedef⟩ : ∃ e, e = es[q]'(by rw [← HM.out]; exact hlt3) := ⟨_, rfl⟩
          rw [← hedef] at ge0
          have ge := HES.out q e ge0
          obtain ⟨hf0, hf1, ht0, ht1⟩ := HIN.out (sw e) (List.mem_of_getElem? ge)
          clear hedef
          obtain ⟨f, hf⟩ : ∃ f : Nat, (sw e).f = f := ⟨(sw e).f.toNat, by omega⟩
          obtain ⟨t, ht⟩ : ∃ t : Nat, (sw e).t = t := ⟨(sw e).t.toNat, by omega⟩
          have hfS : f < S := by omega
          have htS : t < S := by omega
          obtain ⟨b', off, rfl, hbw, hce⟩ := HR.out.at_ (by omega)
          have hb3 : Below w.heap.size w wr := HBW0.out.trans (HB3.out.mono (by omega))
          obtain ⟨q0, q1, q2⟩ := edge_cells hce hb3 hbw ge0
          have hcall := HAL.out e (wr.alloc (.cells #[.int .i64 e.f, .int .i64 e.l, .int .i64 e.t] 110))
          rw [hf, ht] at hcall
          have hbkr := HBK.out.keep HB3.out
          have gx : (rowP es' S p k q)[f]? = some ((rowP es' S p k q)[f]'(by rw [rowP_length]; exact hfS)) := List.getElem?_eq_getElem _
          obtain ⟨X, hX⟩ : ∃ X, X = (rowP es' S p k q)[f]'(by rw [rowP_length]; exact hfS) := ⟨_, rfl⟩
          rw [← hX] at gx
          have gy : (rowK es' S p k)[t]? = some (cw es' p k (t : Int)) := rowK_get htS
          obtain ⟨Y, hY⟩ : ∃ Y, Y = cw es' p k (t : Int) := ⟨_, rfl⟩
          have sY : small Y := by rw [hY]; exact cw_small (by rw [HEL.out]; omega) p k (by omega) _
          have sX : small X := rowP_small (by rw [HEL.out]; omega) S p k q (by omega) gx
          rw [← hY] at gy
          have hsucc := rowP_succ ge hf ht hfS htS gx gy
          clear hX hY ge ge0 hf ht hf0 hf1 ht0 ht1
          have hadd := fun w' => iadd_any (ineg X) (ineg Y) (imag X) (imag Y) w' sX sY
          simp only [ival_canon] at hadd
          obtain ⟨ef, hef⟩ : ∃ x, x = e.f := ⟨_, rfl⟩
          obtain ⟨el, hel⟩ : ∃ x, x = e.l := ⟨_, rfl⟩
          obtain ⟨et, het⟩ : ∃ x, x = e.t := ⟨_, rfl⟩
          rw [← hef] at q0 hcall
          rw [← hel] at q1 hcall
          rw [← het] at q2 hcall
          clear hce hef hel het
          have hx := Blk.new wr 110 [.int .i64 ef, .int .i64 el, .int .i64 et]
          have x0 := hx.cell (j := 0) rfl
          have x1 := hx.cell (j := 1) rfl
          have x2 := hx.cell (j := 2) rfl
          have hnow := hblk.alloc (.cells #[.int .i64 ef, .int .i64 el, .int .i64 et] 110)
          have hbk3 := hbkr.alloc (.cells #[.int .i64 ef, .int .i64 el, .int .i64 et] 110)
          have hbl3 : b < wq.heap.size := hbb
          have HNOW := Lib.hid hnow; clear hnow
          have HBK3 := Lib.hid hbk3; clear hbk3
          have HCALL := Lib.hid hcall; clear hcall
          have HADD := Lib.hid hadd; clear hadd
          have HSU := Lib.hid hsucc; clear hsucc
          have GX := Lib.hid gx; clear gx
          have GY := Lib.hid gy; clear gy
          clear hblk hbkr sX sY hb3 hx
          go_wp2_with fail
          refine HCALL.out.mono ?_
          rintro e' w2 ⟨hq2, rfl⟩
          have hn2 := HNOW.out.keep hq2
          have hb2 := HBK3.out.keep hq2
          have n0 := hn2.cell (civ_get GX.out).1
          have n1 := hn2.cell (civ_get GX.out).2
          have y0 := hb2.cell (civ_get GY.out).1
          have y1 := hb2.cell (civ_get GY.out).2
          have hw2 : wr.heap.size < w2.heap.size := by have := hq2.size; simp at this; omega
          have hix1 : (0 : Int) ≤ (f : Int) := by omega
          have hix2 : (f : Int) < (S : Int) := by omega
          have hix3 : (0 : Int) ≤ (t : Int) := by omega
          have hix4 : (t : Int) < (S : Int) := by omega
          have HN2 := Lib.hid hn2; clear hn2
          have HB2' := Lib.hid hb2; clear hb2
          have HQ2 := Lib.hid hq2; clear hq2
          clear x0 x1 x2 q0 q1 q2
          go_wp2_with fail
          refine wp_region_held_drew (S := fun w' => w'.cell? ⟨b, t * 2, none⟩ = some (.bool (ineg Y)) ∧ w'.cell? ⟨b, t * 2 + 1, none⟩ = some (.string (imag Y))) (by kernel_rfl) ?_ (fun hHeld => ?_)
          · go_keep
          refine wpAnyH_take (i := 0) (v := ?_) rfl (by kernel_rfl) (by kernel_rfl) (by kernel_rfl) (fun _ _ _ h => h) (Or.inl ⟨by rfl, ?_⟩) (by assumption) ?_
          rotate_left
          · (intro wS hSw; (try dsimp only at hSw); go_simp; (try with_reducible rfl))
          (try simp only [Act.put, List.setIfInBounds_toArray, List.set_cons_zero, List.set_cons_succ])
          refine wpAnyH_take (i := 1) (v := ?_) rfl (by kernel_rfl) (by kernel_rfl) (by kernel_rfl) (fun _ _ _ h => h) (Or.inl ⟨by rfl, ?_⟩) (by assumption) ?_
          rotate_left
          · (intro wS hSw; (try dsimp only at hSw); go_simp; (try with_reducible rfl))
          (try simp only [Act.put, List.setIfInBounds_toArray, List.set_cons_zero, List.set_cons_succ])
          refine wpAnyH_take (i := 2) (v := ?_) rfl (by kernel_rfl) (by kernel_rfl) (by kernel_rfl) (fun _ _ _ h => h) (Or.inl ⟨by rfl, ?_⟩) (by assumption) ?_
          rotate_left
          · (intro wS hSw; (try dsimp only at hSw); go_simp; (try with_reducible rfl))
          (try simp only [Act.put, List.setIfInBounds_toArray, List.set_cons_zero, List.set_cons_succ])
          refine wpAnyH_take (i := 3) (v := ?_) rfl (by kernel_rfl) (by kernel_rfl) (by kernel_rfl) (fun _ _ _ h => h) (Or.inl ⟨by rfl, ?_⟩) (by assumption) ?_
          rotate_left
          · (intro wS hSw; (try dsimp only at hSw); go_simp; (try with_reducible rfl))
          (try simp only [Act.put, List.setIfInBounds_toArray, List.set_cons_zero, List.set_cons_succ])
          refine wpAnyH_take (i := 4) (v := ?_) rfl (by kernel_rfl) (by kernel_rfl) (by kernel_rfl) (fun _ _ _ h => h) (Or.inl ⟨by rfl, ?_⟩) (by assumption) ?_
          rotate_left
          · (intro wS hSw; (try dsimp only at hSw); go_simp; (try with_reducible rfl))
          (try simp only [Act.put, List.setIfInBounds_toArray, List.set_cons_zero, List.set_cons_succ])
          refine wpAnyH_take (i := 6) (v := ?_) rfl (by kernel_rfl) (by kernel_rfl) (by kernel_rfl) (fun _ _ _ h => h) (Or.inl ⟨by rfl, ?_⟩) (by assumption) ?_
          rotate_left
          · (intro wS hSw; (try dsimp only at hSw); go_simp; (try with_reducible rfl))
          (try simp only [Act.put, List.setIfInBounds_toArray, List.set_cons_zero, List.set_cons_succ])
          refine wpAnyH_take (i := 7) (v := ?_) rfl (by kernel_rfl) (by kernel_rfl) (by kernel_rfl) (fun _ _ _ h => h) (Or.inl ⟨by rfl, ?_⟩) (by assumption) ?_
          rotate_left
          · (intro wS hSw; (try dsimp only at hSw); go_simp; (try with_reducible rfl))
          (try simp only [Act.put, List.setIfInBounds_toArray, List.set_cons_zero, List.set_cons_succ])
          refine wpAnyH_take (i := 8) (v := ?_) rfl (by kernel_rfl) (by kernel_rfl) (by kernel_rfl) (fun _ _ _ h => h) (Or.inl ⟨by rfl, ?_⟩) (by assumption) ?_
          rotate_left
          · (intro wS hSw; (try dsimp only at hSw); go_simp; (try with_reducible rfl))
          (try simp only [Act.put, List.setIfInBounds_toArray, List.set_cons_zero, List.set_cons_succ])
          refine wpAnyH_take (i := 9) (v := ?_) rfl (by kernel_rfl) (by kernel_rfl) (by kernel_rfl) (fun _ _ _ h => h) (Or.inl ⟨by rfl, ?_⟩) (by assumption) ?_
          rotate_left
          · (intro wS hSw; (try dsimp only at hSw); go_simp; (try with_reducible rfl))
          (try simp only [Act.put, List.setIfInBounds_toArray, List.set_cons_zero, List.set_cons_succ])
          refine wpAnyH_ready (rs := [5]) (by kernel_rfl) (by simp) ?_
          refine AllReadyH.cons rfl (fun K hK => ?_) AllReadyH.nil
          go_simp
          refine hK.out _ _ ?_ (fun hHeld => ?_)
          · ((try dsimp only); go_keep)
          clear hK K
          (try simp only [Act.put, List.setIfInBounds_toArray, List.set_cons_zero, List.set_cons_succ])
          refine wpAnyH_ready (rs := [10]) (by kernel_rfl) (by simp) ?_
          refine AllReadyH.cons rfl (fun K hK => ?_) AllReadyH.nil
          go_simp
          go_at_call 21
          refine (HADD.out _).mono ?_
          rintro e' w3 ⟨hq3, rfl⟩
          dsimp only
          have z3 := (hq3.cell (p := ⟨b, t * 2, none⟩) (show b < w2.heap.size by omega)).trans hHeld.1
          have z4 := (hq3.cell (p := ⟨b, t * 2 + 1, none⟩) (show b < w2.heap.size by omega)).trans hHeld.2
          refine hK.out _ _ ⟨z3, z4⟩ (fun hHeld2 => ?_)
          clear hK K n0 n1
          have hn3 := HN2.out.drew.keep hq3
          have u0 := hn3.cell (civ_get GX.out).1
          have u1 := hn3.cell (civ_get GX.out).2
          have v0 := hn3.frozen (f * 2)
          have v1 := hn3.frozen (f * 2 + 1)
          have hne1 : ¬ wq.heap.size = b := by omega
          have HN3 := Lib.hid hn3; clear hn3
          have HQ3 := Lib.hid hq3; clear hq3
          (try simp only [Act.put, List.setIfInBounds_toArray, List.set_cons_zero, List.set_cons_succ])
          refine wpAnyH_take (i := 11) (v := ?_) rfl (by kernel_rfl) (by kernel_rfl) (by kernel_rfl) (fun _ _ _ h => h) (Or.inl ⟨by rfl, ?_⟩) (by assumption) ?_
          rotate_left
          · (intro wS hSw; (try dsimp only at hSw); go_simp; (try with_reducible rfl))
          (try simp only [Act.put, List.setIfInBounds_toArray, List.set_cons_zero, List.set_cons_succ])
          refine wpAnyH_ready (rs := [12]) (by kernel_rfl) (by simp) ?_
          refine AllReadyH.cons rfl (fun K hK => ?_) AllReadyH.nil
          go_simp
          refine hK.out _ _ ?_ (fun hHeld => ?_)
          · ((try dsimp only); go_keep)
          clear hK K
          (try simp only [Act.put, List.setIfInBounds_toArray, List.set_cons_zero, List.set_cons_succ])
          refine wpAnyH_done (by kernel_rfl) ?_ _
          go_wp2_with fail
          go_roundw
          case rel =>
            have s1 := HB3.out.alloc (Nat.le_of_lt hs3) (.cells #[.int .i64 ef, .int .i64 el, .int .i64 et] 110)
            have s2 := (s1.trans (HQ2.out.mono s1.size)).drew
            have s3 := s2.trans (HQ3.out.mono s2.size)
            refine ⟨q + 1, by omega, by go_num, (s3.setCell (p := ⟨wq.heap.size, f * 2, none⟩) (Nat.le_refl _) _).setCell (p := ⟨wq.heap.size, f * 2 + 1, none⟩) (Nat.le_refl _) _, ?_⟩
            rw [← HSU.out, ← civ_set]
            exact (HN3.out.set _ _).set _ _
          case measure => simp [intOf]; omega
        · obtain rfl : q = m := by omega
          rw [← HEL.out, rowP_full] at hblk
          have HBN := Lib.hid hblk; clear hblk
          go_wp2_with fail
          go_roundw
          case rel =>
            have s1 := HB2.out.trans (HB3.out.mono (by omega))
            exact ⟨k + 1, wq.heap.size, by omega, by go_num, rfl, s1, HBN.out⟩
          case measure => simp [intOf]; omega
    · obtain rfl : k = n := by omega
      go_wp2_with fail
      go_ret
      exact ⟨HBW0.out, _, rfl, HBK.out⟩
end Go.Proofs.Ytalipfnbpnkgnaa

/- counting.Paths at valid graphs, states and lengths. -/
namespace Go.Proofs.Ytalipfnbpnkgnaa
open Go.RowKit

/-- An edge turned round. -/
def swp (e : E3) : E3 := ⟨e.t, e.l, e.f⟩
theorem swp_inS {S : Nat} {es : List E3} (h : InS S es) : InS S (es.map swp) := fun e he => by
  obtain ⟨x, hx, rfl⟩ := List.mem_map.1 he
  have := h x hx
  exact ⟨this.2.2.1, this.2.2.2, this.1, this.2.1⟩
/-- The number of paths of length n from s to t. -/
def pth (es : List E3) (n : Nat) (s t : Int) : Int := cw (es.map swp) (fun x => x == s) n t
theorem row_one (es : List E3) {S s : Nat} (hs : s < S) : (List.replicate S (0 : Int)).set s 1 = rowK es S (fun x => x == (s : Int)) 0 := by
  apply List.ext_getElem?
  intro i
  by_cases hi : i < S
  · rw [rowK_get hi]
    by_cases e : i = s
    · subst e
      rw [List.getElem?_set_self (by simpa using hi)]
      simp [cw]
    · rw [List.getElem?_set_ne (fun h => e h.symm), List.getElem?_replicate, if_pos hi]
      have : ¬ ((i : Int) = (s : Int)) := by omega
      simp [cw, this]
  · rw [List.getElem?_eq_none (by simp; omega), List.getElem?_eq_none (by rw [rowK_length]; omega)]
set_option maxRecDepth 100000 in
set_option maxHeartbeats 3200000 in
theorem paths1_any (e : E3) (w : World) :
    Calls Try.prog 92 #[.agg #[.int .i64 e.f, .int .i64 e.l, .int .i64 e.t]] w (Ret w (.tuple #[.int .i64 (swp e).t, .int .i64 (swp e).f])) := by
  have s0 := (Below.refl w.heap.size w).alloc (Nat.le_refl _) (.cells #[.int .i64 e.f, .int .i64 e.l, .int .i64 e.t] 110)
  have hx := Blk.new w 110 [.int .i64 e.f, .int .i64 e.l, .int .i64 e.t]
  have x0 := hx.cell (j := 0) rfl
  have x2 := hx.cell (j := 2) rfl
  have hs : (swp e).t = e.f ∧ (swp e).f = e.t := ⟨rfl, rfl⟩
  rw [hs.1, hs.2]
  have S0 := Lib.hid s0; clear s0
  clear hx hs
  go_enter Try.func92, Try.ntmps92
  go_wp2_with fail
  refine wp_region_held_drew (S := fun w' => w'.cell? ⟨w.heap.size, 0, none⟩ = some (.int .i64 e.f) ∧ w'.cell? ⟨w.heap.size, 2, none⟩ = some (.int .i64 e.t)) (by kernel_rfl) ?_ (fun hHeld => ?_)
  · go_keep
  refine wpAnyH_take (i := 0) (v := ?_) rfl (by kernel_rfl) (by kernel_rfl) (by kernel_rfl) (fun _ _ _ h => h) (Or.inl ⟨by rfl, ?_⟩) (by assumption) ?_
  rotate_left
  · (intro wS hSw; (try dsimp only at hSw); go_simp; (try with_reducible rfl))
  (try simp only [Act.put, List.setIfInBounds_toArray, List.set_cons_zero, List.set_cons_succ])
  refine wpAnyH_take (i := 1) (v := ?_) rfl (by kernel_rfl) (by kernel_rfl) (by kernel_rfl) (fun _ _ _ h => h) (Or.inl ⟨by rfl, ?_⟩) (by assumption) ?_
  rotate_left
  · (intro wS hSw; (try dsimp only at hSw); go_simp; (try with_reducible rfl))
  (try simp only [Act.put, List.setIfInBounds_toArray, List.set_cons_zero, List.set_cons_succ])
  refine wpAnyH_take (i := 2) (v := ?_) rfl (by kernel_rfl) (by kernel_rfl) (by kernel_rfl) (fun _ _ _ h => h) (Or.inl ⟨by rfl, ?_⟩) (by assumption) ?_
  rotate_left
  · (intro wS hSw; (try dsimp only at hSw); go_simp; (try with_reducible rfl))
  (try simp only [Act.put, List.setIfInBounds_toArray, List.set_cons_zero, List.set_cons_succ])
  refine wpAnyH_take (i := 3) (v := ?_) rfl (by kernel_rfl) (by kernel_rfl) (by kernel_rfl) (fun _ _ _ h => h) (Or.inl ⟨by rfl, ?_⟩) (by assumption) ?_
  rotate_left
  · (intro wS hSw; (try dsimp only at hSw); go_simp; (try with_reducible rfl))
  (try simp only [Act.put, List.setIfInBounds_toArray, List.set_cons_zero, List.set_cons_succ])
  refine wpAnyH_take (i := 4) (v := ?_) rfl (by kernel_rfl) (by kernel_rfl) (by kernel_rfl) (fun _ _ _ h => h) (Or.inl ⟨by rfl, ?_⟩) (by assumption) ?_
  rotate_left
  · (intro wS hSw; (try dsimp only at hSw); go_simp; (try with_reducible rfl))
  (try simp only [Act.put, List.setIfInBounds_toArray, List.set_cons_zero, List.set_cons_succ])
  refine wpAnyH_take (i := 5) (v := ?_) rfl (by kernel_rfl) (by kernel_rfl) (by kernel_rfl) (fun _ _ _ h => h) (Or.inl ⟨by rfl, ?_⟩) (by assumption) ?_
  rotate_left
  · (intro wS hSw; (try dsimp only at hSw); go_simp; (try with_reducible rfl))
  (try simp only [Act.put, List.setIfInBounds_toArray, List.set_cons_zero, List.set_cons_succ])
  refine wpAnyH_done (by kernel_rfl) ?_ _
  (try simp only [List.getElem_toArray, List.getElem_cons_zero, List.getElem_cons_succ, Act.put, List.setIfInBounds_toArray, List.set_cons_zero, List.set_cons_succ])
  go_wp2_with fail
  go_ret2
  exact ⟨S0.out.drew, rfl⟩
set_option maxRecDepth 100000 in
set_option maxHeartbeats 3200000 in
theorem ccheck_ok0 (L S : Int) (n : Nat) (es : List E3) (v : Value) (w : World) (hr : Row w v es.length (ce es)) (hok : okEs es) (hc : chk L S es = 0) (hn : n ≤ 4096) :
    Calls Try.prog 67 #[.agg #[.int .i64 L, .int .i64 S, v], .int .i64 0, .int .i64 (n : Int)] w (Ret w (.int .i64 0)) := by
  have s0 := (Below.refl w.heap.size w).alloc (Nat.le_refl _) (.cells #[.int .i64 L, .int .i64 S, v] 24)
  have hck := check_any L S es v _ (hr.below s0 (Nat.le_refl _)) hok
  rw [hc] at hck
  have t1 : decide ((n : Int) < 0) = false := decide_eq_false (by omega)
  have t2 : decide (4096 < (n : Int)) = false := decide_eq_false (by omega)
  have b0 := Blk.new w 24 [.int .i64 L, .int .i64 S, v]
  have x0 := b0.cell (j := 0) rfl
  have x1 := b0.cell (j := 1) rfl
  have x2 := b0.cell (j := 2) rfl
  have HCK := Lib.hid hck; clear hck
  have S0 := Lib.hid s0; clear s0
  clear hr hok hc b0
  go_enter Try.func67, Try.ntmps67
  go_wp2_with fail
  go_at_call 86
  refine HCK.out.mono ?_
  rintro e w1 ⟨hq, rfl⟩
  have HQ := Lib.hid hq; clear hq
  go_wp2_with fail
  go_ret
  exact ⟨S0.out.trans (HQ.out.mono S0.out.size), rfl⟩
set_option maxRecDepth 100000 in
set_option maxHeartbeats 3200000 in
theorem paths_ok (L : Int) (S s t n : Nat) (es : List E3) (v : Value) (w : World) (hr : Row w v es.length (ce es)) (hok : okEs es) (hc : chk L (S : Int) es = 0) (hs : s < S) (ht : t < S) (hn : n ≤ 4096) :
    Calls Try.prog 54 #[.agg #[.int .i64 L, .int .i64 (S : Int), v], .int .i64 (s : Int), .int .i64 (t : Int), .int .i64 (n : Int)] w (Ret w (.tuple #[IntV (pth es n (s : Int) (t : Int)), .int .i64 0])) := by
  obtain ⟨va, vc, rfl, hle⟩ := hr.slice
  obtain ⟨mm, hmm⟩ : ∃ mm, mm = es.length := ⟨_, rfl⟩
  have hca := chk_all hc
  have hinS := swp_inS (chk_inS hc)
  have s0 := ((Below.refl w.heap.size w).alloc (Nat.le_refl _) (.cells #[.int .i64 L, .int .i64 (S : Int), .slice va es.length vc] 24)).alloc (by simp) (.cells #[.bool false, .string ⟨#[]⟩] 26)
  have b0 := (Blk.new w 24 [.int .i64 L, .int .i64 (S : Int), .slice va es.length vc]).alloc (.cells #[.bool false, .string ⟨#[]⟩] 26)
  have b1 := Blk.new (w.alloc (.cells #[.int .i64 L, .int .i64 (S : Int), .slice va es.length vc] 24)) 26 [.bool false, .string ⟨#[]⟩]
  simp only [World.size_alloc] at b1
  have hr0 := hr.below s0 (Nat.le_refl _)
  have hck := check_any L (S : Int) es (.slice va es.length vc) _ hr0 hok
  rw [hc] at hck
  have hcc := fun w' h => ccheck_ok0 L (S : Int) n es (.slice va es.length vc) w' h hok hc hn
  have hof := fun w' => iof_any 1 w' (by decide) (by decide)
  have hct := fun bl w' (h : Row w' (.slice va es.length vc) es.length (ce es)) hb => count_any L S n bl es (.slice va es.length vc) 92 swp (fun x => x == (s : Int)) w' h (by omega) hn (by omega) hinS (fun args w => enters_of Try.func92 (by kernel_rfl) rfl args w) paths1_any hb
  have gx : (rowK (es.map swp) S (fun x => x == (s : Int)) n)[t]? = some (pth es n (s : Int) (t : Int)) := rowK_get ht
  obtain ⟨R, hR⟩ : ∃ R, R = rowK (es.map swp) S (fun x => x == (s : Int)) n := ⟨_, rfl⟩
  obtain ⟨X, hX⟩ : ∃ X, X = pth es n (s : Int) (t : Int) := ⟨_, rfl⟩
  rw [← hR] at hct gx
  rw [← hX] at gx ⊢
  rw [← row_one (es.map swp) hs] at hct
  rw [← hmm] at s0 b0 b1 hr0 hck hle hcc hct
  have hmk := mkI S (by omega) (S : Int) rfl
  have t1 : decide ((s : Int) < 0) = false := decide_eq_false (by omega)
  have t2 : decide ((S : Int) ≤ (s : Int)) = false := decide_eq_false (by omega)
  have t3 : decide ((t : Int) < 0) = false := decide_eq_false (by omega)
  have t4 : decide ((S : Int) ≤ (t : Int)) = false := decide_eq_false (by omega)
  have HMM := Lib.hid hmm; clear hmm
  have HCK := Lib.hid hck; clear hck
  have HCC := Lib.hid hcc; clear hcc
  have HOF := Lib.hid hof; clear hof
  have HCT := Lib.hid hct; clear hct
  have S0 := Lib.hid s0; clear s0
  have B0 := Lib.hid b0; clear b0
  have B1 := Lib.hid b1; clear b1
  have HR := Lib.hid hr0; clear hr0
  have GX := Lib.hid gx; clear gx
  clear hr hok hc hca hinS hR hX
  go_enter Try.func54, Try.ntmps54
  rw [← HMM.out]
  go_wp2_with fail
  go_at_call 86
  refine HCK.out.mono ?_
  rintro e w1 ⟨hq1, rfl⟩
  have s1 := S0.out.trans (hq1.mono S0.out.size)
  have hr1 := HR.out.below hq1 (Nat.le_refl _)
  have tk := B0.out.keep hq1; have x0 := tk.cell (j := 0) rfl; have x1 := tk.cell (j := 1) rfl; have x2 := tk.cell (j := 2) rfl; have C0 := Lib.hid tk; clear tk
  have y0 := B1.out.keep hq1
  have C1 := Lib.hid y0; clear y0
  have S1 := Lib.hid s1; clear s1
  have HR1 := Lib.hid hr1; clear hr1
  clear hq1
  go_wp2_with fail
  go_at_call 67
  refine (HCC.out _ HR1.out).mono ?_
  rintro e w2 ⟨hq1, rfl⟩
  have s1 := S1.out.trans (hq1.mono S1.out.size)
  have hr1 := HR1.out.below hq1 (Nat.le_refl _)
  clear x0 x1 x2
  have tk := C0.out.keep hq1; have x0 := tk.cell (j := 0) rfl; have x1 := tk.cell (j := 1) rfl; have x2 := tk.cell (j := 2) rfl; have D0 := Lib.hid tk; clear tk
  have y0 := C1.out.keep hq1
  have D1 := Lib.hid y0; clear y0
  have S2 := Lib.hid s1; clear s1
  have HR2 := Lib.hid hr1; clear hr1
  clear hq1 t1 t2 t3 t4
  have hw2 : w.heap.size + 1 < w2.heap.size := D1.out.lt
  go_wp2_with fail
  go_at_call 18
  refine (HOF.out _).mono ?_
  rintro e w3 ⟨hq1, rfl⟩
  have nb := (blk_mkI w2 S).keep hq1
  have bl := Below.alloc (Below.refl w2.heap.size w2) (Nat.le_refl _) (.cells (zarr (.agg #[.bool false, .string ⟨#[]⟩]) S) 26)
  have bq := bl.trans (hq1.mono bl.size)
  have s1 := S2.out.trans (bq.mono S2.out.size)
  have hr1 := HR2.out.below bq (Nat.le_refl _)
  have e0 := D0.out.below bq (by omega)
  have e1 := D1.out.below bq (by omega)
  have hl3 := nb.lt
  have hss : (civ (List.replicate S 0))[s * 2]? = some (.bool (ineg 0)) ∧ (civ (List.replicate S 0))[s * 2 + 1]? = some (.string (imag 0)) := civ_get (by rw [List.getElem?_replicate, if_pos hs])
  have n0 := nb.cell hss.1
  have n1 := nb.cell hss.2
  have f0 := nb.frozen (s * 2)
  have f1 := nb.frozen (s * 2 + 1)
  have hix1 : (0 : Int) ≤ (s : Int) := by omega
  have hix2 : (s : Int) < (S : Int) := by omega
  have hix3 : (0 : Int) ≤ (t : Int) := by omega
  have hix4 : (t : Int) < (S : Int) := by omega
  have nz := (nb.set (s * 2) (.bool (ineg 1))).set (s * 2 + 1) (.string (imag 1))
  rw [civ_set] at nz
  have sz := (s1.setCell (p := ⟨w2.heap.size, s * 2, none⟩) (show w.heap.size ≤ w2.heap.size by omega) (.bool (ineg 1))).setCell (p := ⟨w2.heap.size, s * 2 + 1, none⟩) (show w.heap.size ≤ w2.heap.size by omega) (.string (imag 1))
  have bz := (bq.setCell (p := ⟨w2.heap.size, s * 2, none⟩) (Nat.le_refl _) (.bool (ineg 1))).setCell (p := ⟨w2.heap.size, s * 2 + 1, none⟩) (Nat.le_refl _) (.string (imag 1))
  have rz := HR2.out.below bz (Nat.le_refl _)
  have ez := D0.out.below bz (by omega)
  have fz := D1.out.below bz (by omega)
  obtain ⟨wz, hwz⟩ : ∃ wz, (w3.setCell ⟨w2.heap.size, s * 2, none⟩ (.bool (ineg 1))).setCell ⟨w2.heap.size, s * 2 + 1, none⟩ (.string (imag 1)) = wz := ⟨_, rfl⟩
  rw [hwz] at nz sz bz rz ez fz
  have x0' := ez.cell (j := 0) rfl
  have x1' := ez.cell (j := 1) rfl
  have x2' := ez.cell (j := 2) rfl
  have NZ := Lib.hid nz; clear nz
  have SZ := Lib.hid sz; clear sz
  have RZ := Lib.hid rz; clear rz
  have FZ := Lib.hid fz; clear fz
  clear hq1 x0 x1 x2 nb s1 hr1 e0 e1 bq bl bz ez hss
  go_wp2_with fail
  go_at_call 91
  refine (HCT.out _ _ RZ.out NZ.out).mono ?_
  rintro e w4 ⟨hq, b, rfl, hb⟩
  have s4 := SZ.out.trans (hq.mono SZ.out.size)
  have fz := FZ.out.keep hq
  have c0 := hb.cell (civ_get GX.out).1
  have c1 := hb.cell (civ_get GX.out).2
  have r0 := fz.cell (j := 0) rfl
  have r1 := fz.cell (j := 1) rfl
  have g0 := fz.frozen 0
  have g1 := fz.frozen 1
  have S4 := Lib.hid s4; clear s4
  have HB := Lib.hid hb; clear hb
  clear hq n0 n1 f0 f1 x0' x1' x2' hwz
  go_wp2_with fail
  refine bodyPost_ret (v := .tuple #[IntV X, .int .i64 0]) ?_ rfl ?_
  · have e0 := ((fz.set 0 (.bool (ineg X))).set 1 (.string (imag X))).cell (j := 0) rfl
    have e1 := ((fz.set 0 (.bool (ineg X))).set 1 (.string (imag X))).cell (j := 1) rfl
    simp [results, Try.results54, go_sem, e0, e1, IntV]
  · exact ⟨(S4.out.setCell (p := ⟨w.heap.size + 1, 0, none⟩) (show w.heap.size ≤ w.heap.size + 1 by omega) _).setCell (p := ⟨w.heap.size + 1, 1, none⟩) (show w.heap.size ≤ w.heap.size + 1 by omega) _, rfl⟩
end Go.Proofs.Ytalipfnbpnkgnaa

/- counting.From at valid graphs and lengths: the numbers of paths from each state. -/
namespace Go.Proofs.Ytalipfnbpnkgnaa
open Go.RowKit

set_option maxRecDepth 100000 in
set_option maxHeartbeats 3200000 in
theorem ones_any (L : Int) (S : Nat) (es : List E3) (v : Value) (w : World) (hS : S ≤ 64) :
    Calls Try.prog 101 #[.agg #[.int .i64 L, .int .i64 (S : Int), v]] w (CntRet S (rowK es S allP 0) w) := by
  have bg := Blk.new w 24 [.int .i64 L, .int .i64 (S : Int), v]
  have x1 := bg.cell (j := 1) rfl
  have s0 := (Below.refl w.heap.size w).alloc (Nat.le_refl _) (.cells #[.int .i64 L, .int .i64 (S : Int), v] 24)
  have hmk := mkI S (by omega) (S : Int) rfl
  have hof := fun w' => iof_any 1 w' (by decide) (by decide)
  have HOF := Lib.hid hof; clear hof
  have S0 := Lib.hid s0; clear s0
  clear bg
  go_enter Try.func101, Try.ntmps101
  go_wp2_with fail
  clear x1 hmk
  go_loopw [10] (fun i wr => ∃ j : Nat, j ≤ S ∧ i = .int .i64 j ∧ Below (w.heap.size + 1) (w.alloc (.cells #[.int .i64 L, .int .i64 (S : Int), v] 24)) wr ∧ Blk wr (w.heap.size + 1) 26 (civ (row0 S allP j))) (fun i _ => S - (intOf i).toNat)
  case atStart =>
    refine ⟨0, Nat.zero_le _, rfl, (Below.refl _ _).alloc (by simp) _, ?_⟩
    have h := blk_mkI (w.alloc (.cells #[.int .i64 L, .int .i64 (S : Int), v] 24)) S
    rw [World.size_alloc] at h
    rw [row0_zero]; exact h
  case round =>
    obtain ⟨j, hj, rfl, hbel, hblk⟩ := hrel
    have HB := Lib.hid hbel; clear hbel
    by_cases hlt : j < S
    · have hg := row0_length S allP j
      have hst := row0_yes (p := allP) hlt rfl
      have hx : (row0 S allP j)[j]? = some ((row0 S allP j)[j]'(by omega)) := List.getElem?_eq_getElem _
      obtain ⟨x, hxx⟩ : ∃ x, x = (row0 S allP j)[j]'(by omega) := ⟨_, rfl⟩
      rw [← hxx] at hx
      obtain ⟨hx0, hx1⟩ := civ_get hx
      have hix1 : (0 : Int) ≤ (j : Int) := by omega
      have hix2 : (j : Int) < (S : Int) := by omega
      have HST := Lib.hid hst; clear hst
      have HBLK := Lib.hid hblk; clear hblk
      clear hxx hx hg
      go_wp2_with fail
      go_at_call 18
      refine (HOF.out _).mono ?_
      rintro e w2 ⟨hq2, rfl⟩
      have hk2 := HBLK.out.keep hq2
      have c0 := hk2.cell hx0
      have c1 := hk2.cell hx1
      have f0 := hk2.frozen (j * 2)
      have f1 := hk2.frozen (j * 2 + 1)
      have HQ2 := Lib.hid hq2; clear hq2
      have HK2 := Lib.hid hk2; clear hk2
      clear hx0 hx1
      go_wp2_with fail
      go_roundw
      case rel =>
        have s2 := HB.out.trans (HQ2.out.mono (by have := HB.out.size; simpa using this))
        refine ⟨j + 1, by omega, by go_num, (s2.setCell (p := ⟨w.heap.size + 1, j * 2, none⟩) (Nat.le_refl _) _).setCell (p := ⟨w.heap.size + 1, j * 2 + 1, none⟩) (Nat.le_refl _) _, ?_⟩
        rw [← HST.out, ← civ_set]
        exact (HK2.out.set _ _).set _ _
      case measure => simp [intOf]; omega
    · obtain rfl : j = S := by omega
      rw [row0_full es] at hblk
      have hbw : Below w.heap.size w wr := S0.out.trans (HB.out.mono (by omega))
      have HBLK := Lib.hid hblk; clear hblk
      have HBW := Lib.hid hbw; clear hbw
      go_wp2_with fail
      go_ret
      exact ⟨HBW.out, _, rfl, HBLK.out⟩
set_option maxRecDepth 100000 in
set_option maxHeartbeats 3200000 in
theorem from1_any (e : E3) (w : World) :
    Calls Try.prog 102 #[.agg #[.int .i64 e.f, .int .i64 e.l, .int .i64 e.t]] w (Ret w (.tuple #[.int .i64 e.t, .int .i64 e.f])) := by
  have s0 := (Below.refl w.heap.size w).alloc (Nat.le_refl _) (.cells #[.int .i64 e.f, .int .i64 e.l, .int .i64 e.t] 110)
  have hx := Blk.new w 110 [.int .i64 e.f, .int .i64 e.l, .int .i64 e.t]
  have x0 := hx.cell (j := 0) rfl
  have x2 := hx.cell (j := 2) rfl
  have S0 := Lib.hid s0; clear s0
  clear hx
  go_enter Try.func102, Try.ntmps102
  go_wp2_with fail
  refine wp_region_held_drew (S := fun w' => w'.cell? ⟨w.heap.size, 0, none⟩ = some (.int .i64 e.f) ∧ w'.cell? ⟨w.heap.size, 2, none⟩ = some (.int .i64 e.t)) (by kernel_rfl) ?_ (fun hHeld => ?_)
  · go_keep
  refine wpAnyH_take (i := 0) (v := ?_) rfl (by kernel_rfl) (by kernel_rfl) (by kernel_rfl) (fun _ _ _ h => h) (Or.inl ⟨by rfl, ?_⟩) (by assumption) ?_
  rotate_left
  · (intro wS hSw; (try dsimp only at hSw); go_simp; (try with_reducible rfl))
  (try simp only [Act.put, List.setIfInBounds_toArray, List.set_cons_zero, List.set_cons_succ])
  refine wpAnyH_take (i := 1) (v := ?_) rfl (by kernel_rfl) (by kernel_rfl) (by kernel_rfl) (fun _ _ _ h => h) (Or.inl ⟨by rfl, ?_⟩) (by assumption) ?_
  rotate_left
  · (intro wS hSw; (try dsimp only at hSw); go_simp; (try with_reducible rfl))
  (try simp only [Act.put, List.setIfInBounds_toArray, List.set_cons_zero, List.set_cons_succ])
  refine wpAnyH_take (i := 2) (v := ?_) rfl (by kernel_rfl) (by kernel_rfl) (by kernel_rfl) (fun _ _ _ h => h) (Or.inl ⟨by rfl, ?_⟩) (by assumption) ?_
  rotate_left
  · (intro wS hSw; (try dsimp only at hSw); go_simp; (try with_reducible rfl))
  (try simp only [Act.put, List.setIfInBounds_toArray, List.set_cons_zero, List.set_cons_succ])
  refine wpAnyH_take (i := 3) (v := ?_) rfl (by kernel_rfl) (by kernel_rfl) (by kernel_rfl) (fun _ _ _ h => h) (Or.inl ⟨by rfl, ?_⟩) (by assumption) ?_
  rotate_left
  · (intro wS hSw; (try dsimp only at hSw); go_simp; (try with_reducible rfl))
  (try simp only [Act.put, List.setIfInBounds_toArray, List.set_cons_zero, List.set_cons_succ])
  refine wpAnyH_take (i := 4) (v := ?_) rfl (by kernel_rfl) (by kernel_rfl) (by kernel_rfl) (fun _ _ _ h => h) (Or.inl ⟨by rfl, ?_⟩) (by assumption) ?_
  rotate_left
  · (intro wS hSw; (try dsimp only at hSw); go_simp; (try with_reducible rfl))
  (try simp only [Act.put, List.setIfInBounds_toArray, List.set_cons_zero, List.set_cons_succ])
  refine wpAnyH_take (i := 5) (v := ?_) rfl (by kernel_rfl) (by kernel_rfl) (by kernel_rfl) (fun _ _ _ h => h) (Or.inl ⟨by rfl, ?_⟩) (by assumption) ?_
  rotate_left
  · (intro wS hSw; (try dsimp only at hSw); go_simp; (try with_reducible rfl))
  (try simp only [Act.put, List.setIfInBounds_toArray, List.set_cons_zero, List.set_cons_succ])
  refine wpAnyH_done (by kernel_rfl) ?_ _
  (try simp only [List.getElem_toArray, List.getElem_cons_zero, List.getElem_cons_succ, Act.put, List.setIfInBounds_toArray, List.set_cons_zero, List.set_cons_succ])
  go_wp2_with fail
  go_ret2
  exact ⟨S0.out.drew, rfl⟩
set_option maxRecDepth 100000 in
set_option maxHeartbeats 3200000 in
theorem from_any (L : Int) (S n : Nat) (es : List E3) (v : Value) (w : World) (hr : Row w v es.length (ce es)) (hS : S ≤ 64) (hn : n ≤ 4096) (hl : es.length ≤ 1024) (hin : InS S es) :
    Calls Try.prog 68 #[.agg #[.int .i64 L, .int .i64 (S : Int), v], .int .i64 (n : Int)] w (CntRet S (rowK es S allP n) w) := by
  obtain ⟨va, vc, rfl, hle⟩ := hr.slice
  obtain ⟨mm, hmm⟩ : ∃ mm, mm = es.length := ⟨_, rfl⟩
  have s0 := (Below.refl w.heap.size w).alloc (Nat.le_refl _) (.cells #[.int .i64 L, .int .i64 (S : Int), .slice va es.length vc] 24)
  have b0 := Blk.new w 24 [.int .i64 L, .int .i64 (S : Int), .slice va es.length vc]
  have hr0 := hr.below s0 (Nat.le_refl _)
  have hon := fun w' => ones_any L S es (.slice va es.length vc) w' hS
  have hid : es.map (fun e => e) = es := List.map_id' es
  have hct := fun bl w' (h : Row w' (.slice va es.length vc) es.length (ce es)) hb => count_any L S n bl es (.slice va es.length vc) 102 (fun e => e) allP w' h hS hn hl (by rw [hid]; exact hin) (fun args w => enters_of Try.func102 (by kernel_rfl) rfl args w) from1_any hb
  rw [hid] at hct
  obtain ⟨R0, hR0⟩ : ∃ R0, R0 = rowK es S allP 0 := ⟨_, rfl⟩
  obtain ⟨Rn, hRn⟩ : ∃ Rn, Rn = rowK es S allP n := ⟨_, rfl⟩
  rw [← hR0] at hon
  rw [← hR0, ← hRn] at hct
  rw [← hRn]
  rw [← hmm] at s0 b0 hr0 hle hon hct
  have HMM := Lib.hid hmm; clear hmm
  have HON := Lib.hid hon; clear hon
  have HCT := Lib.hid hct; clear hct
  have S0 := Lib.hid s0; clear s0
  have B0 := Lib.hid b0; clear b0
  have HR := Lib.hid hr0; clear hr0
  have x0 := B0.out.cell (j := 0) rfl
  have x1 := B0.out.cell (j := 1) rfl
  have x2 := B0.out.cell (j := 2) rfl
  clear hr hin hR0 hRn hid
  go_enter Try.func68, Try.ntmps68
  rw [← HMM.out]
  go_wp2_with fail
  obtain ⟨wg, hwg⟩ : ∃ wg, w.alloc (.cells #[.int .i64 L, .int .i64 (S : Int), .slice va mm vc] 24) = wg := ⟨_, rfl⟩
  have S1 := S0.out
  have B1 := B0.out
  have HR1 := HR.out
  rw [hwg] at S1 B1 HR1 x0 x1 x2
  rw [hwg]
  have hwl : w.heap.size < wg.heap.size := B1.lt
  have S2 := Lib.hid S1; clear S1
  have B2 := Lib.hid B1; clear B1
  have HR2 := Lib.hid HR1; clear HR1
  clear hwg
  refine wp_region_held_drew (S := fun w' => w'.cell? ⟨w.heap.size, 0, none⟩ = some (.int .i64 L) ∧ w'.cell? ⟨w.heap.size, 1, none⟩ = some (.int .i64 (S : Int)) ∧ w'.cell? ⟨w.heap.size, 2, none⟩ = some (.slice va mm vc)) (by kernel_rfl) ?_ (fun hHeld => ?_)
  · go_keep
  refine wpAnyH_take (i := 0) (v := ?_) rfl (by kernel_rfl) (by kernel_rfl) (by kernel_rfl) (fun _ _ _ h => h) (Or.inl ⟨by rfl, ?_⟩) (by assumption) ?_
  rotate_left
  · (intro wS hSw; (try dsimp only at hSw); go_simp; (try with_reducible rfl))
  (try simp only [Act.put, List.setIfInBounds_toArray, List.set_cons_zero, List.set_cons_succ])
  refine wpAnyH_take (i := 1) (v := ?_) rfl (by kernel_rfl) (by kernel_rfl) (by kernel_rfl) (fun _ _ _ h => h) (Or.inl ⟨by rfl, ?_⟩) (by assumption) ?_
  rotate_left
  · (intro wS hSw; (try dsimp only at hSw); go_simp; (try with_reducible rfl))
  (try simp only [Act.put, List.setIfInBounds_toArray, List.set_cons_zero, List.set_cons_succ])
  refine wpAnyH_take (i := 3) (v := ?_) rfl (by kernel_rfl) (by kernel_rfl) (by kernel_rfl) (fun _ _ _ h => h) (Or.inl ⟨by rfl, ?_⟩) (by assumption) ?_
  rotate_left
  · (intro wS hSw; (try dsimp only at hSw); go_simp; (try with_reducible rfl))
  (try simp only [Act.put, List.setIfInBounds_toArray, List.set_cons_zero, List.set_cons_succ])
  refine wpAnyH_ready (rs := [2]) (by kernel_rfl) (by simp) ?_
  refine AllReadyH.cons rfl (fun K hK => ?_) AllReadyH.nil
  go_simp
  go_at_call 101
  refine (HON.out _).mono ?_
  rintro e w3 ⟨hq, bl, rfl, hb⟩
  dsimp only
  have z0 := (hq.cell (p := ⟨w.heap.size, 0, none⟩) (show w.heap.size < wg.heap.size by omega)).trans hHeld.1
  have z1 := (hq.cell (p := ⟨w.heap.size, 1, none⟩) (show w.heap.size < wg.heap.size by omega)).trans hHeld.2.1
  have z2 := (hq.cell (p := ⟨w.heap.size, 2, none⟩) (show w.heap.size < wg.heap.size by omega)).trans hHeld.2.2
  clear hHeld
  refine hK.out _ _ ⟨z0, z1, z2⟩ (fun hHeld => ?_)
  clear hK K
  (try simp only [Act.put, List.setIfInBounds_toArray, List.set_cons_zero, List.set_cons_succ])
  have s3 := S2.out.drew.trans (hq.mono S2.out.size)
  have hr3 := HR2.out.drew.below hq (Nat.le_refl _)
  have hw3 : w.heap.size < w3.heap.size := Nat.lt_of_lt_of_le hwl hq.size
  have S3 := Lib.hid s3; clear s3
  have HR3 := Lib.hid hr3; clear hr3
  have HB := Lib.hid hb; clear hb
  clear hq z0 z1 z2 x0 x1 x2
  refine wpAnyH_ready (rs := [4]) (by kernel_rfl) (by simp) ?_
  refine AllReadyH.cons rfl (fun K hK => ?_) AllReadyH.nil
  go_simp
  go_at_call 91
  refine (HCT.out _ _ HR3.out HB.out).mono ?_
  rintro e w4 ⟨hq, b4, rfl, hb4⟩
  dsimp only
  have z0 := (hq.cell (p := ⟨w.heap.size, 0, none⟩) (show w.heap.size < w3.heap.size by omega)).trans hHeld.1
  have z1 := (hq.cell (p := ⟨w.heap.size, 1, none⟩) (show w.heap.size < w3.heap.size by omega)).trans hHeld.2.1
  have z2 := (hq.cell (p := ⟨w.heap.size, 2, none⟩) (show w.heap.size < w3.heap.size by omega)).trans hHeld.2.2
  clear hHeld
  refine hK.out _ _ ⟨z0, z1, z2⟩ (fun hHeld => ?_)
  clear hK K
  (try simp only [Act.put, List.setIfInBounds_toArray, List.set_cons_zero, List.set_cons_succ])
  have s4 := S3.out.trans (hq.mono S3.out.size)
  have S4 := Lib.hid s4; clear s4
  have HB4 := Lib.hid hb4; clear hb4
  clear hq z0 z1 z2
  refine wpAnyH_take (i := 5) (v := ?_) rfl (by kernel_rfl) (by kernel_rfl) (by kernel_rfl) (fun _ _ _ h => h) (Or.inl ⟨by rfl, ?_⟩) (by assumption) ?_
  rotate_left
  · (intro wS hSw; (try dsimp only at hSw); go_simp; (try with_reducible rfl))
  (try simp only [Act.put, List.setIfInBounds_toArray, List.set_cons_zero, List.set_cons_succ])
  refine wpAnyH_done (by kernel_rfl) ?_ _
  (try simp only [List.getElem_toArray, List.getElem_cons_zero, List.getElem_cons_succ, Act.put, List.setIfInBounds_toArray, List.set_cons_zero, List.set_cons_succ])
  clear hHeld
  go_wp2_with fail
  go_ret
  exact ⟨S4.out, _, rfl, HB4.out⟩
def FromRet (S : Nat) (l : List Int) (w : World) (e : Ending) (w' : World) : Prop := Below w.heap.size w w' ∧ ∃ b, e = .returned (.tuple #[.slice (some ⟨b, 0, none⟩) S S, .int .i64 0]) ∧ Blk w' b 26 (civ l)
set_option maxRecDepth 100000 in
set_option maxHeartbeats 3200000 in
theorem cfrom_ok (L : Int) (S n : Nat) (es : List E3) (v : Value) (w : World) (hr : Row w v es.length (ce es)) (hok : okEs es) (hc : chk L (S : Int) es = 0) (hn : n ≤ 4096) :
    Calls Try.prog 27 #[.agg #[.int .i64 L, .int .i64 (S : Int), v], .int .i64 (n : Int)] w (FromRet S (rowK es S allP n) w) := by
  obtain ⟨va, vc, rfl, hle⟩ := hr.slice
  obtain ⟨mm, hmm⟩ : ∃ mm, mm = es.length := ⟨_, rfl⟩
  have hca := chk_all hc
  have s0 := (Below.refl w.heap.size w).alloc (Nat.le_refl _) (.cells #[.int .i64 L, .int .i64 (S : Int), .slice va es.length vc] 24)
  have b0 := Blk.new w 24 [.int .i64 L, .int .i64 (S : Int), .slice va es.length vc]
  have hr0 := hr.below s0 (Nat.le_refl _)
  have hcc := ccheck_ok0 L (S : Int) n es (.slice va es.length vc) _ hr0 hok hc hn
  have hfr := fun w' (h : Row w' (.slice va es.length vc) es.length (ce es)) => from_any L S n es (.slice va es.length vc) w' h (by omega) hn (by omega) (chk_inS hc)
  obtain ⟨Rn, hRn⟩ : ∃ Rn, Rn = rowK es S allP n := ⟨_, rfl⟩
  rw [← hRn] at hfr ⊢
  rw [← hmm] at s0 b0 hr0 hle hcc hfr
  have HMM := Lib.hid hmm; clear hmm
  have HCC := Lib.hid hcc; clear hcc
  have HFR := Lib.hid hfr; clear hfr
  have S0 := Lib.hid s0; clear s0
  have B0 := Lib.hid b0; clear b0
  have HR := Lib.hid hr0; clear hr0
  clear hr hok hc hca hRn
  go_enter Try.func27, Try.ntmps27
  rw [← HMM.out]
  go_wp2_with fail
  go_at_call 67
  refine HCC.out.mono ?_
  rintro e w1 ⟨hq, rfl⟩
  have s1 := S0.out.trans (hq.mono S0.out.size)
  have hr1 := HR.out.below hq (Nat.le_refl _)
  have tk := B0.out.keep hq; have x0 := tk.cell (j := 0) rfl; have x1 := tk.cell (j := 1) rfl; have x2 := tk.cell (j := 2) rfl; have C0 := Lib.hid tk; clear tk
  have S1 := Lib.hid s1; clear s1
  have HR1 := Lib.hid hr1; clear hr1
  clear hq
  go_wp2_with fail
  go_at_call 68
  refine (HFR.out _ HR1.out).mono ?_
  rintro e w2 ⟨hq, b, rfl, hb⟩
  have HQ := Lib.hid hq; clear hq
  have HB := Lib.hid hb; clear hb
  go_wp2_with fail
  go_ret2
  exact ⟨S1.out.trans (HQ.out.mono S1.out.size), _, rfl, HB.out⟩
end Go.Proofs.Ytalipfnbpnkgnaa

/- integer.short at numbers of one digit. -/
namespace Go.Proofs.Ytalipfnbpnkgnaa
open Go.RowKit

def ShortRet (q r : Nat) (w : World) (e : Ending) (w' : World) : Prop := Below w.heap.size w w' ∧ ∃ v, e = .returned (.tuple #[v, .int .u32 (r : Int)]) ∧ Row w' v (dg q).length (cs32 (dg q))
theorem or_zero_u64 {X : Nat} (h : X < 18446744073709551616) : bits BinOp.or IntKind.u64 0 (X : Int) = (X : Int) := by
  show IntKind.u64.wrap ((BitVec.ofInt 64 0 ||| BitVec.ofInt 64 (X : Int)).toNat : Int) = _
  have e0 : BitVec.ofInt 64 0 = 0#64 := by decide
  have e1 : (BitVec.ofInt 64 (X : Int)).toNat = X := by
    rw [BitVec.toNat_ofInt]; omega
  rw [e0, BitVec.zero_or, e1, IntKind.wrap_u64]
  omega
set_option maxRecDepth 100000 in
set_option maxHeartbeats 3200000 in
theorem short_one (X D : Nat) (vx : Value) (w : World) (hr : Row w vx 1 (cs32 [X])) (hX : X < 4294967296) (hD0 : 0 < D) (hD : D < 4294967296) :
    Calls Try.prog 103 #[vx, .int .u32 (D : Int)] w (ShortRet (X / D) (X % D) w) := by
  obtain ⟨Q, hQ⟩ : ∃ Q, Q = X / D := ⟨_, rfl⟩
  obtain ⟨Rr, hRr⟩ : ∃ Rr, Rr = X % D := ⟨_, rfl⟩
  have hQX : Q ≤ X := by rw [hQ]; exact Nat.div_le_self _ _
  have hRD : Rr < D := by rw [hRr]; exact Nat.mod_lt _ hD0
  have hwD : IntKind.u64.wrap (D : Int) = (D : Int) := by rw [IntKind.wrap_u64]; omega
  have hwq : IntKind.u64.wrap ((X : Int) / (D : Int)) = (Q : Int) := by
    rw [show (X : Int) / (D : Int) = ((X / D : Nat) : Int) from (Int.natCast_ediv X D).symm, ← hQ, IntKind.wrap_u64]; omega
  have hwr : Int.tmod (X : Int) (D : Int) = (Rr : Int) := by
    rw [Int.tmod_eq_emod_of_nonneg (by omega), ← Int.natCast_emod X D, ← hRr]
  have hwq2 : IntKind.u32.wrap (Q : Int) = (Q : Int) := by rw [IntKind.wrap_u32]; omega
  have hwr2 : IntKind.u32.wrap (Rr : Int) = (Rr : Int) := by rw [IntKind.wrap_u32]; omega
  have htz : tz [Q] = dg Q := by
    have h := tz_lt (l := [Q]) (fun d hd => by obtain rfl : d = Q := by simpa using hd
                                               omega)
    rw [← h]; simp [val]
  rw [← hQ, ← hRr]
  have HTZ := Lib.hid htz; clear htz
  clear hQ hRr
  obtain ⟨va, vc, rfl, hle⟩ := hr.slice
  obtain ⟨b, off, rfl, hbw, hce⟩ := hr.at_ (by omega)
  have c0 := hce 0 _ (cs32_get (d := X) (i := 0) rfl)
  rw [Nat.add_zero] at c0
  have hmk := mk32 1 (by omega) 1 rfl
  go_enter Try.func103, Try.ntmps103
  go_wp2_with fail
  clear hmk
  go_loopw [7, 8] (fun u i wr => ∃ (z : Int) (r q : Nat), i = .int .i64 z ∧ u = .int .u64 (r : Int) ∧ ((z = 0 ∧ r = 0 ∧ q = 0) ∨ (z = -1 ∧ r = Rr ∧ q = Q)) ∧ Below w.heap.size w wr ∧ Blk wr w.heap.size 75 (cs32 [q])) (fun _ i _ => (intOf i + 1).toNat)
  case atStart =>
    refine ⟨0, 0, 0, rfl, rfl, .inl ⟨rfl, rfl, rfl⟩, (Below.refl _ _).alloc (Nat.le_refl _) _, ?_⟩
    exact Blk.new w 75 [.int .u32 0]
  case round =>
    obtain ⟨z, r, q, rfl, rfl, hcase, hbel, hblk⟩ := hrel
    rcases hcase with ⟨rfl, rfl, rfl⟩ | ⟨rfl, rfl, rfl⟩
    · have c1 := (hbel.cell (p := ⟨b, off, none⟩) hbw).trans c0
      have n0 := hblk.cell (j := 0) rfl
      have f0 := hblk.frozen 0
      have hblt := hblk.lt
      have hor := or_zero_u64 (X := X) (by omega)
      have hDn : ¬ D = 0 := by omega
      have hDn2 : ¬ (D : Int) = 0 := by omega
      have HB := Lib.hid hbel; clear hbel
      have HBLK := Lib.hid hblk; clear hblk
      go_wp2_with fail
      refine wp_region_held_drew (S := fun _ => True) (by kernel_rfl) trivial (fun hHeld => ?_)
      refine wpAnyH_take (i := 0) (v := ?_) rfl (by kernel_rfl) (by kernel_rfl) (by kernel_rfl) (fun _ _ _ h => h) (Or.inl ⟨by rfl, ?_⟩) (by assumption) ?_
      rotate_left
      · (intro wS hSw; (try dsimp only at hSw); go_simp; (try with_reducible rfl))
      (try simp only [Act.put, List.setIfInBounds_toArray, List.set_cons_zero, List.set_cons_succ])
      refine wpAnyH_take (i := 1) (v := ?_) rfl (by kernel_rfl) (by kernel_rfl) (by kernel_rfl) (fun _ _ _ h => h) (Or.inl ⟨by rfl, ?_⟩) (by assumption) ?_
      rotate_left
      · (intro wS hSw; (try dsimp only at hSw); go_simp; (try with_reducible rfl))
      (try simp only [Act.put, List.setIfInBounds_toArray, List.set_cons_zero, List.set_cons_succ])
      refine wpAnyH_take (i := 2) (v := ?_) rfl (by kernel_rfl) (by kernel_rfl) (by kernel_rfl) (fun _ _ _ h => h) (Or.inl ⟨by rfl, ?_⟩) (by assumption) ?_
      rotate_left
      · (intro wS hSw; (try dsimp only at hSw); go_simp; (try with_reducible rfl))
      (try simp only [Act.put, List.setIfInBounds_toArray, List.set_cons_zero, List.set_cons_succ])
      refine wpAnyH_take (i := 3) (v := ?_) rfl (by kernel_rfl) (by kernel_rfl) (by kernel_rfl) (fun _ _ _ h => h) (Or.inl ⟨by rfl, ?_⟩) (by assumption) ?_
      rotate_left
      · (intro wS hSw; (try dsimp only at hSw); go_simp; (try with_reducible rfl))
      (try simp only [Act.put, List.setIfInBounds_toArray, List.set_cons_zero, List.set_cons_succ])
      refine wpAnyH_take (i := 4) (v := ?_) rfl (by kernel_rfl) (by kernel_rfl) (by kernel_rfl) (fun _ _ _ h => h) (Or.inl ⟨by rfl, ?_⟩) (by assumption) ?_
      rotate_left
      · (intro wS hSw; (try dsimp only at hSw); go_simp; (try with_reducible rfl))
      (try simp only [Act.put, List.setIfInBounds_toArray, List.set_cons_zero, List.set_cons_succ])
      refine wpAnyH_take (i := 5) (v := ?_) rfl (by kernel_rfl) (by kernel_rfl) (by kernel_rfl) (fun _ _ _ h => h) (Or.inl ⟨by rfl, ?_⟩) (by assumption) ?_
      rotate_left
      · (intro wS hSw; (try dsimp only at hSw); go_simp; (try with_reducible rfl))
      (try simp only [Act.put, List.setIfInBounds_toArray, List.set_cons_zero, List.set_cons_succ])
      refine wpAnyH_take (i := 6) (v := ?_) rfl (by kernel_rfl) (by kernel_rfl) (by kernel_rfl) (fun _ _ _ h => h) (Or.inl ⟨by rfl, ?_⟩) (by assumption) ?_
      rotate_left
      · (intro wS hSw; (try dsimp only at hSw); go_simp; (try with_reducible rfl))
      (try simp only [Act.put, List.setIfInBounds_toArray, List.set_cons_zero, List.set_cons_succ])
      refine wpAnyH_take (i := 7) (v := ?_) rfl (by kernel_rfl) (by kernel_rfl) (by kernel_rfl) (fun _ _ _ h => h) (Or.inl ⟨by rfl, ?_⟩) (by assumption) ?_
      rotate_left
      · (intro wS hSw; (try dsimp only at hSw); go_simp; (try with_reducible rfl))
      (try simp only [Act.put, List.setIfInBounds_toArray, List.set_cons_zero, List.set_cons_succ])
      refine wpAnyH_take (i := 8) (v := ?_) rfl (by kernel_rfl) (by kernel_rfl) (by kernel_rfl) (fun _ _ _ h => h) (Or.inl ⟨by rfl, ?_⟩) (by assumption) ?_
      rotate_left
      · (intro wS hSw; (try dsimp only at hSw); go_simp; (try with_reducible rfl))
      (try simp only [Act.put, List.setIfInBounds_toArray, List.set_cons_zero, List.set_cons_succ])
      refine wpAnyH_take (i := 9) (v := ?_) rfl (by kernel_rfl) (by kernel_rfl) (by kernel_rfl) (fun _ _ _ h => h) (Or.inl ⟨by rfl, ?_⟩) (by assumption) ?_
      rotate_left
      · (intro wS hSw; (try dsimp only at hSw); go_simp; (try with_reducible rfl))
      (try simp only [Act.put, List.setIfInBounds_toArray, List.set_cons_zero, List.set_cons_succ])
      refine wpAnyH_take (i := 10) (v := ?_) rfl (by kernel_rfl) (by kernel_rfl) (by kernel_rfl) (fun _ _ _ h => h) (Or.inl ⟨by rfl, ?_⟩) (by assumption) ?_
      rotate_left
      · (intro wS hSw; (try dsimp only at hSw); go_simp; (try with_reducible rfl))
      (try simp only [Act.put, List.setIfInBounds_toArray, List.set_cons_zero, List.set_cons_succ])
      refine wpAnyH_take (i := 11) (v := ?_) rfl (by kernel_rfl) (by kernel_rfl) (by kernel_rfl) (fun _ _ _ h => h) (Or.inl ⟨by rfl, ?_⟩) (by assumption) ?_
      rotate_left
      · (intro wS hSw; (try dsimp only at hSw); go_simp; (try with_reducible rfl))
      (try simp only [Act.put, List.setIfInBounds_toArray, List.set_cons_zero, List.set_cons_succ])
      refine wpAnyH_ready (rs := [12]) (by kernel_rfl) (by simp) ?_
      refine AllReadyH.cons rfl (fun K hK => ?_) AllReadyH.nil
      go_simp
      refine hK.out _ _ ?_ (fun hHeld => ?_)
      · ((try dsimp only); skip)
      clear hK K
      (try simp only [Act.put, List.setIfInBounds_toArray, List.set_cons_zero, List.set_cons_succ])
      refine wpAnyH_take (i := 13) (v := ?_) rfl (by kernel_rfl) (by kernel_rfl) (by kernel_rfl) (fun _ _ _ h => h) (Or.inl ⟨by rfl, ?_⟩) (by assumption) ?_
      rotate_left
      · (intro wS hSw; (try dsimp only at hSw); go_simp; (try with_reducible rfl))
      (try simp only [Act.put, List.setIfInBounds_toArray, List.set_cons_zero, List.set_cons_succ])
      refine wpAnyH_done (by kernel_rfl) ?_ _
      go_wp2_with fail
      go_roundw
      case rel =>
        refine ⟨-1, _, _, rfl, rfl, .inr ⟨rfl, rfl, rfl⟩, (HB.out.setCell (p := ⟨w.heap.size, 0, none⟩) (Nat.le_refl _) _).drew, ?_⟩
        exact (HBLK.out.set 0 _).drew
      case measure => simp [intOf]
    · have hblk2 : Row wr (.slice (some ⟨w.heap.size, 0, none⟩) 1 1) 1 (cs32 [q]) := Row.ofBlk hblk (m := 1) (cap := 1) (Nat.le_refl _) (by decide) 1
      have htr := trim_any [q] _ wr hblk2
      have HTR := Lib.hid htr; clear htr
      have HB := Lib.hid hbel; clear hbel
      go_wp2_with fail
      go_at_call 87
      refine HTR.out.mono ?_
      rintro e w2 ⟨rfl, v', rfl, hv⟩
      rw [HTZ.out] at hv
      have HV := Lib.hid hv; clear hv
      go_wp2_with fail
      go_ret2
      exact ⟨HB.out, _, rfl, HV.out⟩
end Go.Proofs.Ytalipfnbpnkgnaa

/- integer.divide and Div at numbers of one digit. -/
namespace Go.Proofs.Ytalipfnbpnkgnaa
open Go.RowKit

theorem dg_one {X : Nat} (h0 : 0 < X) (h : X < 4294967296) : dg X = [X] := by
  rw [dg_pos h0, Nat.mod_eq_of_lt h, Nat.div_eq_of_lt h, dg_zero]
theorem tz_one {X : Nat} (h : X < 4294967296) : tz [X] = dg X := by
  have h1 := tz_lt (l := [X]) (fun d hd => by obtain rfl : d = X := by simpa using hd
                                              omega)
  rw [← h1]; simp [val]
theorem wp_tail2 {P : Program} {a b rest : Code} {Q : Exit → Act → World → Prop} {s : Act} {w : World} (h : ∀ r : Code, Code.wp P (a.seq (b.seq r)) Q s w) : Code.wp P (a.seq (b.seq rest)) Q s w := h _
theorem wp_tail3 {P : Program} {a b c rest : Code} {Q : Exit → Act → World → Prop} {s : Act} {w : World} (h : ∀ r : Code, Code.wp P (a.seq (b.seq (c.seq r))) Q s w) : Code.wp P (a.seq (b.seq (c.seq rest))) Q s w := h _
def DivRet (q r : Nat) (w : World) (e : Ending) (w' : World) : Prop := Below w.heap.size w w' ∧ ∃ v u, e = .returned (.tuple #[v, u]) ∧ Row w' v (dg q).length (cs32 (dg q)) ∧ Row w' u (dg r).length (cs32 (dg r))
set_option maxRecDepth 100000 in
set_option maxHeartbeats 3200000 in
theorem divide_one (X D : Nat) (vx vy : Value) (w : World) (hx : Row w vx (dg X).length (cs32 (dg X))) (hy : Row w vy (dg D).length (cs32 (dg D))) (hX : X < 4294967296) (hD0 : 0 < D) (hD : D < 4294967296) :
    Calls Try.prog 71 #[vx, vy] w (DivRet (X / D) (X % D) w) := by
  have hcmp := compare_any X D vx vy w hx hy
  have hdl : (dg D).length = 1 := by rw [dg_one hD0 hD]; rfl
  obtain ⟨vb, vd, rfl, hle2⟩ := hy.slice
  by_cases hlt : X < D
  · rw [Nat.div_eq_of_lt hlt, Nat.mod_eq_of_lt hlt]
    have hc : cmpN X D = -1 := by simp [cmpN]; omega
    rw [hc] at hcmp
    have HX := Lib.hid hx; clear hx
    have HC := Lib.hid hcmp; clear hcmp
    clear hy hdl
    go_enter Try.func71, Try.ntmps71
    refine wp_tail2 (fun code2 => ?_)
    go_wp2_with fail
    go_at_call 52
    refine (HC.out).mono ?_
    rintro e w1 ⟨hq1, rfl⟩
    have hx1 := HX.out.below hq1 (Nat.le_refl _)
    have HX1 := Lib.hid hx1; clear hx1
    have HQ1 := Lib.hid hq1; clear hq1
    go_wp2_with fail
    go_ret2
    exact ⟨HQ1.out, _, _, rfl, by rw [dg_zero]; exact .inl ⟨rfl, rfl, rfl⟩, HX1.out⟩
  · have hc : ¬ cmpN X D < 0 := by simp only [cmpN]; split <;> (try split) <;> omega
    obtain ⟨z, hz⟩ : ∃ z, z = cmpN X D := ⟨_, rfl⟩
    rw [← hz] at hcmp hc
    rw [dg_one (by omega) hX] at hx
    rw [hdl] at hcmp
    rw [hdl]
    rw [dg_one hD0 hD] at hy
    replace hy : Row w (.slice vb 1 vd) 1 (cs32 [D]) := hy
    replace hx : Row w vx 1 (cs32 [X]) := hx
    clear hdl hle2
    have hsh := fun w' h => short_one X D vx w' h hX hD0 hD
    have htz := tz_one (X := X % D) (by have := Nat.mod_lt X hD0; omega)
    obtain ⟨Q, hQ⟩ : ∃ Q, Q = X / D := ⟨_, rfl⟩
    obtain ⟨Rr, hRr⟩ : ∃ Rr, Rr = X % D := ⟨_, rfl⟩
    rw [← hQ, ← hRr]
    rw [← hQ, ← hRr] at hsh
    rw [← hRr] at htz
    have HX := Lib.hid hx; clear hx
    have HY := Lib.hid hy; clear hy
    have HC := Lib.hid hcmp; clear hcmp
    have HSH := Lib.hid hsh; clear hsh
    have HTZ := Lib.hid htz; clear htz
    clear hz hQ hRr hlt
    go_enter Try.func71, Try.ntmps71
    refine wp_tail3 (fun code2 => ?_)
    go_wp2_with fail
    go_at_call 52
    refine (HC.out).mono ?_
    rintro e w1 ⟨hq1, rfl⟩
    have hx1 := HX.out.below hq1 (Nat.le_refl _)
    have hy1 := HY.out.below hq1 (Nat.le_refl _)
    obtain ⟨b, off, rfl, hbw, hce⟩ := hy1.at_ (by simp)
    have c0 := hce 0 _ (cs32_get (d := D) (i := 0) rfl)
    rw [Nat.add_zero] at c0
    clear hy1 hce
    have HX1 := Lib.hid hx1; clear hx1
    have HQ1 := Lib.hid hq1; clear hq1
    go_wp2_with fail
    go_at_call 103
    refine (HSH.out _ HX1.out).mono ?_
    rintro e w2 ⟨hq2, v2, rfl, hv2⟩
    obtain ⟨a2, c2, rfl, -⟩ := hv2.slice
    have HV2 := Lib.hid hv2; clear hv2
    have HQ2 := Lib.hid hq2; clear hq2
    go_wp2_with fail
    go_at_call 87
    have hr2 : Row (w2.alloc (.cells #[.int .u32 (Rr : Int)] 75)) (.slice (some ⟨w2.heap.size, 0, none⟩) 1 1) 1 (cs32 [Rr]) := Row.ofBlk (Blk.new w2 75 [.int .u32 (Rr : Int)]) (m := 1) (cap := 1) (Nat.le_refl _) (by decide) 1
    refine (trim_any [Rr] _ _ hr2).mono ?_
    rintro e w3 ⟨rfl, v3, rfl, hv3⟩
    rw [HTZ.out] at hv3
    have HV3 := Lib.hid hv3; clear hv3
    clear hr2
    go_wp2_with fail
    go_ret2
    have s1 := HQ1.out.trans (HQ2.out.mono HQ1.out.size)
    exact ⟨s1.alloc s1.size _, _, _, rfl, HV2.out.below ((Below.refl _ _).alloc (Nat.le_refl _) _) (Nat.le_refl _), HV3.out⟩
def DvRet (q r : Int) (w : World) : Ending → World → Prop := Ret w (.tuple #[IntV q, IntV r, .int .i64 0])
set_option maxRecDepth 100000 in
set_option maxHeartbeats 3200000 in
theorem div_one (X D : Nat) (w : World) (hX : X < 4294967296) (hD0 : 0 < D) (hD : D < 4294967296) :
    Calls Try.prog 29 #[IntV (X : Int), IntV (D : Int)] w (Ret w (.tuple #[IntV ((X / D : Nat) : Int), IntV ((X % D : Nat) : Int), .int .i64 0])) := by
  have hsX : (imag (X : Int)).size ≤ 1099511627776 := by
    rw [imag_size]
    have := bb_length_le (x := X) (m := 4) (by omega)
    simp at this ⊢; omega
  have hsD : (imag (D : Int)).size ≤ 1099511627776 := by
    rw [imag_size]
    have := bb_length_le (x := D) (m := 4) (by omega)
    simp at this ⊢; omega
  have hdx := fun w' => digits_any false (imag (X : Int)) w' hsX
  have hdd := fun w' => digits_any false (imag (D : Int)) w' hsD
  rw [imag_list, bval_bb, Int.natAbs_natCast] at hdx hdd
  have hdv := fun vx vy w' h1 h2 => divide_one X D vx vy w' h1 h2 hX hD0 hD
  have hdl : (dg D).length = 1 := by rw [dg_one hD0 hD]; rfl
  have hnX : ineg (X : Int) = false := by simp [ineg]
  have hnD : ineg (D : Int) = false := by simp [ineg]
  show Calls Try.prog 29 #[.agg #[.bool (ineg (X : Int)), .string (imag (X : Int))], .agg #[.bool (ineg (D : Int)), .string (imag (D : Int))]] w _
  rw [hnX, hnD]
  obtain ⟨sa, hsa⟩ : ∃ sa, sa = imag (X : Int) := ⟨_, rfl⟩
  obtain ⟨sb, hsb⟩ : ∃ sb, sb = imag (D : Int) := ⟨_, rfl⟩
  rw [← hsa, ← hsb]
  rw [← hsa] at hdx
  rw [← hsb] at hdd
  obtain ⟨Q, hQ⟩ : ∃ Q, Q = X / D := ⟨_, rfl⟩
  obtain ⟨Rr, hRr⟩ : ∃ Rr, Rr = X % D := ⟨_, rfl⟩
  rw [← hQ, ← hRr] at hdv ⊢
  have hQl : (dg Q).length ≤ 274877906944 := by
    have := dg_length_le (x := Q) (m := 1) (by have := Nat.div_le_self X D; omega)
    omega
  have hRl : (dg Rr).length ≤ 274877906944 := by
    have := dg_length_le (x := Rr) (m := 1) (by have := Nat.mod_lt X hD0; omega)
    omega
  have HDX := Lib.hid hdx; clear hdx
  have HDD := Lib.hid hdd; clear hdd
  have HDV := Lib.hid hdv; clear hdv
  have HDL := Lib.hid hdl; clear hdl
  have HQL := Lib.hid hQl; clear hQl
  have HRL := Lib.hid hRl; clear hRl
  clear hsX hsD hnX hnD hsa hsb hQ hRr
  obtain ⟨w4, hw4⟩ : ∃ w4, w4 = ((((w.alloc (.cells #[.bool false, .string sa] 26)).alloc (.cells #[.bool false, .string sb] 26)).alloc (.cells #[.bool false, .string ⟨#[]⟩] 26)).alloc (.cells #[.bool false, .string ⟨#[]⟩] 26)) := ⟨_, rfl⟩
  have hb0 : Blk w4 w.heap.size 26 [.bool false, .string sa] := by rw [hw4]; exact (((Blk.new w 26 _).alloc _).alloc _).alloc _
  have hb1 : Blk w4 (w.heap.size + 1) 26 [.bool false, .string sb] := by
    rw [hw4]
    have h := ((Blk.new (w.alloc (.cells #[.bool false, .string sa] 26)) 26 [.bool false, .string sb]).alloc (.cells #[.bool false, .string ⟨#[]⟩] 26)).alloc (.cells #[.bool false, .string ⟨#[]⟩] 26)
    simp only [World.size_alloc] at h
    exact h
  have hb2 : Blk w4 (w.heap.size + 2) 26 [.bool false, .string ⟨#[]⟩] := by
    rw [hw4]
    have h := (Blk.new ((w.alloc (.cells #[.bool false, .string sa] 26)).alloc (.cells #[.bool false, .string sb] 26)) 26 [.bool false, .string ⟨#[]⟩]).alloc (.cells #[.bool false, .string ⟨#[]⟩] 26)
    simp only [World.size_alloc] at h
    exact h
  have hb3 : Blk w4 (w.heap.size + 3) 26 [.bool false, .string ⟨#[]⟩] := by
    rw [hw4]
    have h := Blk.new (((w.alloc (.cells #[.bool false, .string sa] 26)).alloc (.cells #[.bool false, .string sb] 26)).alloc (.cells #[.bool false, .string ⟨#[]⟩] 26)) 26 [.bool false, .string ⟨#[]⟩]
    simp only [World.size_alloc] at h
    exact h
  have hbel : Below w.heap.size w w4 := by
    rw [hw4]
    exact ((((Below.refl w.heap.size w).alloc (Nat.le_refl _) _).alloc (by simp) _).alloc (by simp <;> omega) _).alloc (by simp <;> omega) _
  have hsz4 : w4.heap.size = w.heap.size + 4 := by rw [hw4]; simp only [World.size_alloc]
  have x0 := hb0.cell (j := 0) rfl
  have x1 := hb0.cell (j := 1) rfl
  have y0 := hb1.cell (j := 0) rfl
  have y1 := hb1.cell (j := 1) rfl
  have HB0 := Lib.hid hb0; clear hb0
  have HB1 := Lib.hid hb1; clear hb1
  have HB2 := Lib.hid hb2; clear hb2
  have HB3 := Lib.hid hb3; clear hb3
  have HB := Lib.hid hbel; clear hbel
  go_enter Try.func29, Try.ntmps29
  go_wp2_with fail
  rw [← hw4]
  clear hw4
  simp only [Nat.add_assoc, Nat.reduceAdd]
  refine wp_region_held_drew (S := fun w' => w'.cell? ⟨w.heap.size, 0, none⟩ = some (.bool false) ∧ w'.cell? ⟨w.heap.size, 1, none⟩ = some (.string sa) ∧ w'.cell? ⟨w.heap.size + 1, 0, none⟩ = some (.bool false) ∧ w'.cell? ⟨w.heap.size + 1, 1, none⟩ = some (.string sb)) (by kernel_rfl) ?_ (fun hHeld => ?_)
  · go_keep
  refine wpAnyH_take (i := 0) (v := ?_) rfl (by kernel_rfl) (by kernel_rfl) (by kernel_rfl) (fun _ _ _ h => h) (Or.inl ⟨by rfl, ?_⟩) (by assumption) ?_
  rotate_left
  · (intro wS hSw; (try dsimp only at hSw); go_simp; (try with_reducible rfl))
  (try simp only [Act.put, List.setIfInBounds_toArray, List.set_cons_zero, List.set_cons_succ])
  refine wpAnyH_take (i := 2) (v := ?_) rfl (by kernel_rfl) (by kernel_rfl) (by kernel_rfl) (fun _ _ _ h => h) (Or.inl ⟨by rfl, ?_⟩) (by assumption) ?_
  rotate_left
  · (intro wS hSw; (try dsimp only at hSw); go_simp; (try with_reducible rfl))
  (try simp only [Act.put, List.setIfInBounds_toArray, List.set_cons_zero, List.set_cons_succ])
  refine wpAnyH_ready (rs := [1]) (by kernel_rfl) (by simp) ?_
  refine AllReadyH.cons rfl (fun K hK => ?_) AllReadyH.nil
  go_simp
  go_at_call 47
  refine (HDX.out _).mono ?_
  rintro e w5 ⟨hq5, v5, rfl, hv5⟩
  dsimp only
  have z0 := (hq5.cell (p := ⟨w.heap.size, 0, none⟩) (show w.heap.size < w4.drew.heap.size by simp; omega)).trans hHeld.1
  have z1 := (hq5.cell (p := ⟨w.heap.size, 1, none⟩) (show w.heap.size < w4.drew.heap.size by simp; omega)).trans hHeld.2.1
  have z2 := (hq5.cell (p := ⟨w.heap.size + 1, 0, none⟩) (show w.heap.size + 1 < w4.drew.heap.size by simp; omega)).trans hHeld.2.2.1
  have z3 := (hq5.cell (p := ⟨w.heap.size + 1, 1, none⟩) (show w.heap.size + 1 < w4.drew.heap.size by simp; omega)).trans hHeld.2.2.2
  refine hK.out _ _ ⟨z0, z1, z2, z3⟩ (fun hHeld2 => ?_)
  clear hK K x0 x1 y0 y1 z0 z1 z2 z3 hHeld
  have hb5 := HB.out.drew.trans (hq5.mono (by simp; omega))
  have k2 := HB2.out.drew.keep hq5
  have k3 := HB3.out.drew.keep hq5
  have k0 := HB0.out.drew.keep hq5
  have k1 := HB1.out.drew.keep hq5
  have hsz5 := hq5.size
  simp only [World.size_drew] at hsz5
  clear HB HB0 HB1 HB2 HB3 hq5
  have HB5 := Lib.hid hb5; clear hb5
  have K0 := Lib.hid k0; clear k0
  have K1 := Lib.hid k1; clear k1
  have K2 := Lib.hid k2; clear k2
  have K3 := Lib.hid k3; clear k3
  have HV5 := Lib.hid hv5; clear hv5
  (try simp only [Act.put, List.setIfInBounds_toArray, List.set_cons_zero, List.set_cons_succ])
  refine wpAnyH_ready (rs := [3]) (by kernel_rfl) (by simp) ?_
  refine AllReadyH.cons rfl (fun K hK => ?_) AllReadyH.nil
  go_simp
  go_at_call 47
  refine (HDD.out _).mono ?_
  rintro e w6 ⟨hq6, v6, rfl, hv6⟩
  dsimp only
  have z0 := (hq6.cell (p := ⟨w.heap.size, 0, none⟩) (show w.heap.size < w5.heap.size by omega)).trans hHeld2.1
  have z1 := (hq6.cell (p := ⟨w.heap.size, 1, none⟩) (show w.heap.size < w5.heap.size by omega)).trans hHeld2.2.1
  have z2 := (hq6.cell (p := ⟨w.heap.size + 1, 0, none⟩) (show w.heap.size + 1 < w5.heap.size by omega)).trans hHeld2.2.2.1
  have z3 := (hq6.cell (p := ⟨w.heap.size + 1, 1, none⟩) (show w.heap.size + 1 < w5.heap.size by omega)).trans hHeld2.2.2.2
  refine hK.out _ _ ⟨z0, z1, z2, z3⟩ (fun hHeld3 => ?_)
  clear hK K z0 z1 z2 z3 hHeld2
  have hb6 := HB5.out.trans (hq6.mono (by omega))
  have k0 := K0.out.keep hq6
  have k1 := K1.out.keep hq6
  have k2 := K2.out.keep hq6
  have k3 := K3.out.keep hq6
  have hsz6 := hq6.size
  have hv5 := HV5.out.below hq6 (Nat.le_refl _)
  clear HB5 K0 K1 K2 K3 hq6 HV5
  obtain ⟨a6, c6, rfl, -⟩ := hv6.slice
  rw [HDL.out] at hv6 ⊢
  have hv6' : Row w6 (.slice a6 1 c6) (dg D).length (cs32 (dg D)) := by rw [HDL.out]; exact hv6
  have HB6 := Lib.hid hb6; clear hb6
  have K0 := Lib.hid k0; clear k0
  have K1 := Lib.hid k1; clear k1
  have K2 := Lib.hid k2; clear k2
  have K3 := Lib.hid k3; clear k3
  have HV5 := Lib.hid hv5; clear hv5
  have HV6 := Lib.hid hv6'; clear hv6'
  clear hv6
  (try simp only [Act.put, List.setIfInBounds_toArray, List.set_cons_zero, List.set_cons_succ])
  refine wpAnyH_take (i := 4) (v := ?_) rfl (by kernel_rfl) (by kernel_rfl) (by kernel_rfl) (fun _ _ _ h => h) (Or.inl ⟨by rfl, ?_⟩) (by assumption) ?_
  rotate_left
  · (intro wS hSw; (try dsimp only at hSw); go_simp; (try with_reducible rfl))
  (try simp only [Act.put, List.setIfInBounds_toArray, List.set_cons_zero, List.set_cons_succ])
  refine wpAnyH_take (i := 5) (v := ?_) rfl (by kernel_rfl) (by kernel_rfl) (by kernel_rfl) (fun _ _ _ h => h) (Or.inl ⟨by rfl, ?_⟩) (by assumption) ?_
  rotate_left
  · (intro wS hSw; (try dsimp only at hSw); go_simp; (try with_reducible rfl))
  (try simp only [Act.put, List.setIfInBounds_toArray, List.set_cons_zero, List.set_cons_succ])
  refine wpAnyH_done (by kernel_rfl) ?_ _
  go_wp2_with fail
  go_at_call 71
  refine (HDV.out _ _ _ HV5.out HV6.out).mono ?_
  rintro e w7 ⟨hq7, v7, u7, rfl, hv7, hu7⟩
  dsimp only
  have z0 := (hq7.cell (p := ⟨w.heap.size, 0, none⟩) (show w.heap.size < w6.heap.size by omega)).trans hHeld3.1
  have z2 := (hq7.cell (p := ⟨w.heap.size + 1, 0, none⟩) (show w.heap.size + 1 < w6.heap.size by omega)).trans hHeld3.2.2.1
  clear hHeld3
  have hb7 := HB6.out.trans (hq7.mono (by omega))
  have k2 := K2.out.keep hq7
  have k3 := K3.out.keep hq7
  have hsz7 := hq7.size
  clear HB6 K0 K1 K2 K3 hq7 HV5 HV6
  obtain ⟨a7, c7, rfl, -⟩ := hv7.slice
  obtain ⟨a8, c8, rfl, -⟩ := hu7.slice
  have HB7 := Lib.hid hb7; clear hb7
  have K2 := Lib.hid k2; clear k2
  have K3 := Lib.hid k3; clear k3
  have HV7 := Lib.hid hv7; clear hv7
  have HU7 := Lib.hid hu7; clear hu7
  go_wp2_with fail
  refine wp_region_held_drew (S := fun w' => w'.cell? ⟨w.heap.size, 0, none⟩ = some (.bool false) ∧ w'.cell? ⟨w.heap.size + 1, 0, none⟩ = some (.bool false)) (by kernel_rfl) ?_ (fun hHeld => ?_)
  · go_keep
  refine wpAnyH_take (i := 0) (v := ?_) rfl (by kernel_rfl) (by kernel_rfl) (by kernel_rfl) (fun _ _ _ h => h) (Or.inl ⟨by rfl, ?_⟩) (by assumption) ?_
  rotate_left
  · (intro wS hSw; (try dsimp only at hSw); go_simp; (try with_reducible rfl))
  (try simp only [Act.put, List.setIfInBounds_toArray, List.set_cons_zero, List.set_cons_succ])
  refine wpAnyH_take (i := 1) (v := ?_) rfl (by kernel_rfl) (by kernel_rfl) (by kernel_rfl) (fun _ _ _ h => h) (Or.inl ⟨by rfl, ?_⟩) (by assumption) ?_
  rotate_left
  · (intro wS hSw; (try dsimp only at hSw); go_simp; (try with_reducible rfl))
  (try simp only [Act.put, List.setIfInBounds_toArray, List.set_cons_zero, List.set_cons_succ])
  refine wpAnyH_take (i := 2) (v := ?_) rfl (by kernel_rfl) (by kernel_rfl) (by kernel_rfl) (fun _ _ _ h => h) (Or.inl ⟨by rfl, ?_⟩) (by assumption) ?_
  rotate_left
  · (intro wS hSw; (try dsimp only at hSw); go_simp; (try with_reducible rfl))
  (try simp only [Act.put, List.setIfInBounds_toArray, List.set_cons_zero, List.set_cons_succ])
  refine wpAnyH_take (i := 3) (v := ?_) rfl (by kernel_rfl) (by kernel_rfl) (by kernel_rfl) (fun _ _ _ h => h) (Or.inl ⟨by rfl, ?_⟩) (by assumption) ?_
  rotate_left
  · (intro wS hSw; (try dsimp only at hSw); go_simp; (try with_reducible rfl))
  (try simp only [Act.put, List.setIfInBounds_toArray, List.set_cons_zero, List.set_cons_succ])
  refine wpAnyH_take (i := 4) (v := ?_) rfl (by kernel_rfl) (by kernel_rfl) (by kernel_rfl) (fun _ _ _ h => h) (Or.inl ⟨by rfl, ?_⟩) (by assumption) ?_
  rotate_left
  · (intro wS hSw; (try dsimp only at hSw); go_simp; (try with_reducible rfl))
  (try simp only [Act.put, List.setIfInBounds_toArray, List.set_cons_zero, List.set_cons_succ])
  refine wpAnyH_take (i := 5) (v := ?_) rfl (by kernel_rfl) (by kernel_rfl) (by kernel_rfl) (fun _ _ _ h => h) (Or.inl ⟨by rfl, ?_⟩) (by assumption) ?_
  rotate_left
  · (intro wS hSw; (try dsimp only at hSw); go_simp; (try with_reducible rfl))
  (try simp only [Act.put, List.setIfInBounds_toArray, List.set_cons_zero, List.set_cons_succ])
  refine wpAnyH_take (i := 7) (v := ?_) rfl (by kernel_rfl) (by kernel_rfl) (by kernel_rfl) (fun _ _ _ h => h) (Or.inl ⟨by rfl, ?_⟩) (by assumption) ?_
  rotate_left
  · (intro wS hSw; (try dsimp only at hSw); go_simp; (try with_reducible rfl))
  (try simp only [Act.put, List.setIfInBounds_toArray, List.set_cons_zero, List.set_cons_succ])
  refine wpAnyH_take (i := 8) (v := ?_) rfl (by kernel_rfl) (by kernel_rfl) (by kernel_rfl) (fun _ _ _ h => h) (Or.inl ⟨by rfl, ?_⟩) (by assumption) ?_
  rotate_left
  · (intro wS hSw; (try dsimp only at hSw); go_simp; (try with_reducible rfl))
  (try simp only [Act.put, List.setIfInBounds_toArray, List.set_cons_zero, List.set_cons_succ])
  refine wpAnyH_take (i := 9) (v := ?_) rfl (by kernel_rfl) (by kernel_rfl) (by kernel_rfl) (fun _ _ _ h => h) (Or.inl ⟨by rfl, ?_⟩) (by assumption) ?_
  rotate_left
  · (intro wS hSw; (try dsimp only at hSw); go_simp; (try with_reducible rfl))
  (try simp only [Act.put, List.setIfInBounds_toArray, List.set_cons_zero, List.set_cons_succ])
  refine wpAnyH_ready (rs := [6]) (by kernel_rfl) (by simp) ?_
  refine AllReadyH.cons rfl (fun K hK => ?_) AllReadyH.nil
  go_simp
  go_at_call 46
  refine (number_any _ _ _ _ HV7.out.drew (dg_lt _) HQL.out).mono ?_
  rintro e w8 ⟨hq8, rfl⟩
  dsimp only
  have z4 := (hq8.cell (p := ⟨w.heap.size, 0, none⟩) (show w.heap.size < w7.drew.heap.size by simp; omega)).trans hHeld.1
  have z5 := (hq8.cell (p := ⟨w.heap.size + 1, 0, none⟩) (show w.heap.size + 1 < w7.drew.heap.size by simp; omega)).trans hHeld.2
  refine hK.out _ _ ⟨z4, z5⟩ (fun hHeld2 => ?_)
  clear hK K z0 z2 z4 z5 hHeld
  have hb8 := HB7.out.drew.trans (hq8.mono (by simp; omega))
  have k2 := K2.out.drew.keep hq8
  have k3 := K3.out.drew.keep hq8
  have hsz8 := hq8.size
  simp only [World.size_drew] at hsz8
  have hu8 := HU7.out.drew.below hq8 (Nat.le_refl _)
  clear HB7 K2 K3 hq8 HU7 HV7
  have HB8 := Lib.hid hb8; clear hb8
  have K2 := Lib.hid k2; clear k2
  have K3 := Lib.hid k3; clear k3
  have HU8 := Lib.hid hu8; clear hu8
  (try simp only [Act.put, List.setIfInBounds_toArray, List.set_cons_zero, List.set_cons_succ])
  refine wpAnyH_ready (rs := [10]) (by kernel_rfl) (by simp) ?_
  refine AllReadyH.cons rfl (fun K hK => ?_) AllReadyH.nil
  go_simp
  go_at_call 46
  refine (number_any _ _ _ _ HU8.out (dg_lt _) HRL.out).mono ?_
  rintro e w9 ⟨hq9, rfl⟩
  dsimp only
  have z4 := (hq9.cell (p := ⟨w.heap.size, 0, none⟩) (show w.heap.size < w8.heap.size by omega)).trans hHeld2.1
  have z5 := (hq9.cell (p := ⟨w.heap.size + 1, 0, none⟩) (show w.heap.size + 1 < w8.heap.size by omega)).trans hHeld2.2
  refine hK.out _ _ ⟨z4, z5⟩ (fun hHeld3 => ?_)
  clear hK K z4 z5 hHeld2
  have hb9 := HB8.out.trans (hq9.mono (by omega))
  have k2 := K2.out.keep hq9
  have k3 := K3.out.keep hq9
  have hsz9 := hq9.size
  clear HB8 K2 K3 hq9 HU8
  have u0 := k2.cell (j := 0) rfl
  have u1 := k2.cell (j := 1) rfl
  have u2 := k3.cell (j := 0) rfl
  have u3 := k3.cell (j := 1) rfl
  have f0 := k2.frozen 0
  have f1 := k2.frozen 1
  have f2 := k3.frozen 0
  have f3 := k3.frozen 1
  have HB9 := Lib.hid hb9; clear hb9
  have K2 := Lib.hid k2; clear k2
  have K3 := Lib.hid k3; clear k3
  (try simp only [Act.put, List.setIfInBounds_toArray, List.set_cons_zero, List.set_cons_succ])
  refine wpAnyH_ready (rs := [11]) (by kernel_rfl) (by simp) ?_
  refine AllReadyH.cons rfl (fun K hK => ?_) AllReadyH.nil
  go_simp
  refine hK.out _ _ ?_ (fun hHeld => ?_)
  · ((try dsimp only); go_keep)
  clear hK K
  (try simp only [Act.put, List.setIfInBounds_toArray, List.set_cons_zero, List.set_cons_succ])
  refine wpAnyH_ready (rs := [12]) (by kernel_rfl) (by simp) ?_
  refine AllReadyH.cons rfl (fun K hK => ?_) AllReadyH.nil
  go_simp
  refine hK.out _ _ ?_ (fun hHeld => ?_)
  · ((try dsimp only); go_keep)
  clear hK K
  (try simp only [Act.put, List.setIfInBounds_toArray, List.set_cons_zero, List.set_cons_succ])
  refine wpAnyH_take (i := 13) (v := ?_) rfl (by kernel_rfl) (by kernel_rfl) (by kernel_rfl) (fun _ _ _ h => h) (Or.inl ⟨by rfl, ?_⟩) (by assumption) ?_
  rotate_left
  · (intro wS hSw; (try dsimp only at hSw); go_simp; (try with_reducible rfl))
  (try simp only [Act.put, List.setIfInBounds_toArray, List.set_cons_zero, List.set_cons_succ])
  refine wpAnyH_done (by kernel_rfl) ?_ _
  split
  · rename_i d hd
    obtain rfl : (6 : Tmp) = d := Option.some.inj (show some (6 : Tmp) = some d from hd)
    clear hd
    simp only [List.set_cons_zero, List.set_cons_succ]
    go_wp2_with fail
    have hvQ : sgn false (val (dg Q)) = (Q : Int) := by rw [val_dg]; rfl
    have hvR : sgn false (val (dg Rr)) = (Rr : Int) := by rw [val_dg]; rfl
    rw [hvQ, hvR]
    clear hvQ hvR
    refine bodyPost_ret (v := .tuple #[IntV (Q : Int), IntV (Rr : Int), .int .i64 0]) (by simp [results, Try.results29, go_sem, u0, u1, u2, u3]) rfl ⟨?_, rfl⟩
    exact (((HB9.out.setCell (p := ⟨w.heap.size + 2, 0, none⟩) (Nat.le_add_right _ _) _).setCell (p := ⟨w.heap.size + 2, 1, none⟩) (Nat.le_add_right _ _) _).setCell (p := ⟨w.heap.size + 3, 0, none⟩) (Nat.le_add_right _ _) _).setCell (p := ⟨w.heap.size + 3, 1, none⟩) (Nat.le_add_right _ _) _
  · rename_i hd
    exact absurd (show some (6 : Tmp) = none from hd) (by simp)
end Go.Proofs.Ytalipfnbpnkgnaa


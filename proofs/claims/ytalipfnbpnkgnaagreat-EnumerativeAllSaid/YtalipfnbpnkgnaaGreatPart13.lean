/- Contracts and plain laws of several functions, one after the other: EBits, PlainB, PlainB3. -/
import Derived.Test.YtalipfnbpnkgnaaGreatEPrc
import Derived.Test.YtalipfnbpnkgnaaGreatPow
import Derived.Test.YtalipfnbpnkgnaaGreatMulI
/- enumerative.Bits: the closure. -/
namespace Go.Proofs.YtalipfnbpnkgnaaGreat
open Go.RowKit

theorem lenB_two : lenB 2 = 2 := by decide +kernel
theorem dg_pow2 (e : Nat) : (dg (2 ^ e)).length ≤ e + 1 := by
  refine dg_length_le ?_
  have h : 2 ^ e ≤ 4294967296 ^ e := Nat.pow_le_pow_left (by decide) e
  have h2 : 4294967296 ^ e < 4294967296 ^ (e + 1) := Nat.pow_lt_pow_right (by decide) (by omega)
  omega
theorem small_pow2 (e : Nat) (he : e ≤ 100000) : small ((2 ^ e : Nat) : Int) := by
  refine small_of (m := e + 1) ?_ (by omega)
  have h : 2 ^ e ≤ 256 ^ e := Nat.pow_le_pow_left (by decide) e
  have h2 : 256 ^ e < 256 ^ (e + 1) := Nat.pow_lt_pow_right (by decide) (by omega)
  rw [Int.natAbs_natCast]; omega
theorem size_pow2 (e : Nat) (he : e ≤ 100000) : (imag ((2 ^ e : Nat) : Int)).size ≤ 400000000000 := by
  have hh : small ((2 ^ e : Nat) : Int) := small_pow2 e he
  rw [imag_size]
  refine Nat.le_trans (bb_length_le (m := e + 1) ?_) (by omega)
  have h : 2 ^ e ≤ 256 ^ e := Nat.pow_le_pow_left (by decide) e
  have h2 : 256 ^ e < 256 ^ (e + 1) := Nat.pow_lt_pow_right (by decide) (by omega)
  rw [Int.natAbs_natCast]; omega
theorem ipow2_any (k : Nat) (w : World) (hk : k ≤ 4096) :
    Calls Tryz.prog 65 #[IntV 2, .int .i64 (k : Int)] w (Ret w (.tuple #[IntV ((2 ^ k : Nat) : Int), .int .i64 0])) :=
  ipower_any 2 k w (by rw [imag_size]; exact Nat.le_trans (m := 1) (by decide +kernel) (by decide)) hk (by rw [lenB_two]; omega) (by rw [lenB_two]; omega) (fun e he => Nat.le_trans (dg_pow2 e) (by omega))
/-- Whether there is a principal set for p bits. -/
def hasB (S : Nat) (es : List E3) (n p : Nat) : Bool := decide (0 < (prin es n ((2 ^ p : Nat) : Int) (uptoZ S)).length)
set_option maxRecDepth 100000 in
set_option maxHeartbeats 3200000 in
theorem has_any (L : Int) (S n P bg bn : Nat) (es : List E3) (v : Value) (w : World) (hr : Row w v es.length (ce es)) (hS : S ≤ 64) (hn : n ≤ 4096) (hl : es.length ≤ 1024) (hin : InS S es) (hP : P ≤ 20000)
    (hg0 : w.cell? ⟨bg, 0, none⟩ = some (.int .i64 L)) (hg1 : w.cell? ⟨bg, 1, none⟩ = some (.int .i64 (S : Int))) (hg2 : w.cell? ⟨bg, 2, none⟩ = some v) (hbg : bg < w.heap.size) (hbn : bn < w.heap.size) (hn0 : w.cell? ⟨bn, 0, none⟩ = some (.int .i64 (n : Int))) :
    Calls Tryz.prog 64 #[.int .i64 (P : Int), .pointer (some ⟨bg, 0, none⟩), .pointer (some ⟨bn, 0, none⟩)] w (Ret w (.bool (hasB S es n P))) := by
  obtain ⟨va, vc, rfl, hle⟩ := hr.slice
  have hpr := fun w' h => principal_any L ((2 ^ P : Nat) : Int) S n es (.slice va es.length vc) w' h hS hn hl hin (small_pow2 P (by omega))
  obtain ⟨mm, hmm⟩ : ∃ mm, mm = es.length := ⟨_, rfl⟩
  rw [← hmm] at hr hpr hle hg2
  obtain ⟨l, hl⟩ : ∃ l, l = prin es n ((2 ^ P : Nat) : Int) (uptoZ S) := ⟨_, rfl⟩
  have hhas : hasB S es n P = decide (0 < l.length) := by rw [hl]; rfl
  rw [← hl] at hpr
  have hof1 := fun w' => iof_any 1 w' (by decide) (by decide)
  have hof2 := fun w' => iof_any 2 w' (by decide) (by decide)
  have HR := Lib.hid hr; clear hr
  have HPR := Lib.hid hpr; clear hpr
  have HMM := Lib.hid hmm; clear hmm
  have HL := Lib.hid hl; clear hl
  have HHAS := Lib.hid hhas; clear hhas
  have HIN := Lib.hid hin; clear hin
  have HOF1 := Lib.hid hof1; clear hof1
  have HOF2 := Lib.hid hof2; clear hof2
  go_enter Tryz.func64, Tryz.ntmps64
  go_wp2_with fail
  go_at_call 20
  refine (HOF1.out _).mono ?_
  rintro e w1 ⟨hq1, rfl⟩
  have b1 := Blk.new w1 33 [.bool (ineg 1), .string (imag 1)]
  have s1 := hq1.alloc hq1.size (.cells #[.bool (ineg 1), .string (imag 1)] 33)
  have hs1 := hq1.size
  have B1 := Lib.hid b1; clear b1
  have S1 := Lib.hid s1; clear s1
  have HQ1 := Lib.hid hq1; clear hq1
  go_wp2_with fail
  go_loopw [0, 6, 7, 8] (fun u _ _ _ wr => ∃ (q : Nat) (M : Int), q ≤ P ∧ u = .int .i64 (q : Int) ∧ M = ((2 ^ (P - q) : Nat) : Int) ∧ Below w.heap.size w wr ∧ Blk wr w1.heap.size 33 [.bool (ineg M), .string (imag M)]) (fun u _ _ _ _ => (intOf u).toNat)
  case atStart => exact ⟨P, 1, Nat.le_refl _, rfl, by rw [Nat.sub_self]; rfl, S1.out, B1.out⟩
  case round =>
    obtain ⟨q, M, hq, rfl, hM, hbel, hblk⟩ := hrel
    have hsw : w1.heap.size < wr.heap.size := hblk.lt
    have HM := Lib.hid hM; clear hM
    have HB := Lib.hid hbel; clear hbel
    by_cases h0 : 0 < q
    · obtain ⟨k, hk⟩ : ∃ k : Nat, (k : Int) = min (q : Int) 4096 := ⟨min q 4096, by omega⟩
      have hkq : k ≤ q := by omega
      have hk1 : 1 ≤ k := by omega
      have hk2 : k ≤ 4096 := by omega
      have hmin : ∀ (w : World) (ts : Array TypeId) (t : TypeId), (Builtin.min_ ts t #[.int .i64 (q : Int), .int .i64 4096]).run Tryz.prog w = .ok (.int .i64 (k : Int)) w := fun w ts t => by simp [Builtin.min_, Builtin.min2]; omega
      clear hk
      have hpw := fun w' => ipow2_any k w' hk2
      obtain ⟨T, hT⟩ : ∃ T, T = ((2 ^ k : Nat) : Int) := ⟨_, rfl⟩
      rw [← hT] at hpw
      have hzM : (imag M).size ≤ 400000000000 := by rw [HM.out]; exact size_pow2 _ (by omega)
      have hzT : (imag T).size ≤ 400000000000 := by rw [hT]; exact size_pow2 _ (by omega)
      have hmul := fun w' => imul_any (ineg M) (ineg T) (imag M) (imag T) w' hzM hzT
      simp only [ival_canon] at hmul
      have hnext : M * T = ((2 ^ (P - (q - k)) : Nat) : Int) := by
        rw [HM.out, hT, ← Int.natCast_mul, ← Nat.pow_add]
        congr 2; omega
      obtain ⟨M2, hM2⟩ : ∃ M2, M2 = M * T := ⟨_, rfl⟩
      simp only [← hM2] at hmul
      rw [← hM2] at hnext
      have HPW := Lib.hid hpw; clear hpw
      have HT := Lib.hid hT; clear hT
      have HMUL := Lib.hid hmul; clear hmul
      have HM2 := Lib.hid hM2; clear hM2
      have HNX := Lib.hid hnext; clear hnext
      have HBLK := Lib.hid hblk; clear hblk
      clear hzM hzT
      go_wp2_with fail
      go_at_call 20
      refine (HOF2.out _).mono ?_
      rintro e w2 ⟨hq2, rfl⟩
      have c2 := HBLK.out.keep hq2
      have C2 := Lib.hid c2; clear c2
      have HQ2 := Lib.hid hq2; clear hq2
      go_wp2_with fail
      go_at_call 65
      refine (HPW.out _).mono ?_
      rintro e w3 ⟨hq3, rfl⟩
      have c3 := (C2.out.keep hq3).alloc (.cells #[.bool (ineg T), .string (imag T)] 33)
      have b3 := Blk.new w3 33 [.bool (ineg T), .string (imag T)]
      have y0 := c3.cell (j := 0) rfl
      have y1 := c3.cell (j := 1) rfl
      have y2 := b3.cell (j := 0) rfl
      have y3 := b3.cell (j := 1) rfl
      have C3 := Lib.hid c3; clear c3
      have HQ3 := Lib.hid hq3; clear hq3
      clear b3
      go_wp2_with fail
      go_at_call 66
      refine (HMUL.out _).mono ?_
      rintro e w4 ⟨hq4, rfl⟩
      have c4 := C3.out.keep hq4
      have y4 := c4.cell (j := 0) rfl
      have y5 := c4.cell (j := 1) rfl
      have f4 := c4.frozen 0
      have f5 := c4.frozen 1
      have C4 := Lib.hid c4; clear c4
      have HQ4 := Lib.hid hq4; clear hq4
      clear y0 y1 y2 y3
      go_wp2_with fail
      go_roundw
      case rel =>
        have hw1 := HQ1.out.size
        have t2 := HB.out.trans (HQ2.out.mono HB.out.size)
        have t3 := t2.trans (HQ3.out.mono t2.size)
        have t4 := t3.alloc t3.size (.cells #[.bool (ineg T), .string (imag T)] 33)
        have t5 := t4.trans (HQ4.out.mono t4.size)
        refine ⟨q - k, M2, by omega, by go_num, HNX.out, (t5.setCell (p := ⟨w1.heap.size, 0, none⟩) hs1 _).setCell (p := ⟨w1.heap.size, 1, none⟩) hs1 _, ?_⟩
        exact (C4.out.set 0 _).set 1 _
      case measure => simp [intOf]; omega
    · obtain rfl : q = 0 := by omega
      have hM1 : M = ((2 ^ P : Nat) : Int) := HM.out
      have hbw : Below w.heap.size w wr := HB.out
      have g0 := (hbw.cell (p := ⟨bg, 0, none⟩) hbg).trans hg0
      have g1 := (hbw.cell (p := ⟨bg, 1, none⟩) hbg).trans hg1
      have g2 := (hbw.cell (p := ⟨bg, 2, none⟩) hbg).trans hg2
      have g3 := (hbw.cell (p := ⟨bn, 0, none⟩) hbn).trans hn0
      have m0 := hblk.cell (j := 0) rfl
      have m1 := hblk.cell (j := 1) rfl
      have hrw := HR.out.below hbw (Nat.le_refl _)
      have hp2 := HPR.out
      rw [← hM1] at hp2
      have HP2 := Lib.hid hp2; clear hp2
      have HM1 := Lib.hid hM1; clear hM1
      have HRW := Lib.hid hrw; clear hrw
      clear hbw hblk hg0 hg1 hg2 hn0 HPR
      go_wp2_with fail
      go_at_call 63
      refine (HP2.out _ HRW.out).mono ?_
      rintro e w2 ⟨hq2, vl, rfl, hrl⟩
      obtain ⟨la, lc, rfl, -⟩ := hrl.slice
      have HQ2 := Lib.hid hq2; clear hq2
      clear hrl
      by_cases hll : 0 < l.length
      · have hd : decide (0 < l.length) = true := decide_eq_true hll
        have hd2 : (0 : Int) < (l.length : Int) := by omega
        go_wp2_with fail
        go_ret
        exact ⟨HB.out.trans (HQ2.out.mono HB.out.size), by rw [HHAS.out, hd]; rfl⟩
      · have hd : decide (0 < l.length) = false := decide_eq_false hll
        have hd2 : ¬ (0 : Int) < (l.length : Int) := by omega
        go_wp2_with fail
        go_ret
        exact ⟨HB.out.trans (HQ2.out.mono HB.out.size), by rw [HHAS.out, hd]; rfl⟩
end Go.Proofs.YtalipfnbpnkgnaaGreat

/- Numbers of bits, in plain Lean: how many edges leave a state, and where principal sets end. -/
namespace Go.Proofs.YtalipfnbpnkgnaaGreat
open Go.RowKit

theorem cmpE_lt2 (a b : E3) : cmpE a b < 0 ↔ a.f < b.f ∨ (a.f = b.f ∧ (a.l < b.l ∨ (a.l = b.l ∧ a.t < b.t))) := by
  have h : ∀ x y : Int, (cmpI x y = 0 ↔ x = y) ∧ (cmpI x y < 0 ↔ x < y) := by
    intro x y
    unfold cmpI
    by_cases h1 : x < y
    · simp [h1]; omega
    · by_cases h2 : y < x
      · simp [h1, h2]; omega
      · simp [h1, h2]; omega
  have e : cmpE a b = if cmpI a.f b.f = 0 then (if cmpI a.l b.l = 0 then (if cmpI a.t b.t = 0 then 0 else cmpI a.t b.t) else cmpI a.l b.l) else cmpI a.f b.f := rfl
  rw [e]
  by_cases h1 : cmpI a.f b.f = 0
  · rw [if_pos h1]
    have h1' := (h _ _).1.1 h1
    by_cases h2 : cmpI a.l b.l = 0
    · rw [if_pos h2]
      have h2' := (h _ _).1.1 h2
      by_cases h3 : cmpI a.t b.t = 0
      · rw [if_pos h3]
        have h3' := (h _ _).1.1 h3
        omega
      · rw [if_neg h3, (h _ _).2]; omega
    · rw [if_neg h2, (h _ _).2]
      have := mt (h a.l b.l).1.2 h2
      omega
  · rw [if_neg h1, (h _ _).2]
    have := mt (h a.f b.f).1.2 h1
    omega

/-- Edges of a deterministic graph: state and label ascend. -/
def ltFL (a b : E3) : Prop := a.f < b.f ∨ (a.f = b.f ∧ a.l < b.l)
theorem ltFL_trans {a b c : E3} (h1 : ltFL a b) (h2 : ltFL b c) : ltFL a c := by
  unfold ltFL at *
  omega
theorem det_sorted {L S : Int} : ∀ {es : List E3} {p : Option E3}, chkL L S p es = 0 → detB es = true → es.Pairwise ltFL
  | [], _, _, _ => List.Pairwise.nil
  | [a], _, _, _ => by simp
  | a :: b :: r, p, h, hd => by
    have hb : ¬ edgeBad L S a := fun hb => by rw [chk_bad hb] at h; cases h
    have h2 : chkL L S (some a) (b :: r) = 0 := by
      cases p with
      | none => rw [chkL, if_neg hb] at h; exact h
      | some q =>
        rw [chkL, if_neg hb] at h
        split at h
        · cases h
        · exact h
    have hbb : ¬ edgeBad L S b := fun hb => by rw [chk_bad hb] at h2; cases h2
    have hlt : cmpE a b < 0 := by
      rw [chkL, if_neg hbb] at h2
      split at h2
      · cases h2
      · omega
    rw [detB, Bool.and_eq_true] at hd
    have hne : ¬ (a.f = b.f ∧ a.l = b.l) := fun e => by
      have h3 := hd.1
      rw [decide_eq_true e.1, decide_eq_true e.2] at h3
      cases h3
    have hfl : ltFL a b := by
      have h3 := (cmpE_lt2 a b).1 hlt
      unfold ltFL
      omega
    have ih := det_sorted h2 hd.2
    refine List.Pairwise.cons (fun e he => ?_) ih
    rcases List.mem_cons.1 he with rfl | he
    · exact hfl
    · exact ltFL_trans hfl ((List.pairwise_cons.1 ih).1 e he)
theorem asc_length : ∀ (l : List Int) (a b : Int), (∀ x ∈ l, a ≤ x ∧ x < b) → l.Pairwise (· < ·) → (l.length : Int) ≤ max 0 (b - a)
  | [], _, _, _, _ => by simp; omega
  | x :: l, a, b, h, hp => by
    have h1 := h x (by simp)
    obtain ⟨h2, h3⟩ := List.pairwise_cons.1 hp
    have ih := asc_length l (x + 1) b (fun y hy => ⟨by have := h2 y hy; omega, (h y (by simp [hy])).2⟩) h3
    rw [List.length_cons]
    omega
/-- At most 16 edges leave a state. -/
theorem deg_le {L S : Int} {es : List E3} (h : eck L S es = 0) (s : Int) : (es.filter fun e => e.f == s).length ≤ 16 := by
  obtain ⟨hc, hL, hd⟩ := eck_zero h
  have hrng := (chk_all hc).2.2.2.2
  have hcl : chkL L S none es = 0 := by
    unfold chk at hc
    split at hc
    · cases hc
    · split at hc
      · cases hc
      · split at hc
        · cases hc
        · exact hc
  have hp := (det_sorted hcl hd).filter (fun e => e.f == s)
  have hm : ((es.filter fun e => e.f == s).map fun e => e.l).Pairwise (· < ·) := by
    rw [List.pairwise_map]
    refine hp.imp_of_mem fun {a b} ha hb hab => ?_
    have h1 : a.f = s := by simpa using (List.mem_filter.1 ha).2
    have h2 : b.f = s := by simpa using (List.mem_filter.1 hb).2
    unfold ltFL at hab
    omega
  have h3 := asc_length _ 0 L (fun x hx => by
    obtain ⟨e, he, rfl⟩ := List.mem_map.1 hx
    have := hrng e (List.mem_filter.1 he).1
    unfold edgeBad at this
    omega) hm
  rw [List.length_map] at h3
  omega
theorem cw_lt {L S : Int} {es : List E3} (h : eck L S es = 0) (p : Int → Bool) (n : Nat) (s : Int) : cw es p n s < ((2 ^ (4 * n + 1) : Nat) : Int) := by
  have h1 := cw_le es p 16 (deg_le h) n s
  have h2 : (16 : Nat) ^ n = 2 ^ (4 * n) := by rw [Nat.pow_mul]
  have h3 : 2 ^ (4 * n) < 2 ^ (4 * n + 1) := Nat.pow_lt_pow_right (by decide) (by omega)
  omega
theorem hasB_iff {S : Nat} {es : List E3} {n p : Nat} : hasB S es n p = true ↔ ∃ s, s ∈ prin es n ((2 ^ p : Nat) : Int) (uptoZ S) := by
  unfold hasB
  rw [decide_eq_true_iff, List.length_pos_iff_exists_mem]
theorem hasB_down {S : Nat} {es : List E3} {n p q : Nat} (h : p ≤ q) (hq : hasB S es n q = true) : hasB S es n p = true := by
  obtain ⟨s, hs⟩ := hasB_iff.1 hq
  refine hasB_iff.2 ⟨s, prin_anti ?_ _ s hs⟩
  have : 2 ^ p ≤ 2 ^ q := Nat.pow_le_pow_right (by decide) h
  omega
theorem hasB_top {L : Int} {S : Nat} {es : List E3} (h : eck L (S : Int) es = 0) (n : Nat) : hasB S es n (4 * n + 1) = false := by
  unfold hasB
  rw [prin_empty (fun p s => cw_lt h p n s)]
  rfl
theorem hasB_step {S : Nat} {es : List E3} {n : Nat} (h0 : hasB S es n 0 = true) : ∀ N, hasB S es n N = false → ∃ p, p < N ∧ hasB S es n p = true ∧ hasB S es n (p + 1) = false
  | 0, h => by rw [h0] at h; cases h
  | N + 1, h => by
    cases hN : hasB S es n N with
    | true => exact ⟨N, by omega, hN, h⟩
    | false =>
      obtain ⟨p, h1, h2, h3⟩ := hasB_step h0 N hN
      exact ⟨p, by omega, h2, h3⟩
theorem hasB_all {S : Nat} {es : List E3} {n p : Nat} (h1 : hasB S es n p = true) (h2 : hasB S es n (p + 1) = false) (m : Nat) : hasB S es n m = decide (m ≤ p) := by
  by_cases h : m ≤ p
  · rw [hasB_down h h1, decide_eq_true h]
  · rw [decide_eq_false h]
    cases hm : hasB S es n m with
    | false => rfl
    | true => rw [hasB_down (show p + 1 ≤ m by omega) hm] at h2; cases h2
/-- What Bits returns. -/
theorem bits_ex {L : Int} {S : Nat} {es : List E3} (h : eck L (S : Int) es = 0) (n : Nat) : hasB S es n 0 = false ∨ ∃ p : Nat, p < 4 * n + 1 ∧ ∀ m, hasB S es n m = decide (m ≤ p) := by
  cases h0 : hasB S es n 0 with
  | false => exact .inl rfl
  | true =>
    obtain ⟨p, h1, h2, h3⟩ := hasB_step h0 (4 * n + 1) (hasB_top h n)
    exact .inr ⟨p, h1, hasB_all h2 h3⟩
end Go.Proofs.YtalipfnbpnkgnaaGreat

/- Principal at powers of 2, and words over the letters of a graph, in plain Lean. -/
namespace Go.Proofs.YtalipfnbpnkgnaaGreat
open Go.RowKit

/-- At most as many edges leave a state as there are labels. -/
theorem deg_leL {L S : Int} {es : List E3} (h : eck L S es = 0) (s : Int) : (es.filter fun e => e.f == s).length ≤ L.toNat := by
  obtain ⟨hc, hL, hd⟩ := eck_zero h
  have hrng := (chk_all hc).2.2.2.2
  have hcl : chkL L S none es = 0 := by
    unfold chk at hc
    split at hc
    · cases hc
    · split at hc
      · cases hc
      · split at hc
        · cases hc
        · exact hc
  have hp := (det_sorted hcl hd).filter (fun e => e.f == s)
  have hm : ((es.filter fun e => e.f == s).map fun e => e.l).Pairwise (· < ·) := by
    rw [List.pairwise_map]
    refine hp.imp_of_mem fun {a b} ha hb hab => ?_
    have h1 : a.f = s := by simpa using (List.mem_filter.1 ha).2
    have h2 : b.f = s := by simpa using (List.mem_filter.1 hb).2
    unfold ltFL at hab
    omega
  have h3 := asc_length _ 0 L (fun x hx => by
    obtain ⟨e, he, rfl⟩ := List.mem_map.1 hx
    have := hrng e (List.mem_filter.1 he).1
    unfold edgeBad at this
    omega) hm
  rw [List.length_map] at h3
  omega
theorem cw_leL {L S : Int} {es : List E3} (h : eck L S es = 0) (p : Int → Bool) (n : Nat) (s : Int) : cw es p n s ≤ ((L.toNat ^ n : Nat) : Int) := cw_le es p L.toNat (deg_leL h) n s
/-- 2^q is at most the number of words, where there is a set for q bits. -/
theorem hasB_words {L : Int} {S : Nat} {es : List E3} (h : eck L (S : Int) es = 0) {n q : Nat} (hq : hasB S es n q = true) : 2 ^ q ≤ L.toNat ^ n := by
  rcases Nat.lt_or_ge (L.toNat ^ n) (2 ^ q) with h1 | h1
  · exfalso
    unfold hasB at hq
    rw [prin_empty (fun p s => by have := cw_leL h p n s; omega)] at hq
    cases hq
  · exact h1
theorem pow_four {L n : Nat} (hL : L ≤ 4) (hn : n ≤ 8) {q : Nat} (h : 2 ^ q ≤ L ^ n) : q ≤ 16 := by
  have h1 : L ^ n ≤ 4 ^ n := Nat.pow_le_pow_left hL n
  have h2 : 4 ^ n ≤ 4 ^ 8 := Nat.pow_le_pow_right (by decide) hn
  rcases Nat.lt_or_ge 16 q with h3 | h3
  · have h4 : 2 ^ 17 ≤ 2 ^ q := Nat.pow_le_pow_right (by decide) h3
    have h5 : (4 : Nat) ^ 8 = 65536 := by decide
    have h6 : (2 : Nat) ^ 17 = 131072 := by decide
    omega
  · exact h3
/-- Principal's error at 2^q. -/
theorem prcP_pow {L : Int} {S n q : Nat} {es : List E3} (h : eck L (S : Int) es = 0) (hn : n ≤ 4096) : (prcP L (S : Int) es (n : Int) (ineg ((2 ^ q : Nat) : Int)) (imag ((2 ^ q : Nat) : Int))).2 = if hasB S es n q = true then 0 else 15 := by
  have hc : cnB (ineg ((2 ^ q : Nat) : Int)) (imag ((2 ^ q : Nat) : Int)) = true := (cnB_iff _ _).2 (by rw [ival_canon]; exact ⟨rfl, rfl⟩)
  have hp : 0 < 2 ^ q := Nat.pow_pos (by decide)
  unfold prcP
  rw [if_neg (by simp [h]), if_neg (by omega), hc, if_neg (by simp), ival_canon, if_neg (by omega)]
  rw [Int.toNat_natCast, Int.toNat_natCast]
  by_cases hb : prin es n ((2 ^ q : Nat) : Int) (uptoZ S) = []
  · rw [if_pos hb]
    have : hasB S es n q = false := by unfold hasB; rw [hb]; rfl
    rw [this]; rfl
  · rw [if_neg hb]
    have : hasB S es n q = true := by
      unfold hasB
      rw [decide_eq_true_iff]
      exact List.length_pos_iff.2 hb
    rw [this]; rfl
end Go.Proofs.YtalipfnbpnkgnaaGreat


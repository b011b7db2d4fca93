/- Contracts and plain laws of several functions, one after the other: EChk, CkW. -/
import Derived.Test.YtalipfnbpnkgnaaGreatDet
import Derived.Test.YtalipfnbpnkgnaaGreatPart5
/- enumerative.check, checkLength, checkWord, every, in. -/
namespace Go.Proofs.YtalipfnbpnkgnaaGreat
open Go.RowKit

/-- The errors of a graph that is to be used. -/
def eck (L S : Int) (es : List E3) : Int := if chk L S es ≠ 0 then 1 else if 16 < L then 12 else if detB es = true then 0 else 8
set_option maxRecDepth 100000 in
set_option maxHeartbeats 1600000 in
theorem echeck_any (L S : Int) (es : List E3) (v : Value) (w : World) (hr : Row w v es.length (ce es)) (hok : okEs es) :
    Calls Tryz.prog 53 #[.agg #[.int .i64 L, .int .i64 S, v]] w (Ret w (.int .i64 (eck L S es))) := by
  have hdet := fun w' h => det_any L S es v w' h hok
  have s0 := (Below.refl w.heap.size w).alloc (Nat.le_refl _) (.cells #[.int .i64 L, .int .i64 S, v] 24)
  have bg := Blk.new w 24 [.int .i64 L, .int .i64 S, v]
  have hr0 := hr.below s0 (Nat.le_refl _)
  obtain ⟨E, hE⟩ : ∃ E, E = eck L S es := ⟨_, rfl⟩
  have hE2 := hE
  rw [← hE]
  unfold eck at hE2
  obtain ⟨C, hC⟩ : ∃ C, C = chk L S es := ⟨_, rfl⟩
  obtain ⟨D, hD⟩ : ∃ D, D = detB es := ⟨_, rfl⟩
  rw [← hC, ← hD] at hdet hE2
  have HROW := Lib.hid hr0; clear hr0
  have HDET := Lib.hid hdet; clear hdet
  have BG := Lib.hid bg; clear bg
  have S0 := Lib.hid s0; clear s0
  clear hr hE hC hD
  by_cases hc0 : C = 0
  · have e1 : decide (C = 0) = true := by simp [hc0]
    rw [if_neg (by simpa using hc0)] at hE2
    have hcb : ((if C = 0 then (0 : Int) else 1) != 0) = false := by simp [hc0]
    rw [if_pos hc0] at hcb
    have hd2 := HDET.out
    rw [e1, if_pos hc0, Bool.true_and] at hd2
    have HD2 := Lib.hid hd2; clear hd2
    by_cases hl : 16 < L
    · rw [if_pos hl] at hE2
      have HE := Lib.hid hE2; clear hE2
      clear hc0 e1 HDET
      go_enter Tryz.func53, Tryz.ntmps53
      go_wp2_with fail
      go_at_call 48
      refine (HD2.out _ HROW.out).mono ?_
      rintro e w1 ⟨hq1, rfl⟩
      have tk := BG.out.keep hq1; have x0 := tk.cell (j := 0) rfl; have x1 := tk.cell (j := 1) rfl; have x2 := tk.cell (j := 2) rfl; have B1 := Lib.hid tk; clear tk
      have HQ1 := Lib.hid hq1; clear hq1
      go_wp2_with fail
      go_ret
      exact ⟨S0.out.trans (HQ1.out.mono S0.out.size), by rw [HE.out]; rfl⟩
    · rw [if_neg hl] at hE2
      cases D with
      | true =>
        rw [if_pos rfl] at hE2
        have HE := Lib.hid hE2; clear hE2
        clear hc0 e1 HDET
        go_enter Tryz.func53, Tryz.ntmps53
        go_wp2_with fail
        go_at_call 48
        refine (HD2.out _ HROW.out).mono ?_
        rintro e w1 ⟨hq1, rfl⟩
        have tk := BG.out.keep hq1; have x0 := tk.cell (j := 0) rfl; have x1 := tk.cell (j := 1) rfl; have x2 := tk.cell (j := 2) rfl; have B1 := Lib.hid tk; clear tk
        have HQ1 := Lib.hid hq1; clear hq1
        go_wp2_with fail
        go_ret
        exact ⟨S0.out.trans (HQ1.out.mono S0.out.size), by rw [HE.out]; rfl⟩
      | false =>
        rw [if_neg (by decide)] at hE2
        have HE := Lib.hid hE2; clear hE2
        clear hc0 e1 HDET
        go_enter Tryz.func53, Tryz.ntmps53
        go_wp2_with fail
        go_at_call 48
        refine (HD2.out _ HROW.out).mono ?_
        rintro e w1 ⟨hq1, rfl⟩
        have tk := BG.out.keep hq1; have x0 := tk.cell (j := 0) rfl; have x1 := tk.cell (j := 1) rfl; have x2 := tk.cell (j := 2) rfl; have B1 := Lib.hid tk; clear tk
        have HQ1 := Lib.hid hq1; clear hq1
        go_wp2_with fail
        go_ret
        exact ⟨S0.out.trans (HQ1.out.mono S0.out.size), by rw [HE.out]; rfl⟩
  · have e1 : decide (C = 0) = false := by simp [hc0]
    rw [if_pos (by simpa using hc0)] at hE2
    have hd2 := HDET.out
    rw [e1, if_neg hc0, Bool.false_and] at hd2
    have HD2 := Lib.hid hd2; clear hd2
    have HE := Lib.hid hE2; clear hE2
    clear hc0 e1 HDET
    go_enter Tryz.func53, Tryz.ntmps53
    go_wp2_with fail
    go_at_call 48
    refine (HD2.out _ HROW.out).mono ?_
    rintro e w1 ⟨hq1, rfl⟩
    have tk := BG.out.keep hq1; have x0 := tk.cell (j := 0) rfl; have x1 := tk.cell (j := 1) rfl; have x2 := tk.cell (j := 2) rfl; have B1 := Lib.hid tk; clear tk
    have HQ1 := Lib.hid hq1; clear hq1
    go_wp2_with fail
    go_ret
    exact ⟨S0.out.trans (HQ1.out.mono S0.out.size), by rw [HE.out]; rfl⟩

/-- The errors of a state and a length. -/
def elen (S s n : Int) : Int := if s < 0 ∨ S ≤ s then 25 else if n < 0 ∨ 4096 < n then 2 else 0
set_option maxRecDepth 100000 in
set_option maxHeartbeats 800000 in
theorem elen_any (L S s n : Int) (v : Value) (w : World) :
    Calls Tryz.prog 54 #[.agg #[.int .i64 L, .int .i64 S, v], .int .i64 s, .int .i64 n] w (Ret w (.int .i64 (elen S s n))) := by
  have s0 := (Below.refl w.heap.size w).alloc (Nat.le_refl _) (.cells #[.int .i64 L, .int .i64 S, v] 24)
  have S0 := Lib.hid s0; clear s0
  obtain ⟨E, hE⟩ : ∃ E, E = elen S s n := ⟨_, rfl⟩
  rw [← hE]
  unfold elen at hE
  by_cases h1 : s < 0
  · rw [if_pos (.inl h1)] at hE
    have HE := Lib.hid hE; clear hE
    go_enter Tryz.func54, Tryz.ntmps54
    go_wp2_with fail
    go_ret
    exact ⟨S0.out, by rw [HE.out]; rfl⟩
  · by_cases h2 : S ≤ s
    · rw [if_pos (.inr h2)] at hE
      have HE := Lib.hid hE; clear hE
      go_enter Tryz.func54, Tryz.ntmps54
      go_wp2_with fail
      go_ret
      exact ⟨S0.out, by rw [HE.out]; rfl⟩
    · rw [if_neg (by omega)] at hE
      by_cases h3 : n < 0
      · rw [if_pos (.inl h3)] at hE
        have HE := Lib.hid hE; clear hE
        go_enter Tryz.func54, Tryz.ntmps54
        go_wp2_with fail
        go_ret
        exact ⟨S0.out, by rw [HE.out]; rfl⟩
      · by_cases h4 : 4096 < n
        · rw [if_pos (.inr h4)] at hE
          have HE := Lib.hid hE; clear hE
          go_enter Tryz.func54, Tryz.ntmps54
          go_wp2_with fail
          go_ret
          exact ⟨S0.out, by rw [HE.out]; rfl⟩
        · rw [if_neg (by omega)] at hE
          have HE := Lib.hid hE; clear hE
          go_enter Tryz.func54, Tryz.ntmps54
          go_wp2_with fail
          go_ret
          exact ⟨S0.out, by rw [HE.out]; rfl⟩
theorem every_any (s : Int) (w : World) : Calls Tryz.prog 55 #[.int .i64 s] w (Ret w (.bool true)) := by
  go_enter Tryz.func55, Tryz.ntmps55
  go_wp2_with fail
  go_ret
  exact ⟨Below.refl _ _, rfl⟩
end Go.Proofs.YtalipfnbpnkgnaaGreat

/- enumerative.checkWord. -/
namespace Go.Proofs.YtalipfnbpnkgnaaGreat
open Go.RowKit

/-- The errors of a word. -/
def ckw (L : Int) (l : List UInt8) : Int := if wchk L l ≠ 0 then wchk L l else if 4096 < l.length then 4 else 0
set_option maxRecDepth 100000 in
set_option maxHeartbeats 3200000 in
theorem eckw_any (L S : Int) (a : Option Addr) (n c : Nat) (s : ByteArray) (w : World) (hs : s.size ≤ 9223372036854775807) :
    Calls Tryz.prog 32 #[.agg #[.int .i64 L, .int .i64 S, .slice a n c], .string s] w (Ret w (.int .i64 (ckw L s.data.toList))) := by
  have hw := fun w' => wcheck_any L s w' hs
  have hlen : s.data.toList.length = s.size := bytes_size s
  obtain ⟨E, hE⟩ : ∃ E, wchk L s.data.toList = E := ⟨_, rfl⟩
  have s0 := (Below.refl w.heap.size w).alloc (Nat.le_refl _) (.cells #[.int .i64 L, .int .i64 S, .slice a n c] 24)
  unfold ckw
  rw [hE, hlen]
  rw [hE] at hw
  have HW := Lib.hid hw; clear hw
  have S0 := Lib.hid s0; clear s0
  clear hE hlen
  by_cases h0 : E = 0
  · subst h0
    rw [if_neg (by simp)]
    by_cases hl : 4096 < s.size
    · have t1 : decide (4096 < (s.size : Int)) = true := by simp; omega
      rw [if_pos hl]
      go_enter Tryz.func32, Tryz.ntmps32
      go_wp2_with fail
      go_at_call 68
      refine (HW.out _).mono ?_
      rintro e w1 ⟨hq, rfl⟩
      have HQ := Lib.hid hq; clear hq
      go_wp2_with fail
      go_ret
      exact ⟨S0.out.trans (HQ.out.mono S0.out.size), rfl⟩
    · have t1 : decide (4096 < (s.size : Int)) = false := by simp; omega
      rw [if_neg hl]
      go_enter Tryz.func32, Tryz.ntmps32
      go_wp2_with fail
      go_at_call 68
      refine (HW.out _).mono ?_
      rintro e w1 ⟨hq, rfl⟩
      have HQ := Lib.hid hq; clear hq
      go_wp2_with fail
      go_ret
      exact ⟨S0.out.trans (HQ.out.mono S0.out.size), rfl⟩
  · have t0 : (E != 0) = true := by simp [h0]
    rw [if_pos h0]
    go_enter Tryz.func32, Tryz.ntmps32
    go_wp2_with fail
    go_at_call 68
    refine (HW.out _).mono ?_
    rintro e w1 ⟨hq, rfl⟩
    have HQ := Lib.hid hq; clear hq
    go_wp2_with fail
    go_ret
    exact ⟨S0.out.trans (HQ.out.mono S0.out.size), rfl⟩
end Go.Proofs.YtalipfnbpnkgnaaGreat


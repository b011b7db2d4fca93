/- The law RunlengthReads: true at every input. -/
import Derived.Test.YtadibbbaegbljaaRefCount
import Derived.Test.YtadibbbaegbljaaAwakeB
import Derived.Test.YtadibbbaegbljaaEqInt
namespace Go.Proofs.Ytadibbbaegbljaa
open Go.RowKit

theorem intv_zero : IntV 0 = .agg #[.bool false, .string ⟨#[]⟩] := by simp [ineg, imag, bb_zero]
set_option maxRecDepth 100000 in
set_option maxHeartbeats 800000 in
theorem count_no (d k n : Int) (w : World) (h : pairB d k = false ∨ pairB d k = true ∧ (n < 0 ∨ 4096 < n)) :
    Calls Try.prog 17 #[.int .i64 d, .int .i64 k, .int .i64 n] w (Ret w (.tuple #[IntV 0, .int .i64 2])) := by
  rw [intv_zero]
  rcases h with h | ⟨h, h2 | h2⟩
  · go_enter Try.func17, Try.ntmps17
    go_wp2_with (go_at_call 41; refine (pair_any _ _ _).mono ?_; rintro e w' ⟨rfl, rfl⟩; rw [h])
    refine bodyPost_ret (v := .tuple #[.agg #[.bool false, .string ⟨#[]⟩], .int .i64 2]) (by simp [results, Try.results17, go_sem]) rfl ⟨?_, rfl⟩
    repeat (first | exact Below.refl _ _ | refine Below.alloc ?_ (by simp <;> omega) _)
  · go_enter Try.func17, Try.ntmps17
    go_wp2_with (go_at_call 41; refine (pair_any _ _ _).mono ?_; rintro e w' ⟨rfl, rfl⟩; rw [h])
    refine bodyPost_ret (v := .tuple #[.agg #[.bool false, .string ⟨#[]⟩], .int .i64 2]) (by simp [results, Try.results17, go_sem]) rfl ⟨?_, rfl⟩
    repeat (first | exact Below.refl _ _ | refine Below.alloc ?_ (by simp <;> omega) _)
  · have h3 : decide (n < 0) = false := by simp; omega
    go_enter Try.func17, Try.ntmps17
    go_wp2_with (go_at_call 41; refine (pair_any _ _ _).mono ?_; rintro e w' ⟨rfl, rfl⟩; rw [h])
    refine bodyPost_ret (v := .tuple #[.agg #[.bool false, .string ⟨#[]⟩], .int .i64 2]) (by simp [results, Try.results17, go_sem]) rfl ⟨?_, rfl⟩
    repeat (first | exact Below.refl _ _ | refine Below.alloc ?_ (by simp <;> omega) _)
set_option maxRecDepth 100000 in
set_option maxHeartbeats 800000 in
theorem rcount_no (d k n : Int) (w : World) (h : pairB d k = false ∨ pairB d k = true ∧ (n < 0 ∨ 4096 < n)) :
    Calls Try.prog 18 #[.int .i64 d, .int .i64 k, .int .i64 n] w (Ret w (.tuple #[IntV 0, .int .i64 2])) := by
  rw [intv_zero]
  rcases h with h | ⟨h, h2 | h2⟩
  · go_enter Try.func18, Try.ntmps18
    go_wp2_with (go_at_call 46; refine (rpair_any _ _ _).mono ?_; rintro e w' ⟨rfl, rfl⟩; rw [h])
    refine bodyPost_ret (v := .tuple #[.agg #[.bool false, .string ⟨#[]⟩], .int .i64 2]) (by simp [results, Try.results18, go_sem]) rfl ⟨?_, rfl⟩
    repeat (first | exact Below.refl _ _ | refine Below.alloc ?_ (by simp <;> omega) _)
  · go_enter Try.func18, Try.ntmps18
    go_wp2_with (go_at_call 46; refine (rpair_any _ _ _).mono ?_; rintro e w' ⟨rfl, rfl⟩; rw [h])
    refine bodyPost_ret (v := .tuple #[.agg #[.bool false, .string ⟨#[]⟩], .int .i64 2]) (by simp [results, Try.results18, go_sem]) rfl ⟨?_, rfl⟩
    repeat (first | exact Below.refl _ _ | refine Below.alloc ?_ (by simp <;> omega) _)
  · have h3 : decide (n < 0) = false := by simp; omega
    go_enter Try.func18, Try.ntmps18
    go_wp2_with (go_at_call 46; refine (rpair_any _ _ _).mono ?_; rintro e w' ⟨rfl, rfl⟩; rw [h])
    refine bodyPost_ret (v := .tuple #[.agg #[.bool false, .string ⟨#[]⟩], .int .i64 2]) (by simp [results, Try.results18, go_sem]) rfl ⟨?_, rfl⟩
    repeat (first | exact Below.refl _ _ | refine Below.alloc ?_ (by simp <;> omega) _)
theorem counts_agree (d k n : Int) (hd : d ≤ 9223372036854775807) (hk : k ≤ 9223372036854775807) :
    ∃ x e, (∀ w, Calls Try.prog 17 #[.int .i64 d, .int .i64 k, .int .i64 n] w (Ret w (.tuple #[IntV x, .int .i64 e]))) ∧ (∀ w, Calls Try.prog 18 #[.int .i64 d, .int .i64 k, .int .i64 n] w (Ret w (.tuple #[IntV x, .int .i64 e]))) := by
  by_cases hp : pairB d k = true
  · by_cases hn : n < 0 ∨ 4096 < n
    · exact ⟨0, 2, fun w => count_no d k n w (.inr ⟨hp, hn⟩), fun w => rcount_no d k n w (.inr ⟨hp, hn⟩)⟩
    · obtain ⟨m, rfl⟩ : ∃ m : Nat, n = m := ⟨n.toNat, by omega⟩
      exact ⟨countC d k m, 0, fun w => count_yes d k m w hp (by omega) hd hk, fun w => rcount_yes d k m w hp (by omega) hd hk⟩
  · have hp : pairB d k = false := by simpa using hp
    exact ⟨0, 2, fun w => count_no d k n w (.inl hp), fun w => rcount_no d k n w (.inl hp)⟩

set_option maxRecDepth 100000 in
set_option maxHeartbeats 1600000 in
theorem reads_small (d k n : Int) (s : ByteArray) (w : World) (h : n > 200 ∧ n ≤ 4096 ∨ ¬(n > 200 ∧ n ≤ 4096) ∧ 60 < s.size ∧ s.size ≤ 65536) :
    Calls Try.prog 4 #[.int .i64 d, .int .i64 k, .int .i64 n, .string s] w (Ret w (.bool true)) := by
  rcases h with ⟨h1, h2⟩ | ⟨h0, h1, h2⟩
  · go_enter Try.func4, Try.ntmps4
    go_wp2_with (go_at_call 15; refine (awake_any _).mono ?_; rintro e w1 ⟨hq, rfl⟩; have HQ := Lib.hid hq; clear hq)
    go_ret
    exact ⟨HQ.out, rfl⟩
  · have h3 : decide ((60 : Int) < (s.size : Int)) = true := by simp; omega
    have h4 : decide ((s.size : Int) ≤ 65536) = true := by simp; omega
    by_cases h5 : 200 < n
    · have h6 : ¬ n ≤ 4096 := fun e => h0 ⟨h5, e⟩
      clear h0
      go_enter Try.func4, Try.ntmps4
      go_wp2_with (go_at_call 15; refine (awake_any _).mono ?_; rintro e w1 ⟨hq, rfl⟩; have HQ := Lib.hid hq; clear hq)
      go_ret
      exact ⟨HQ.out, rfl⟩
    · clear h0
      have h6 : decide (200 < n) = false := by simpa using h5
      go_enter Try.func4, Try.ntmps4
      go_wp2_with (go_at_call 15; refine (awake_any _).mono ?_; rintro e w1 ⟨hq, rfl⟩; have HQ := Lib.hid hq; clear hq)
      go_ret
      exact ⟨HQ.out, rfl⟩

set_option maxRecDepth 100000 in
set_option maxHeartbeats 3200000 in
theorem reads_main (d k n : Int) (s : ByteArray) (w : World) (hd : d ≤ 9223372036854775807) (hk : k ≤ 9223372036854775807) (hs : s.size ≤ 9223372036854775807)
    (h1 : n ≤ 200 ∨ 200 < n ∧ 4096 < n) (h2 : s.size ≤ 60 ∨ 60 < s.size ∧ 65536 < s.size) :
    Calls Try.prog 4 #[.int .i64 d, .int .i64 k, .int .i64 n, .string s] w (Ret w (.bool true)) := by
  obtain ⟨x, e, hc1, hc2⟩ := counts_agree d k n hd hk
  have hv1 := fun w' => Valid_any d k s w' hs
  have hv2 := fun w' => rValid_any d k s w' hs
  have hg1 := fun w' => Greatest_any d k s w' hs
  have hg2 := fun w' => rGreatest_any d k s w' hs
  obtain ⟨vb, hvb⟩ : ∃ b, b = validR d k s.data.toList := ⟨_, rfl⟩
  obtain ⟨re, hre⟩ : ∃ b, b = rchk d k s.data.toList := ⟨_, rfl⟩
  obtain ⟨gs, hgs⟩ : ∃ b, b = greatestS d k s := ⟨_, rfl⟩
  simp only [← hvb, ← hre] at hv1 hv2
  simp only [← hgs, ← hre] at hg1 hg2
  clear hvb hre hgs
  have HC1 := Lib.hid hc1; clear hc1
  have HC2 := Lib.hid hc2; clear hc2
  have HV1 := Lib.hid hv1; clear hv1
  have HV2 := Lib.hid hv2; clear hv2
  have HG1 := Lib.hid hg1; clear hg1
  have HG2 := Lib.hid hg2; clear hg2
  have heq : ∀ w', (binOp .eql 34 (.agg #[.bool (ineg x), .string (imag x)]) (.agg #[.bool (ineg x), .string (imag x)])).run Try.prog w' = .ok (.bool true) w' := fun w' => by rw [eql_int, beq_toListBytes]; simp
  have HEQ := Lib.hid heq; clear heq hd hk
  rcases h1 with h1 | ⟨h1, h1'⟩ <;> rcases h2 with h2 | ⟨h2, h2'⟩
  all_goals
    go_enter Try.func4, Try.ntmps4
    go_wp2_with fail
    go_at_call 13
    refine (HV1.out _).mono ?_
    rintro e1 w1 ⟨hq, rfl⟩
    have HQ1 := Lib.hid hq; clear hq
    go_wp2_with fail
    go_at_call 16
    refine (HV2.out _).mono ?_
    rintro e1 w' ⟨rfl, rfl⟩
    go_wp2_with fail
    go_at_call 17
    refine (HC1.out _).mono ?_
    rintro e1 w2 ⟨hq, rfl⟩
    have HQ2 := Lib.hid hq; clear hq
    go_wp2_with fail
    go_at_call 18
    refine (HC2.out _).mono ?_
    rintro e1 w3 ⟨hq, rfl⟩
    have HQ3 := Lib.hid hq; clear hq
    go_wp2_with fail
    go_at_call 19
    refine (HG1.out _).mono ?_
    rintro e1 w4 ⟨hq, rfl⟩
    have HQ4 := Lib.hid hq; clear hq
    go_wp2_with fail
    go_at_call 20
    refine (HG2.out _).mono ?_
    rintro e1 w' ⟨rfl, rfl⟩
    have hb1 := Blk.new w2 34 [.bool (ineg x), .string (imag x)]
    have hb1 := ((hb1.keep HQ3.out).alloc (.cells #[.bool (ineg x), .string (imag x)] 34)).keep HQ4.out
    have hb2 := (Blk.new w3 34 [.bool (ineg x), .string (imag x)]).keep HQ4.out
    have c1 := hb1.cell (j := 0) rfl
    have d1 := hb1.cell (j := 1) rfl
    have HA1 := Lib.hid hb1; clear hb1
    have c2 := hb2.cell (j := 0) rfl
    have d2 := hb2.cell (j := 1) rfl
    have HA2 := Lib.hid hb2; clear hb2
    have heq := HEQ.out
    go_wp2_with (go_at_call 15; refine (awake_any _).mono ?_; rintro e1 w8 ⟨hq, rfl⟩; have HQ8 := Lib.hid hq; clear hq)
    go_ret
    have s1 := HQ1.out.trans (HQ2.out.mono HQ1.out.size)
    have s2 := s1.alloc s1.size (.cells #[.bool (ineg x), .string (imag x)] 34)
    have s3 := s2.trans (HQ3.out.mono s2.size)
    have s4 := s3.alloc s3.size (.cells #[.bool (ineg x), .string (imag x)] 34)
    have s5 := s4.trans (HQ4.out.mono s4.size)
    exact ⟨s5.trans (HQ8.out.mono s5.size), rfl⟩
theorem law_reads (d k n : Int) (s : ByteArray) (w : World) (hd : d ≤ 9223372036854775807) (hk : k ≤ 9223372036854775807) (hs : s.size ≤ 9223372036854775807) :
    Calls Try.prog 4 #[.int .i64 d, .int .i64 k, .int .i64 n, .string s] w (Ret w (.bool true)) := by
  by_cases h : n > 200 ∧ n ≤ 4096 ∨ ¬(n > 200 ∧ n ≤ 4096) ∧ 60 < s.size ∧ s.size ≤ 65536
  · exact reads_small d k n s w h
  · exact reads_main d k n s w hd hk hs (by omega) (by omega)
end Go.Proofs.Ytadibbbaegbljaa

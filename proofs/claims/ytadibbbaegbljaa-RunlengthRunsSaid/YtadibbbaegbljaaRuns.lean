/- The law RunlengthRuns: true at every input. -/
import Derived.Test.YtadibbbaegbljaaLongest
import Derived.Test.YtadibbbaegbljaaWrapT
import Derived.Test.YtadibbbaegbljaaWords
namespace Go.Proofs.Ytadibbbaegbljaa
open Go.RowKit

theorem transC (j k : Nat) (w : World) (hj : 1 ≤ j) (hk : 1 ≤ k) (hjk : j + k ≤ 64) :
    Calls Try.prog 29 #[.int .i64 (j : Int), .int .i64 (k : Int)] w (GOut 2 ((j + k : Nat) : Int) (canon (j + k) (tT j k)) 0 w) :=
  (trans_any j k w hj hk hjk).mono fun e w' h => gout_of_make (by omega) (trans_tells j k hj hk hjk) h
set_option maxRecDepth 100000 in
set_option maxHeartbeats 3200000 in
theorem law_runs (a b n : Int) (w : World) (ha : 0 ≤ a ∧ a ≤ 255) (hb : 0 ≤ b ∧ b ≤ 255) (hn : 0 ≤ n ∧ n ≤ 65535) :
    Calls Try.prog 10 #[.int .u8 a, .int .u8 b, .int .u16 n] w (Ret w (.bool true)) := by
  obtain ⟨x, rfl⟩ : ∃ x : Nat, a = x := ⟨a.toNat, by omega⟩
  obtain ⟨y, rfl⟩ : ∃ y : Nat, b = y := ⟨b.toNat, by omega⟩
  have t1 : (x : Int).tmod 5 = ((x % 5 : Nat) : Int) := by rw [Int.tmod_eq_emod_of_nonneg (by omega)]; rfl
  have t2 : (y : Int).tmod 5 = ((y % 5 : Nat) : Int) := by rw [Int.tmod_eq_emod_of_nonneg (by omega)]; rfl
  have t1' : (x : Int) % 5 = ((x % 5 : Nat) : Int) := by omega
  have t2' : (y : Int) % 5 = ((y % 5 : Nat) : Int) := by omega
  obtain ⟨j, hj⟩ : ∃ j, j = x % 5 := ⟨_, rfl⟩
  obtain ⟨k, hk⟩ : ∃ k, k = y % 5 := ⟨_, rfl⟩
  have hj4 : j ≤ 4 := by omega
  have hk4 : k ≤ 4 := by omega
  rw [← hj] at t1 t1'
  rw [← hk] at t2 t2'
  clear hj hk
  have htc := fun w' => transC (j + 1) (k + 1) w' (by omega) (by omega) (by omega)
  rw [show ((j + 1 : Nat) : Int) = 1 + (j : Int) by omega, show ((k + 1 : Nat) : Int) = 1 + (k : Int) by omega] at htc
  have hco := check_ok (tT_fit (j + 1) (k + 1) (by omega) (by omega)) (show j + 1 + (k + 1) ≤ 64 by omega)
  obtain ⟨S, hS⟩ : ∃ S, S = j + 1 + (k + 1) := ⟨_, rfl⟩
  rw [← hS] at htc
  obtain ⟨es, hes⟩ : ∃ es, es = canon S (tT (j + 1) (k + 1)) := ⟨_, rfl⟩
  rw [← hes] at htc
  have HTC := Lib.hid htc; clear htc hco
  have HES := Lib.hid hes; clear hes
  have HSS := Lib.hid hS; clear hS
  go_enter Try.func10, Try.ntmps10
  go_wp2_with (first | (go_at_call 12; refine (binary_any n w hn).mono ?_; rintro e w1 ⟨hq, sw, hsw, rfl⟩; have HQ1 := Lib.hid hq; clear hq; have HS := Lib.hid hsw; clear hsw) | fail)
  have hs10 := HS.out.1
  have hpo := path_ok (tT_fit (j + 1) (k + 1) (by omega) (by omega)) (by omega) HS.out
  unfold PathOk at hpo
  rw [← HSS.out, ← HES.out] at hpo
  obtain ⟨bp, hbp⟩ : ∃ bp, bp = pathD S (tT (j + 1) (k + 1)) sw.data.toList := ⟨_, rfl⟩
  rw [← hbp] at hpo
  have hl1 : ∀ w', Calls Try.prog 35 #[.string sw, .int .i64 1] w' (Ret w' (.tuple #[.int .i64 (longest 49 sw.data.toList : Int), .int .i64 0])) := fun w' => longest_any sw 49 w' (by omega) HS.out.2 (.inr rfl)
  have hl0 : ∀ w', Calls Try.prog 35 #[.string sw, .int .i64 0] w' (Ret w' (.tuple #[.int .i64 (longest 48 sw.data.toList : Int), .int .i64 0])) := fun w' => longest_any sw 48 w' (by omega) HS.out.2 (.inl rfl)
  have hiff : bp = true ↔ longest 49 sw.data.toList ≤ j + 1 ∧ longest 48 sw.data.toList ≤ k + 1 := by
    rw [hbp, HSS.out, pathT (j + 1) (k + 1) (by omega) (by omega) (by omega) HS.out.2, okRuns_longest _ _ HS.out.2]
  obtain ⟨m1, hm1⟩ : ∃ m, m = longest 49 sw.data.toList := ⟨_, rfl⟩
  obtain ⟨m0, hm0⟩ : ∃ m, m = longest 48 sw.data.toList := ⟨_, rfl⟩
  rw [← hm1] at hl1 hiff
  rw [← hm0] at hl0 hiff
  clear hm1 hm0 hbp
  have HPO := Lib.hid hpo; clear hpo
  have HL1 := Lib.hid hl1; clear hl1
  have HL0 := Lib.hid hl0; clear hl0
  have HIF := Lib.hid hiff; clear hiff
  go_at_call 29
  refine (HTC.out _).mono ?_
  rintro e w2 ⟨hq, vg, rfl, hrow⟩
  obtain ⟨ag, cg, rfl, -⟩ := hrow.slice
  have HQ2 := Lib.hid hq; clear hq
  have ba := Blk.new w2 46 [.int .i64 2, .int .i64 (S : Int), (.slice ag es.length cg)]
  have hra := hrow.below ((Below.refl w2.heap.size w2).alloc (Nat.le_refl _) (.cells #[.int .i64 2, .int .i64 (S : Int), (.slice ag es.length cg)] 46)) (Nat.le_refl _)
  have HBA := Lib.hid ba; clear ba
  have HRA := Lib.hid hra; clear hra hrow
  go_wp2_with fail
  go_at_call 35
  refine (HL1.out _).mono ?_
  rintro e w3 ⟨hq, rfl⟩
  have HB3 := Lib.hid (HBA.out.keep hq)
  have HR3 := Lib.hid (HRA.out.below hq (Nat.le_refl _))
  have HQ3 := Lib.hid hq; clear hq
  go_wp2_with fail
  go_at_call 35
  refine (HL0.out _).mono ?_
  rintro e w4 ⟨hq, rfl⟩
  have b4 := HB3.out.keep hq
  have c40 := b4.cell (j := 0) rfl
  have c41 := b4.cell (j := 1) rfl
  have c42 := b4.cell (j := 2) rfl
  clear b4
  have HR4 := Lib.hid (HR3.out.below hq (Nat.le_refl _))
  have HQ4 := Lib.hid hq; clear hq
  have s2 := HQ1.out.trans (HQ2.out.mono HQ1.out.size)
  have s2 := s2.alloc s2.size (.cells #[.int .i64 2, .int .i64 (S : Int), (.slice ag es.length cg)] 46)
  have s3 := s2.trans (HQ3.out.mono s2.size)
  have s4 := s3.trans (HQ4.out.mono s3.size)
  have S4 := Lib.hid s4; clear s2 s3 s4
  have hmax : ∀ w ts t, (Builtin.max_ ts t #[.int .i64 0, .int .i64 0, .int .i64 0]).run Try.prog w = .ok (.int .i64 0) w := by intro w ts t; simp [Builtin.max_, Builtin.max2]
  go_wp2_with fail
  go_at_call 32
  refine (HPO.out _ _ HR4.out).mono ?_
  rintro e w5 ⟨hq, rfl⟩
  have HQ5 := Lib.hid hq; clear hq
  have s5 := S4.out.trans (HQ5.out.mono S4.out.size)
  have S5 := Lib.hid s5; clear s5
  by_cases h1 : m1 ≤ j + 1
  · have hd1 : decide ((m1 : Int) ≤ 1 + (j : Int)) = true := by simp; omega
    by_cases h2 : m0 ≤ k + 1
    · have hd2 : decide ((m0 : Int) ≤ 1 + (k : Int)) = true := by simp; omega
      obtain rfl : bp = true := HIF.out.2 ⟨h1, h2⟩
      go_wp2_with (go_at_call 15; refine (awake_any _).mono ?_; rintro e w6 ⟨hq, rfl⟩; have HQ6 := Lib.hid hq; clear hq)
      go_ret
      exact ⟨S5.out.trans (HQ6.out.mono S5.out.size), rfl⟩
    · have hd2 : decide ((m0 : Int) ≤ 1 + (k : Int)) = false := by simp; omega
      obtain rfl : bp = false := by
        cases bp with
        | false => rfl
        | true => exact absurd (HIF.out.1 rfl).2 h2
      go_wp2_with (go_at_call 15; refine (awake_any _).mono ?_; rintro e w6 ⟨hq, rfl⟩; have HQ6 := Lib.hid hq; clear hq)
      go_ret
      exact ⟨S5.out.trans (HQ6.out.mono S5.out.size), rfl⟩
  · have hd1 : decide ((m1 : Int) ≤ 1 + (j : Int)) = false := by simp; omega
    obtain rfl : bp = false := by
      cases bp with
      | false => rfl
      | true => exact absurd (HIF.out.1 rfl).1 h1
    go_wp2_with (go_at_call 15; refine (awake_any _).mono ?_; rintro e w6 ⟨hq, rfl⟩; have HQ6 := Lib.hid hq; clear hq)
    go_ret
    exact ⟨S5.out.trans (HQ6.out.mono S5.out.size), rfl⟩
end Go.Proofs.Ytadibbbaegbljaa

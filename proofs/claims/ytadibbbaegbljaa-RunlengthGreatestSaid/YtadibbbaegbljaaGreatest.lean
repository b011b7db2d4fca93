/- The law RunlengthGreatest: true at every input. -/
import Derived.Test.YtadibbbaegbljaaPlainG
namespace Go.Proofs.Ytadibbbaegbljaa
open Go.RowKit

set_option maxRecDepth 100000 in
set_option maxHeartbeats 1600000 in
theorem law_greatest (a b n : Int) (w : World) (ha : 0 ≤ a ∧ a ≤ 255) (hb : 0 ≤ b ∧ b ≤ 255) (hn : 0 ≤ n ∧ n ≤ 65535) :
    Calls Try.prog 5 #[.int .u8 a, .int .u8 b, .int .u16 n] w (Ret w (.bool true)) := by
  have hp := ofK_pair a b
  obtain ⟨d, hd⟩ : ∃ d, d = ofD a := ⟨_, rfl⟩
  obtain ⟨k, hk⟩ : ∃ k, k = ofK a b := ⟨_, rfl⟩
  have hof := of_any a b w ha hb
  rw [← hd, ← hk] at hp hof
  clear hd hk
  have HOF := Lib.hid hof; clear hof
  have HP := Lib.hid hp; clear hp
  go_enter Try.func5, Try.ntmps5
  go_wp2_with (first | (go_at_call 11; refine HOF.out.mono ?_; rintro e w' ⟨rfl, rfl⟩) | (go_at_call 12; refine (binary_any n w hn).mono ?_; rintro e w1 ⟨hq, s, hs, rfl⟩; have HQ1 := Lib.hid hq; clear hq; have HS := Lib.hid hs; clear hs) | fail)
  obtain ⟨f1, f2, f3, f4, f5⟩ := greatest_facts HP.out HS.out
  have hr1 := rchk_word HP.out HS.out.len HS.out.2
  have hr2 := rchk_word HP.out f3.len f3.2
  have hs10 := HS.out.1
  have hG := Greatest_any d k s w1 (by omega)
  rw [hr1] at hG
  obtain ⟨u, hu⟩ : ∃ u, u = greatestS d k s := ⟨_, rfl⟩
  rw [← hu] at hG f1 f2 f3 f4 f5 hr2
  have HG := Lib.hid hG; clear hG
  have HR2 := Lib.hid hr2; clear hr2
  have HR1 := Lib.hid hr1; clear hr1
  have F4 := Lib.hid f4; clear f4
  have F5 := Lib.hid f5; clear f5
  have F3 := Lib.hid f3; clear f3
  clear hu
  have t1 : decide ((s.size : Int) < (u.size : Int)) = false := by simp; omega
  have t1' : decide (s.size < u.size) = false := by simp; omega
  have t2 : ((s.extract 0 u.size).toList == u.toList) = true := by rw [f2]; simp
  have HF2 := Lib.hid f2; clear f2
  by_cases huw : u = s
  · have t3 : (u.toList == s.toList) = true := by simp [huw]
    have HU := Lib.hid huw; clear huw
    go_at_call 19
    refine HG.out.mono ?_
    rintro e w2 ⟨hq, rfl⟩
    have HQ2 := Lib.hid hq; clear hq
    go_wp2_with (first | (go_at_call 13; refine (Valid_any d k u _ (by omega)).mono ?_; rintro e w3 ⟨hq, rfl⟩; rw [F4.out, HR2.out]; have HQ3 := Lib.hid hq; clear hq) | (go_at_call 15; refine (awake_any _).mono ?_; rintro e w4 ⟨hq, rfl⟩; have HQ4 := Lib.hid hq; clear hq))
    go_ret
    have s1 := HQ1.out.trans (HQ2.out.mono HQ1.out.size)
    have s2 := s1.trans (HQ3.out.mono s1.size)
    exact ⟨s2.trans (HQ4.out.mono s2.size), rfl⟩
  · have t3 : (u.toList == s.toList) = false := by rw [← beq_toListBytes, beq_bytes]; simp [huw]
    have hlt : u.size < s.size := by
      rcases Nat.lt_or_ge u.size s.size with h | h
      · exact h
      · exact absurd (by rw [← HF2.out, show u.size = s.size by omega, ByteArray.extract_zero_size]) huw
    have hv := Valid_any d k (s.extract 0 (u.size + 1))
    have hvr := rchk_word HP.out (HS.out.ext 0 (u.size + 1)).len (HS.out.ext 0 (u.size + 1)).2
    rw [F5.out hlt, hvr] at hv
    have hsz : (s.extract 0 (u.size + 1)).size ≤ 9223372036854775807 := by rw [ByteArray.size_extract]; omega
    have HV := Lib.hid hv; clear hv hvr
    have HSZ := Lib.hid hsz; clear hsz
    have HU := Lib.hid huw; clear huw
    go_at_call 19
    refine HG.out.mono ?_
    rintro e w2 ⟨hq, rfl⟩
    have HQ2 := Lib.hid hq; clear hq
    go_wp2_with fail
    go_at_call 13
    refine (Valid_any d k u _ (by omega)).mono ?_
    rintro e w3 ⟨hq, rfl⟩
    rw [F4.out, HR2.out]
    have HQ3 := Lib.hid hq; clear hq
    go_wp2_with (first | (go_at_call 13; refine (HV.out _ HSZ.out).mono ?_; rintro e w4 ⟨hq, rfl⟩; have HQ4 := Lib.hid hq; clear hq) | (go_at_call 15; refine (awake_any _).mono ?_; rintro e w5 ⟨hq, rfl⟩; have HQ5 := Lib.hid hq; clear hq))
    go_ret
    have s1 := HQ1.out.trans (HQ2.out.mono HQ1.out.size)
    have s2 := s1.trans (HQ3.out.mono s1.size)
    have s3 := s2.trans (HQ4.out.mono s2.size)
    exact ⟨s3.trans (HQ5.out.mono s3.size), rfl⟩
end Go.Proofs.Ytadibbbaegbljaa

/- The law RunlengthFactors: true at every input. -/
import Derived.Test.YtadibbbaegbljaaPlainF
import Derived.Test.YtadibbbaegbljaaAwakeB
import Derived.Test.YtadibbbaegbljaaReverse
import Derived.BigQuiet
namespace Go.Proofs.Ytadibbbaegbljaa
open Go.RowKit

theorem valid_iff {d k : Int} {s : ByteArray} (hp : pairB d k = true) (hw : IsWord s) : validR d k s.data.toList = true ↔ okP d k s.data.toList 0 false := by
  rw [validR_word hp hw, okW_iff]
theorem IsWord.rev {s : ByteArray} (h : IsWord s) : IsWord ⟨s.data.toList.reverse.toArray⟩ := by
  refine ⟨?_, fun c hc => h.2 c (by simpa using hc)⟩
  have := h.1
  rw [← bytes_size] at this ⊢
  simpa using this
/-- What the law needs. -/
theorem factor_facts {d k : Int} {s : ByteArray} (hp : pairB d k = true) (hw : IsWord s) :
    validR d k (ByteArray.data ⟨s.data.toList.reverse.toArray⟩).toList = validR d k s.data.toList ∧
    (validR d k s.data.toList = true → (∀ i j, validR d k (s.extract i j).data.toList = true) ∧ validR (max (d - 1) 0) k s.data.toList = true ∧ validR d (-1) s.data.toList = true) := by
  have hd : 0 ≤ d := by simp [pairB] at hp; omega
  have hp1 : pairB (max (d - 1) 0) k = true := by simp [pairB] at hp ⊢; omega
  have hp2 : pairB d (-1) = true := by simp [pairB]; omega
  refine ⟨?_, fun h => ⟨fun i j => ?_, ?_, ?_⟩⟩
  · rw [Bool.eq_iff_iff, valid_iff hp hw.rev, valid_iff hp hw]
    rw [show (ByteArray.data ⟨s.data.toList.reverse.toArray⟩).toList = s.data.toList.reverse by simp]
    exact okP_rev d k _
  · rw [valid_iff hp (hw.ext i j), ext_list2]
    exact okP_drop d k _ i 0 false (by omega) (okP_take d k _ j 0 false ((valid_iff hp hw).1 h))
  · rw [valid_iff hp1 hw]
    exact okP_mono d _ k k (by omega) (.inl rfl) _ _ _ ((valid_iff hp hw).1 h)
  · rw [valid_iff hp2 hw]
    exact okP_mono d d k (-1) (by omega) (.inr (by omega)) _ _ _ ((valid_iff hp hw).1 h)

set_option maxRecDepth 100000 in
set_option maxHeartbeats 1600000 in
theorem law_factors (a b n f t : Int) (w : World) (ha : 0 ≤ a ∧ a ≤ 255) (hb : 0 ≤ b ∧ b ≤ 255) (hn : 0 ≤ n ∧ n ≤ 65535) (hf : 0 ≤ f ∧ f ≤ 255) (ht : 0 ≤ t ∧ t ≤ 255) :
    Calls Try.prog 3 #[.int .u8 a, .int .u8 b, .int .u16 n, .int .u8 f, .int .u8 t] w (Ret w (.bool true)) := by
  have hp := ofK_pair a b
  obtain ⟨d, hd⟩ : ∃ d, d = ofD a := ⟨_, rfl⟩
  obtain ⟨k, hk⟩ : ∃ k, k = ofK a b := ⟨_, rfl⟩
  have hof := of_any a b w ha hb
  have hd4 : 0 ≤ d ∧ d ≤ 4 := by rw [hd]; unfold ofD; omega
  rw [← hd, ← hk] at hp hof
  clear hd hk
  have HOF := Lib.hid hof; clear hof
  have HP := Lib.hid hp; clear hp
  go_enter Try.func3, Try.ntmps3
  go_wp2_with (first | (go_at_call 11; refine HOF.out.mono ?_; rintro e w' ⟨rfl, rfl⟩) | (go_at_call 12; refine (binary_any n w hn).mono ?_; rintro e w1 ⟨hq, s, hs, rfl⟩; have HQ1 := Lib.hid hq; clear hq; have HS := Lib.hid hs; clear hs) | fail)
  obtain ⟨f1, f2⟩ := factor_facts HP.out HS.out
  have hr1 := rchk_word HP.out HS.out.len HS.out.2
  have hr2 := rchk_word HP.out HS.out.rev.len HS.out.rev.2
  have hs10 := HS.out.1
  have hV1 := Valid_any d k s w1 (by omega)
  rw [hr1] at hV1
  have hV2 := fun w' => Valid_any d k ⟨s.data.toList.reverse.toArray⟩ w' (by have := HS.out.rev.1; omega)
  simp only [hr2, f1] at hV2
  obtain ⟨V, hVV⟩ : ∃ V, V = validR d k s.data.toList := ⟨_, rfl⟩
  simp only [← hVV] at hV1 hV2 f2
  have HV1 := Lib.hid hV1; clear hV1
  have HV2 := Lib.hid hV2; clear hV2
  have F2 := Lib.hid f2; clear f2 f1 hr1 hr2 hVV
  go_at_call 13
  refine HV1.out.mono ?_
  rintro e w2 ⟨hq, rfl⟩
  have HQ2 := Lib.hid hq; clear hq
  have hcv := run_bytes_of_string (P := Try.prog) w2 9 29 5 s Try.underlying9 Try.underlying29 Try.underlying5
  obtain ⟨cap, hcap⟩ : ∃ c, c = grownCap w2 s.size 0 5 := ⟨_, rfl⟩
  rw [← hcap] at hcv
  clear hcap
  have hrev := reverse_any s.data.toList w2.heap.size cap _ (bytes_holds w2.drew s cap 5) (by rw [bytes_size]; omega)
  rw [bytes_size] at hrev
  have HREV := Lib.hid hrev; clear hrev
  have hs3 := ((Below.refl w2.heap.size w2).drew.alloc (Nat.le_refl _) (.cells (bytesRow s cap) 5 ((bytesRow s cap).size, (bytesRow s cap).size + 1)))
  have HS3 := Lib.hid hs3; clear hs3
  go_wp2_with fail
  go_at_call 14
  refine HREV.out.mono ?_
  rintro e w3 ⟨rfl, hg, hconv⟩
  rw [bytes_size] at hconv
  have HG := Lib.hid hg; clear hg
  clear hcv
  go_wp2_with fail
  go_at_call 13
  refine (HV2.out _).mono ?_
  rintro e w4 ⟨hq, rfl⟩
  have HQ4 := Lib.hid hq; clear hq hconv
  have hfr := ((HQ1.out.trans (HQ2.out.mono HQ1.out.size)).trans (HS3.out.mono (HQ1.out.trans (HQ2.out.mono HQ1.out.size)).size)).grown HG.out (by have h1 := HQ1.out.size; have h2 := HQ2.out.size; simp; omega) (fun j hj => by cases hj; have h1 := HQ1.out.size; have h2 := HQ2.out.size; omega)
  have hfr2 := hfr.trans (HQ4.out.mono hfr.size)
  have HFR := Lib.hid hfr2; clear hfr hfr2
  cases V with
  | false =>
    go_wp2_with (go_at_call 15; refine (awake_any _).mono ?_; rintro e w5 ⟨hq, rfl⟩; have HQ5 := Lib.hid hq; clear hq)
    go_ret
    exact ⟨HFR.out.trans (HQ5.out.mono HFR.out.size), rfl⟩
  | true =>
    obtain ⟨g1, g2, g3⟩ := F2.out rfl
    have G1 := Lib.hid g1; clear g1
    have G2 := Lib.hid g2; clear g2
    have G3 := Lib.hid g3; clear g3
    clear F2
    have hp1 : pairB (max (d - 1) 0) k = true := by have hp := HP.out; simp [pairB] at hp ⊢; omega
    have hp2 : pairB d (-1) = true := by simp [pairB]; omega
    obtain ⟨x, rfl⟩ : ∃ x : Nat, f = x := ⟨f.toNat, by omega⟩
    obtain ⟨y, rfl⟩ : ∃ y : Nat, t = y := ⟨t.toNat, by omega⟩
    obtain ⟨I, hI⟩ : ∃ I, I = x % (s.size + 1) := ⟨_, rfl⟩
    obtain ⟨J, hJ⟩ : ∃ J, J = y % (s.size + 1) := ⟨_, rfl⟩
    have hIl : I ≤ s.size := by have := Nat.mod_lt x (show s.size + 1 > 0 by omega); omega
    have hJl : J ≤ s.size := by have := Nat.mod_lt y (show s.size + 1 > 0 by omega); omega
    have t1 : (x : Int).tmod ((s.size : Int) + 1) = (I : Int) := by rw [hI, Int.tmod_eq_emod_of_nonneg (by omega)]; rfl
    have t2 : (y : Int).tmod ((s.size : Int) + 1) = (J : Int) := by rw [hJ, Int.tmod_eq_emod_of_nonneg (by omega)]; rfl
    have t3 : ((s.size : Int) + 1 == 0) = false := by simp; omega
    have HP1 := Lib.hid hp1
    clear hI hJ
    go_wp2_with fail
    go_quiet (fail)
    by_cases hIJ : J < I
    · have t4 : decide ((J : Int) < (I : Int)) = true := by simpa using hIJ
      have hi1 := HS.out.ext J I
      have hv1 := fun w' => Valid_any d k (s.extract J I) w' (by have := hi1.1; omega)
      simp only [G1.out J I, rchk_word HP.out hi1.len hi1.2] at hv1
      have hv2 := fun w' => Valid_any (max (d - 1) 0) k s w' (by omega)
      simp only [G2.out, rchk_word hp1 HS.out.len HS.out.2] at hv2
      have hv3 := fun w' => Valid_any d (-1) s w' (by omega)
      simp only [G3.out, rchk_word hp2 HS.out.len HS.out.2] at hv3
      have W1 := Lib.hid hv1; clear hv1 hi1
      have W2 := Lib.hid hv2; clear hv2
      have W3 := Lib.hid hv3; clear hv3
      go_wp2_with fail
      go_at_call 13
      refine (W1.out _).mono ?_
      rintro e w5 ⟨hq, rfl⟩
      have HQ5 := Lib.hid hq; clear hq
      go_wp2_with fail
      go_at_call 13
      refine (W2.out _).mono ?_
      rintro e w6 ⟨hq, rfl⟩
      have HQ6 := Lib.hid hq; clear hq
      go_wp2_with fail
      go_at_call 13
      refine (W3.out _).mono ?_
      rintro e w7 ⟨hq, rfl⟩
      have HQ7 := Lib.hid hq; clear hq
      go_wp2_with (go_at_call 15; refine (awake_any _).mono ?_; rintro e w8 ⟨hq, rfl⟩; have HQ8 := Lib.hid hq; clear hq)
      go_ret
      have s5 := (below_drewN HFR.out _).trans (HQ5.out.mono HFR.out.size)
      have s6 := s5.trans (HQ6.out.mono s5.size)
      have s7 := s6.trans (HQ7.out.mono s6.size)
      exact ⟨s7.trans (HQ8.out.mono s7.size), rfl⟩
    · have t4 : decide ((J : Int) < (I : Int)) = false := by simpa using hIJ
      have hi1 := HS.out.ext I J
      have hv1 := fun w' => Valid_any d k (s.extract I J) w' (by have := hi1.1; omega)
      simp only [G1.out I J, rchk_word HP.out hi1.len hi1.2] at hv1
      have hv2 := fun w' => Valid_any (max (d - 1) 0) k s w' (by omega)
      simp only [G2.out, rchk_word hp1 HS.out.len HS.out.2] at hv2
      have hv3 := fun w' => Valid_any d (-1) s w' (by omega)
      simp only [G3.out, rchk_word hp2 HS.out.len HS.out.2] at hv3
      have W1 := Lib.hid hv1; clear hv1 hi1
      have W2 := Lib.hid hv2; clear hv2
      have W3 := Lib.hid hv3; clear hv3
      go_wp2_with fail
      go_at_call 13
      refine (W1.out _).mono ?_
      rintro e w5 ⟨hq, rfl⟩
      have HQ5 := Lib.hid hq; clear hq
      go_wp2_with fail
      go_at_call 13
      refine (W2.out _).mono ?_
      rintro e w6 ⟨hq, rfl⟩
      have HQ6 := Lib.hid hq; clear hq
      go_wp2_with fail
      go_at_call 13
      refine (W3.out _).mono ?_
      rintro e w7 ⟨hq, rfl⟩
      have HQ7 := Lib.hid hq; clear hq
      go_wp2_with (go_at_call 15; refine (awake_any _).mono ?_; rintro e w8 ⟨hq, rfl⟩; have HQ8 := Lib.hid hq; clear hq)
      go_ret
      have s5 := (below_drewN HFR.out _).trans (HQ5.out.mono HFR.out.size)
      have s6 := s5.trans (HQ6.out.mono s5.size)
      have s7 := s6.trans (HQ7.out.mono s6.size)
      exact ⟨s7.trans (HQ8.out.mono s7.size), rfl⟩
end Go.Proofs.Ytadibbbaegbljaa

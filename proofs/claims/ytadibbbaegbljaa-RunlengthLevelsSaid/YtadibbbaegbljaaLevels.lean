/- The law RunlengthLevels: true at every input. -/
import Derived.Test.YtadibbbaegbljaaPlainV
import Derived.Test.YtadibbbaegbljaaWrapL
import Derived.Test.YtadibbbaegbljaaWords
import Derived.BigQuiet
namespace Go.Proofs.Ytadibbbaegbljaa
open Go.RowKit

theorem levelsC (d E : Nat) (k : Int) (w : World) (hp : pairB (d : Int) k = true) (hl : lastI (d : Int) k = E) (hdE : d ≤ E) (hE : E < 32) :
    Calls Try.prog 25 #[.int .i64 (d : Int), .int .i64 k] w (GOut 2 ((2 * (E + 1) : Nat) : Int) (canon (2 * (E + 1)) (tL d (k == -1) (E + 1))) 0 w) :=
  (levels_any d (E + 1) k w hp (by omega) (by omega) (by omega) (by omega)).mono fun e w' h => gout_of_make (by omega) (levels_tells d (k == -1) (E + 1) (by omega) (by omega)) h
set_option maxRecDepth 100000 in
set_option maxHeartbeats 3200000 in
theorem law_levels (a b n : Int) (w : World) (ha : 0 ≤ a ∧ a ≤ 255) (hb : 0 ≤ b ∧ b ≤ 255) (hn : 0 ≤ n ∧ n ≤ 65535) :
    Calls Try.prog 9 #[.int .u8 a, .int .u8 b, .int .u16 n] w (Ret w (.bool true)) := by
  have hp := ofK_pair a b
  obtain ⟨d, hd⟩ : ∃ d, d = ofD a := ⟨_, rfl⟩
  obtain ⟨k, hk⟩ : ∃ k, k = ofK a b := ⟨_, rfl⟩
  have hd4 : 0 ≤ d ∧ d ≤ 4 := by rw [hd]; unfold ofD; omega
  have hk4 : -1 ≤ k ∧ k ≤ 10 := by rw [hk]; unfold ofK; split <;> omega
  rw [← hd, ← hk] at hp
  obtain ⟨D, rfl⟩ : ∃ D : Nat, d = D := ⟨d.toNat, by omega⟩
  have hp' := hp
  simp [pairB] at hp'
  obtain ⟨E, hE, hE10, hDE⟩ : ∃ E : Nat, lastI (D : Int) k = E ∧ E ≤ 10 ∧ D ≤ E := ⟨(lastI (D : Int) k).toNat, by unfold lastI; split <;> omega, by unfold lastI; split <;> omega, by unfold lastI; split <;> omega⟩
  clear hp'
  have hof := of_any a b w ha hb
  rw [← hd, ← hk] at hof
  clear hd hk
  have HOF := Lib.hid hof; clear hof
  have HP := Lib.hid hp; clear hp
  have HE := Lib.hid hE; clear hE
  go_enter Try.func9, Try.ntmps9
  go_wp2_with (first | (go_at_call 11; refine HOF.out.mono ?_; rintro e w' ⟨rfl, rfl⟩) | (go_at_call 12; refine (binary_any n w hn).mono ?_; rintro e w1 ⟨hq, sw, hsw, rfl⟩; have HQ1 := Lib.hid hq; clear hq; have HS := Lib.hid hsw; clear hsw) | fail)
  have hs10 := HS.out.1
  have hgc := fun w' => levelsC D E k w' HP.out HE.out hDE (by omega)
  have hpo := path_ok (tL_fit D (k == -1) (E + 1) (by omega)) (by omega) HS.out
  unfold PathOk at hpo
  have hco := check_ok (tL_fit D (k == -1) (E + 1) (by omega)) (show 2 * (E + 1) ≤ 64 by omega)
  unfold CheckOk at hco
  obtain ⟨S, hSE⟩ : ∃ S, S = 2 * (E + 1) := ⟨_, rfl⟩
  have hS0 : 0 < S := by omega
  have hS64 : S ≤ 64 := by omega
  simp only [← hSE] at hgc hpo hco
  obtain ⟨es, hes⟩ : ∃ es, es = canon S (tL D (k == -1) (E + 1)) := ⟨_, rfl⟩
  rw [← hes] at hgc hpo hco
  clear hes
  obtain ⟨bp, hbp⟩ : ∃ bp, bp = pathD S (tL D (k == -1) (E + 1)) sw.data.toList := ⟨_, rfl⟩
  rw [← hbp] at hpo
  have HGC := Lib.hid hgc; clear hgc
  have HPO := Lib.hid hpo; clear hpo
  have HCO := Lib.hid hco; clear hco
  have HBP := Lib.hid hbp; clear hbp
  have HSE := Lib.hid hSE; clear hSE
  go_at_call 25
  refine (HGC.out _).mono ?_
  rintro e w2 ⟨hq, vg, rfl, hrow⟩
  obtain ⟨ag, cg, rfl, -⟩ := hrow.slice
  have HQ2 := Lib.hid hq; clear hq
  have ba := Blk.new w2 46 [.int .i64 2, .int .i64 (S : Int), (.slice ag es.length cg)]
  have hra := hrow.below ((Below.refl w2.heap.size w2).alloc (Nat.le_refl _) (.cells #[.int .i64 2, .int .i64 (S : Int), (.slice ag es.length cg)] 46)) (Nat.le_refl _)
  have HBA := Lib.hid ba; clear ba
  have HRA := Lib.hid hra; clear hra hrow
  go_wp2_with fail
  go_at_call 33
  refine (HCO.out _ _ HRA.out).mono ?_
  rintro e w5 ⟨hq, rfl⟩
  have b5 := HBA.out.keep hq
  have HB5 := Lib.hid b5; clear b5
  have HR5 := Lib.hid (HRA.out.below hq (Nat.le_refl _))
  have HQ5 := Lib.hid hq; clear hq
  have s2 := HQ1.out.trans (HQ2.out.mono HQ1.out.size)
  have s2 := s2.alloc s2.size (.cells #[.int .i64 2, .int .i64 (S : Int), (.slice ag es.length cg)] 46)
  have s5 := s2.trans (HQ5.out.mono s2.size)
  have S5 := Lib.hid s5; clear s2 s5
  by_cases hz : sw.size = 0
  · obtain rfl : sw = ⟨#[]⟩ := by
      have : sw.data = #[] := Array.eq_empty_of_size_eq_zero hz
      exact ByteArray.ext this
    have hbt : bp = true := by rw [HBP.out]; exact pathD_nil _ _ hS0
    subst hbt
    have c50 := HB5.out.cell (j := 0) rfl
    have c51 := HB5.out.cell (j := 1) rfl
    have c52 := HB5.out.cell (j := 2) rfl
    go_wp2_with fail
    go_at_call 32
    refine (HPO.out _ _ HR5.out).mono ?_
    rintro e w6 ⟨hq, rfl⟩
    have HQ6 := Lib.hid hq; clear hq
    go_wp2_with (go_at_call 15; refine (awake_any _).mono ?_; rintro e w7 ⟨hq, rfl⟩; have HQ7 := Lib.hid hq; clear hq)
    go_ret
    have s6 := S5.out.trans (HQ6.out.mono S5.out.size)
    exact ⟨s6.trans (HQ7.out.mono s6.size), rfl⟩
  · have hne : sw.toList.isEmpty = false := by
      rw [Lib.toList_data, List.isEmpty_eq_false_iff]
      intro h
      exact hz (by rw [← bytes_size, h]; rfl)
    obtain ⟨wo, rfl⟩ : ∃ wo : World, wo = w5 := ⟨_, rfl⟩
    go_wp2_with fail
    go_loopw [12, 13] (fun u i wr => ∃ (m : Nat) (s : ByteArray), 1 ≤ m ∧ m ≤ sw.size ∧ i = .int .i64 m ∧ u = .string s ∧ s.size = m - 1 ∧ s.data.toList = (chL sw.data.toList).take (m - 1) ∧ Below wo.heap.size wo wr) (fun _ i _ => sw.size - (intOf i).toNat)
    case atStart => exact ⟨1, ⟨#[]⟩, Nat.le_refl _, by omega, rfl, rfl, rfl, rfl, Below.refl _ _⟩
    case round =>
      obtain ⟨m, s, hm1, hm, rfl, rfl, hs, hsl, hbel⟩ := hrel
      by_cases hlt : m < sw.size
      · obtain ⟨j, hj⟩ : ∃ j : Nat, j = m - 1 := ⟨_, rfl⟩
        have hl := HS.out.2
        have hlm : ∀ (q : Nat) (h : q < sw.size), sw[q] = 48 ∨ sw[q] = 49 := fun q h => hl _ (by
          have : sw[q] = sw.data.toList[q]'(by rw [bytes_size]; exact h) := rfl
          rw [this]; exact List.getElem_mem _)
        have hjl : j < sw.size := by omega
        have htk := chL_take (i := j) hl (by rw [bytes_size]; omega)
        have hsw : (m : Int) - 1 = (j : Int) := by omega
        have hmj : m = j + 1 := by omega
        have hgm : sw.data.toList[j + 1]'(by rw [bytes_size]; omega) = sw[m] := by subst hmj; rfl
        have hgj : sw.data.toList[j]'(by rw [bytes_size]; omega) = sw[j] := rfl
        rw [hgm, hgj] at htk
        rw [← hj] at hs hsl
        rw [← hsl] at htk
        clear hsl hgm hgj hj
        have hwj : IntKind.i64.wrap ((m : Int) - 1) = (j : Int) := by rw [hsw]; exact IntWalk.i64_in _ (by omega)
        have HTK := Lib.hid htk; clear htk
        have HMJ := Lib.hid hmj; clear hmj hsw
        have HBL := Lib.hid hbel; clear hbel
        by_cases hcc : sw[m] = sw[j]
        · rw [if_pos hcc] at HTK
          have hcb : ((sw[m].toNat : Int) == (sw[j].toNat : Int)) = true := by rw [hcc]; simp
          clear hl hlm hcc
          go_wp2_with fail
          go_quiet (fail)
          go_wp2_with fail
          go_roundw
          case rel => exact ⟨m + 1, s ++ ⟨#[48]⟩, by omega, by omega, by go_num, rfl, by rw [ByteArray.size_append, hs, HMJ.out]; rfl, by rw [ByteArray.data_append, Array.toList_append, HMJ.out]; exact HTK.out.symm, below_drewN HBL.out _⟩
          case measure => simp [intOf]; omega
        · rw [if_neg hcc] at HTK
          have hcb : ((sw[m].toNat : Int) == (sw[j].toNat : Int)) = false := by
            rw [beq_eq_false_iff_ne]; intro h; exact hcc (UInt8.toNat_inj.1 (by omega))
          clear hl hlm hcc
          go_wp2_with fail
          go_quiet (fail)
          go_wp2_with fail
          go_roundw
          case rel => exact ⟨m + 1, s ++ ⟨#[49]⟩, by omega, by omega, by go_num, rfl, by rw [ByteArray.size_append, hs, HMJ.out]; rfl, by rw [ByteArray.data_append, Array.toList_append, HMJ.out]; exact HTK.out.symm, below_drewN HBL.out _⟩
          case measure => simp [intOf]; omega
      · obtain rfl : m = sw.size := by omega
        have hl := HS.out.2
        have hsc : s.data.toList = chL sw.data.toList := by rw [hsl]; exact List.take_of_length_le (by rw [chL_length, bytes_size]; omega)
        have hsw : IsWord s := ⟨by omega, by rw [hsc]; exact chL_letters _⟩
        have hV1 := Valid_any (D : Int) k s wr (by omega)
        rw [rchk_word HP.out hsw.len hsw.2] at hV1
        have hvb : validR (D : Int) k s.data.toList = bp := by
          rw [Bool.eq_iff_iff, validR_word HP.out hsw, okW_iff, ← pathG D E k HP.out HE.out (by omega) hsw.2, hsc, HBP.out, HSE.out]
          cases hL : sw.data.toList with
          | nil => exact absurd (by rw [← bytes_size, hL]; rfl) hz
          | cons c t =>
            rw [hL] at hl
            rw [pathL D E (k == -1) hDE (by omega) hl]
        rw [hvb] at hV1
        clear hvb hsc hl hsl hsw
        have b6 := HB5.out.keep hbel
        have HR6 := Lib.hid (HR5.out.below hbel (Nat.le_refl _))
        have HV1 := Lib.hid hV1; clear hV1
        have HB6 := Lib.hid b6; clear b6
        have HQ6 := Lib.hid hbel; clear hbel
        go_wp2_with fail
        go_at_call 13
        refine HV1.out.mono ?_
        rintro e w7 ⟨hq, rfl⟩
        have b7 := HB6.out.keep hq
        have c70 := b7.cell (j := 0) rfl
        have c71 := b7.cell (j := 1) rfl
        have c72 := b7.cell (j := 2) rfl
        clear b7
        have HR7 := Lib.hid (HR6.out.below hq (Nat.le_refl _))
        have HQ7 := Lib.hid hq; clear hq
        have s6 := S5.out.trans (HQ6.out.mono S5.out.size)
        have s7 := s6.trans (HQ7.out.mono s6.size)
        have S7 := Lib.hid s7; clear s6 s7
        go_wp2_with fail
        go_at_call 32
        refine (HPO.out _ _ HR7.out).mono ?_
        rintro e w8 ⟨hq, rfl⟩
        have HQ8 := Lib.hid hq; clear hq
        have hbb : (bp == bp) = true := by simp
        go_wp2_with (go_at_call 15; refine (awake_any _).mono ?_; rintro e w9 ⟨hq, rfl⟩; have HQ9 := Lib.hid hq; clear hq)
        go_ret
        have s8 := S7.out.trans (HQ8.out.mono S7.out.size)
        exact ⟨s8.trans (HQ9.out.mono s8.size), rfl⟩
end Go.Proofs.Ytadibbbaegbljaa

/- The reference's Count. -/
import Derived.Test.YtadibbbaegbljaaPlainR
import Derived.Test.YtadibbbaegbljaaRefR
import Derived.Test.YtadibbbaegbljaaRadd
import Derived.StillTailTactics
import Derived.Deep.AppendLies
import Derived.Deep.DeepCutAuto
namespace Go.Proofs.Ytadibbbaegbljaa
open Go.RowKit

set_option maxRecDepth 100000 in
set_option maxHeartbeats 3200000 in
theorem rcount_yes (d k : Int) (n : Nat) (w : World) (hp : pairB d k = true) (hn : n ≤ 4096) (hd : d ≤ 9223372036854775807) (hk : k ≤ 9223372036854775807) :
    Calls Try.prog 18 #[.int .i64 d, .int .i64 k, .int .i64 (n : Int)] w (Ret w (.tuple #[IntV (countC d k n), .int .i64 0])) := by
  have hd0 : 0 ≤ d := by simp [pairB] at hp; omega
  have hk1 : -1 ≤ k := by simp [pairB] at hp; omega
  obtain ⟨D, rfl⟩ : ∃ D : Nat, d = D := ⟨d.toNat, by omega⟩
  have hnn : decide ((n : Int) < 0) = false := by simp
  have hn4 : decide ((4096 : Int) < n) = false := by simp; omega
  have hpe := rpair_any (D : Int) k
  rw [hp] at hpe
  have HPE := Lib.hid hpe; clear hpe
  have HP := Lib.hid hp; clear hp
  go_enter Try.func18, Try.ntmps18
  go_wp2_with (go_at_call 46; refine (HPE.out _).mono ?_; rintro e w' ⟨rfl, rfl⟩)
  go_loopw [8, 9] (fun v i wr => ∃ m : Nat, m ≤ n + 1 ∧ i = .int .i64 m ∧ Below (w.heap.size + 1) (w.alloc (.cells #[.bool false, .string ⟨#[]⟩] 34)) wr ∧ wr.ownsRow (w.heap.size + 1) 34 2 v m (civ (bL (D : Int) k m))) (fun _ i _ => n + 1 - (intOf i).toNat)
  case atStart => exact ⟨0, by omega, rfl, Below.refl _ _, World.ownsRow_nil _ _ _ _⟩
  case round =>
    obtain ⟨m, hm, rfl, hbel, hown⟩ := hrel
    obtain ⟨wo, rfl⟩ : ∃ wo : World, wo = wr := ⟨_, rfl⟩
    have hsz : w.heap.size + 1 ≤ wo.heap.size := by have := hbel.size; simp at this; omega
    have HB := Lib.hid hbel; clear hbel
    have HO := Lib.hid hown; clear hown
    obtain ⟨a, cap, rfl⟩ := own_slice HO.out
    by_cases hlt : m < n + 1
    · 
      obtain ⟨cd, hcd⟩ : ∃ cd : Bool, cd = decide (k = -1 ∨ (m : Int) ≤ k) := ⟨_, rfl⟩
      have hps := pT_start (D : Int) k D m
      have hps2 : cd = true → pT (D : Int) k D m D = 1 := fun h => by rw [hps, if_pos (by rw [h] at hcd; exact of_decide_eq_true hcd.symm)]
      have hps3 : cd = false → pT (D : Int) k D m D = 0 := fun h => by rw [hps, if_neg (by rw [h] at hcd; exact of_decide_eq_false hcd.symm)]
      have HP2 := Lib.hid hps2; clear hps2
      have HP3 := Lib.hid hps3; clear hps3 hps
      have HCD := Lib.hid hcd; clear hcd
      go_upto_region 8 with fail
      go_cut [38] (fun s10 wx => s10 = .bool cd ∧ wx = wo.alloc (.cells #[.bool false, .string ⟨#[]⟩] 34))
      case first =>
        by_cases hkk : k = -1 ∨ (m : Int) ≤ k
        · have hc : cd = true := by rw [HCD.out]; exact decide_eq_true hkk
          have HC := Lib.hid hc; clear hc
          by_cases hka : k = -1
          · have hk1a : (k == -1) = true := by simp; omega
            clear hkk hka
            go_wp2_with fail
            go_meet
            exact ⟨by rw [HC.out], rfl⟩
          · have hk1a : (k == -1) = false := by simp; omega
            have hk1b : decide ((m : Int) ≤ k) = true := by simp; omega
            clear hkk hka
            go_wp2_with fail
            go_meet
            exact ⟨by rw [HC.out], rfl⟩
        · have hc : cd = false := by rw [HCD.out]; exact decide_eq_false hkk
          have HC := Lib.hid hc; clear hc
          have hk1a : (k == -1) = false := by simp; omega
          have hk1b : decide ((m : Int) ≤ k) = false := by simp; omega
          clear hkk
          go_wp2_with fail
          go_meet
          exact ⟨by rw [HC.out], rfl⟩
      case rest =>
        obtain ⟨rfl, rfl⟩ := hcut
        go_upto_if 38 with fail
        go_cut [10] (fun s10 wx => s10 = .pointer (some ⟨wo.heap.size, 0, none⟩) ∧ Below wo.heap.size wo wx ∧ Blk wx wo.heap.size 34 [.bool (ineg (pT (D : Int) k D m D)), .string (imag (pT (D : Int) k D m D))])
        case first =>
          have hnb := Blk.new wo 34 [.bool false, .string ⟨#[]⟩]
          have hsb := (Below.refl wo.heap.size wo).alloc (Nat.le_refl _) (.cells #[.bool false, .string ⟨#[]⟩] 34)
          have HNB := Lib.hid hnb; clear hnb
          have HSB := Lib.hid hsb; clear hsb
          cases cd with
          | true =>
            go_wp2_with (go_at_call 47; refine (rof_any 1 _ (by decide) (by decide)).mono ?_; rintro e w2 ⟨hq, rfl⟩; have hnb := HNB.out.keep hq; have n0 := hnb.cell (j := 0) rfl; have f0 := hnb.frozen 0; have n1 := hnb.cell (j := 1) rfl; have f1 := hnb.frozen 1; have HN2 := Lib.hid hnb; clear hnb; have HQ := Lib.hid hq; clear hq)
            go_meet
            rw [HP2.out (by first | rfl | trivial)]
            exact ⟨rfl, ((HSB.out.trans (HQ.out.mono HSB.out.size)).setCell (p := ⟨wo.heap.size, 0, none⟩) (Nat.le_refl _) _).setCell (p := ⟨wo.heap.size, 1, none⟩) (Nat.le_refl _) _, (HN2.out.set 0 _).set 1 _⟩
          | false =>
            go_wp2_with fail
            go_meet
            rw [HP3.out (by first | rfl | trivial), show ineg 0 = false from rfl, show imag 0 = ⟨#[]⟩ by simp [imag, bb_zero]]
            exact ⟨rfl, HSB.out, HNB.out⟩
        case rest =>
          obtain ⟨rfl, hbx, hxb⟩ := hcut
          go_wp2_with fail
          go_loopw [11] (fun i wy => ∃ z : Nat, i = .int .i64 z ∧ D ≤ z ∧ (z ≤ m ∨ z = D) ∧ Below wo.heap.size wo wy ∧ Blk wy wo.heap.size 34 [.bool (ineg (pT (D : Int) k D m z)), .string (imag (pT (D : Int) k D m z))]) (fun i _ => m - (intOf i).toNat)
          case atStart => exact ⟨D, rfl, Nat.le_refl _, .inr rfl, hbx, hxb⟩
          case round =>
            obtain ⟨z, rfl, hD, hzD, hby, hblk⟩ := hrel
            by_cases hz : z < m ∧ (k = -1 ∨ (z : Int) ≤ k)
            · 
              have hzk : k = -1 ∨ (z : Int) ≤ k := hz.2
              have hzm : z < m := hz.1
              have hstep := pT_step (D : Int) k D m z hzm hD hzk
              obtain ⟨sm0, hsm0⟩ : ∃ s, s = (pT (D : Int) k D m z) := ⟨_, rfl⟩
              obtain ⟨bz, hbz⟩ : ∃ s, s = BB (D : Int) k (m - 1 - z) := ⟨_, rfl⟩
              have hs1 : small sm0 := by rw [hsm0]; exact pT_small_d (D : Int) k HP.out m z (by omega)
              have hs2 : small bz := by rw [hbz]; exact BB_small _ _ _ (by omega)
              rw [← hsm0, ← hbz] at hstep
              rw [← hsm0] at hblk
              have hrow := (own_row HO.out).below hby (Nat.le_refl _)
              obtain ⟨gb, off, hae, hgl2, hce⟩ := hrow.at_ (by omega)
              have hget := bL_get (D : Int) k m (m - 1 - z) (by omega)
              rw [← hbz] at hget
              have hic := int_cells (w := wr) (w' := wr) hce (Below.refl wr.heap.size wr) hgl2 hget
              obtain ⟨hi0, hi1⟩ := hic
              have hc0 := hblk.cell (j := 0) rfl
              have hc1 := hblk.cell (j := 1) rfl
              have hadd := fun w' => radd_any sm0 bz w' hs1 hs2
              have HADD := Lib.hid hadd; clear hadd hs1 hs2
              have HS := Lib.hid hstep; clear hstep
              have HBY := Lib.hid hby; clear hby
              have HBLK := Lib.hid hblk; clear hblk
              clear hsm0 hbz hget hrow hce hz
              subst hae
              have hix1 : IntKind.i64.wrap ((m : Int) - 1) = (m : Int) - 1 := IntWalk.i64_in _ (by omega)
              have hix2 : IntKind.i64.wrap ((m : Int) - 1 - (z : Int)) = (m : Int) - 1 - (z : Int) := IntWalk.i64_in _ (by omega)
              have hix3 : (0 : Int) ≤ (m : Int) - 1 - (z : Int) := by omega
              have hix4 : ((m : Int) - 1 - (z : Int)).toNat = m - 1 - z := by omega
              have hix5 : (m : Int) - 1 - (z : Int) < (m : Int) := by omega
              have hix6 : (z : Int) ≤ (m : Int) - 1 := by omega
              by_cases hka : k = -1
              · have hk1a : (k == -1) = true := by simp; omega
                clear hzk hka
                go_wp2_with fail
                go_still_tail 8, (by kernel_rfl)
                clear hix1 hix2 hix3 hix4 hix5 hix6
                change wpList _ _ _ _ _ wr.drew
                go_wp2_with (go_at_call 48; refine (HADD.out _).mono ?_; rintro e w2 ⟨hq, rfl⟩; have hnb := HBLK.out.drew.keep hq; have n0 := hnb.cell (j := 0) rfl; have f0 := hnb.frozen 0; have n1 := hnb.cell (j := 1) rfl; have f1 := hnb.frozen 1; have HN2 := Lib.hid hnb; clear hnb; have HQ := Lib.hid hq; clear hq)
                go_roundw
                case rel =>
                  refine ⟨z + 1, by go_num, by omega, .inl (by omega), ?_, ?_⟩
                  · exact (((HBY.out.drew.trans (HQ.out.mono HBY.out.size)).setCell (p := ⟨wo.heap.size, 0, none⟩) (Nat.le_refl _) _).setCell (p := ⟨wo.heap.size, 1, none⟩) (Nat.le_refl _) _)
                  · rw [HS.out]; exact (HN2.out.set 0 _).set 1 _
                case measure => simp [intOf]; omega
              · have hk1a : (k == -1) = false := by simp; omega
                have hk1b : decide ((z : Int) ≤ k) = true := by simp; omega
                clear hzk hka
                go_wp2_with fail
                go_still_tail 8, (by kernel_rfl)
                clear hix1 hix2 hix3 hix4 hix5 hix6
                change wpList _ _ _ _ _ wr.drew
                go_wp2_with (go_at_call 48; refine (HADD.out _).mono ?_; rintro e w2 ⟨hq, rfl⟩; have hnb := HBLK.out.drew.keep hq; have n0 := hnb.cell (j := 0) rfl; have f0 := hnb.frozen 0; have n1 := hnb.cell (j := 1) rfl; have f1 := hnb.frozen 1; have HN2 := Lib.hid hnb; clear hnb; have HQ := Lib.hid hq; clear hq)
                go_roundw
                case rel =>
                  refine ⟨z + 1, by go_num, by omega, .inl (by omega), ?_, ?_⟩
                  · exact (((HBY.out.drew.trans (HQ.out.mono HBY.out.size)).setCell (p := ⟨wo.heap.size, 0, none⟩) (Nat.le_refl _) _).setCell (p := ⟨wo.heap.size, 1, none⟩) (Nat.le_refl _) _)
                  · rw [HS.out]; exact (HN2.out.set 0 _).set 1 _
                case measure => simp [intOf]; omega

            · have hend : pT (D : Int) k D m z = BB (D : Int) k m := by
                rw [pT_end (D : Int) k D m z (by omega)]
                have h := pT_full_d (D : Int) k HP.out m
                rwa [Int.toNat_natCast] at h
              obtain ⟨X, hX⟩ : ∃ X, X = BB (D : Int) k m := ⟨_, rfl⟩
              rw [hend, ← hX] at hblk
              have hciv : civ (bL (D : Int) k (m + 1)) = civ (bL (D : Int) k m) ++ [.bool (ineg X), .string (imag X)] := by rw [bL_succ, civ_append, ← hX]; rfl
              have hown2 := own_below HO.out hby
              have hc0 := hblk.cell (j := 0) rfl
              have hc1 := hblk.cell (j := 1) rfl
              have hb2 := HB.out.trans (hby.mono hsz)
              have hsz2 : w.heap.size + 1 ≤ wr.heap.size := by have := hby.size; omega
              have HO2 := Lib.hid hown2; clear hown2
              have HBL := Lib.hid hblk; clear hblk
              have HBY := Lib.hid hby; clear hby
              have HB2 := Lib.hid hb2; clear hb2
              have HCIV := Lib.hid hciv; clear hciv hX hend
              obtain ⟨i0, hi, hz0, hz1', hz2'⟩ := info_parts infoInt
              by_cases hzm : z < m
              · have hk1a : (k == -1) = false := by simp; omega
                have hk1b : decide ((z : Int) ≤ k) = false := by simp; omega
                clear hz
                go_wp2_with (at_builtin; refine wpList_append_lies _ rfl (.tmp 64) (.tmp 66) 64 rfl (w.heap.size + 1) 34 i0 _ 2 24 Try.underlying64 hi hz0 hz1' hz2' rfl (by decide) _ _ _ rfl (HO2.out.alloc _) _ 1 1 [.bool (ineg X), .string (imag X)] rfl rfl (World.news_of_block (heap_alloc_new _ _)) (by simp [Value.oneCell']) (by omega) (by unfold maxLen; omega) (by omega) (by simp; omega) _ rfl ?_; intro g cap' w3 hown' hg hat hlt'; have HG := Lib.hid hg; clear hg; have HO4 := Lib.hid hown'; clear hown'; have HAT := Lib.hid hat; clear hat)
                go_roundw
                case rel =>
                  refine ⟨m + 1, by omega, by go_num, ?_, ?_⟩
                  · exact (HB2.out.alloc hsz2 _).grown HG.out (by simp; omega) (fun j hj => (HO2.out.lt j hj).1)
                  · rw [HCIV.out]; exact HO4.out
                case measure => simp [intOf]; omega
              · have hz1 : decide (z < m) = false := by simpa using hzm
                have hz2 : decide ((z : Int) < (m : Int)) = false := by simp; omega
                clear hz
                go_wp2_with (at_builtin; refine wpList_append_lies _ rfl (.tmp 64) (.tmp 66) 64 rfl (w.heap.size + 1) 34 i0 _ 2 24 Try.underlying64 hi hz0 hz1' hz2' rfl (by decide) _ _ _ rfl (HO2.out.alloc _) _ 1 1 [.bool (ineg X), .string (imag X)] rfl rfl (World.news_of_block (heap_alloc_new _ _)) (by simp [Value.oneCell']) (by omega) (by unfold maxLen; omega) (by omega) (by simp; omega) _ rfl ?_; intro g cap' w3 hown' hg hat hlt'; have HG := Lib.hid hg; clear hg; have HO4 := Lib.hid hown'; clear hown'; have HAT := Lib.hid hat; clear hat)
                go_roundw
                case rel =>
                  refine ⟨m + 1, by omega, by go_num, ?_, ?_⟩
                  · exact (HB2.out.alloc hsz2 _).grown HG.out (by simp; omega) (fun j hj => (HO2.out.lt j hj).1)
                  · rw [HCIV.out]; exact HO4.out
                case measure => simp [intOf]; omega
    · have hmn : n + 1 ≤ m := by omega
      obtain ⟨cd, hcd⟩ : ∃ cd : Bool, cd = decide (k = -1 ∨ (n : Int) ≤ k) := ⟨_, rfl⟩
      have hps := pT_start (D : Int) k 0 n
      have hps2 : cd = true → pT (D : Int) k 0 n 0 = 1 := fun h => by rw [hps, if_pos (by rw [h] at hcd; exact of_decide_eq_true hcd.symm)]
      have hps3 : cd = false → pT (D : Int) k 0 n 0 = 0 := fun h => by rw [hps, if_neg (by rw [h] at hcd; exact of_decide_eq_false hcd.symm)]
      have HP2 := Lib.hid hps2; clear hps2
      have HP3 := Lib.hid hps3; clear hps3 hps
      have HCD := Lib.hid hcd; clear hcd
      go_upto_region 16 with fail
      go_cut [74] (fun s10 wx => s10 = .bool cd ∧ wx = wo.alloc (.cells #[.bool false, .string ⟨#[]⟩] 34))
      case first =>
        by_cases hkk : k = -1 ∨ (n : Int) ≤ k
        · have hc : cd = true := by rw [HCD.out]; exact decide_eq_true hkk
          have HC := Lib.hid hc; clear hc
          by_cases hka : k = -1
          · have hk1a : (k == -1) = true := by simp; omega
            clear hkk hka
            go_wp2_with fail
            go_meet
            exact ⟨by rw [HC.out], rfl⟩
          · have hk1a : (k == -1) = false := by simp; omega
            have hk1b : decide ((n : Int) ≤ k) = true := by simp; omega
            clear hkk hka
            go_wp2_with fail
            go_meet
            exact ⟨by rw [HC.out], rfl⟩
        · have hc : cd = false := by rw [HCD.out]; exact decide_eq_false hkk
          have HC := Lib.hid hc; clear hc
          have hk1a : (k == -1) = false := by simp; omega
          have hk1b : decide ((n : Int) ≤ k) = false := by simp; omega
          clear hkk
          go_wp2_with fail
          go_meet
          exact ⟨by rw [HC.out], rfl⟩
      case rest =>
        obtain ⟨rfl, rfl⟩ := hcut
        go_upto_if 74 with fail
        go_cut [12] (fun s10 wx => s10 = .pointer (some ⟨wo.heap.size, 0, none⟩) ∧ Below wo.heap.size wo wx ∧ Blk wx wo.heap.size 34 [.bool (ineg (pT (D : Int) k 0 n 0)), .string (imag (pT (D : Int) k 0 n 0))])
        case first =>
          have hnb := Blk.new wo 34 [.bool false, .string ⟨#[]⟩]
          have hsb := (Below.refl wo.heap.size wo).alloc (Nat.le_refl _) (.cells #[.bool false, .string ⟨#[]⟩] 34)
          have HNB := Lib.hid hnb; clear hnb
          have HSB := Lib.hid hsb; clear hsb
          cases cd with
          | true =>
            go_wp2_with (go_at_call 47; refine (rof_any 1 _ (by decide) (by decide)).mono ?_; rintro e w2 ⟨hq, rfl⟩; have hnb := HNB.out.keep hq; have n0 := hnb.cell (j := 0) rfl; have f0 := hnb.frozen 0; have n1 := hnb.cell (j := 1) rfl; have f1 := hnb.frozen 1; have HN2 := Lib.hid hnb; clear hnb; have HQ := Lib.hid hq; clear hq)
            go_meet
            rw [HP2.out (by first | rfl | trivial)]
            exact ⟨rfl, ((HSB.out.trans (HQ.out.mono HSB.out.size)).setCell (p := ⟨wo.heap.size, 0, none⟩) (Nat.le_refl _) _).setCell (p := ⟨wo.heap.size, 1, none⟩) (Nat.le_refl _) _, (HN2.out.set 0 _).set 1 _⟩
          | false =>
            go_wp2_with fail
            go_meet
            rw [HP3.out (by first | rfl | trivial), show ineg 0 = false from rfl, show imag 0 = ⟨#[]⟩ by simp [imag, bb_zero]]
            exact ⟨rfl, HSB.out, HNB.out⟩
        case rest =>
          obtain ⟨rfl, hbx, hxb⟩ := hcut
          go_wp2_with fail
          go_loopw [13] (fun i wy => ∃ z : Nat, i = .int .i64 z ∧ 0 ≤ z ∧ (z ≤ n ∨ z = 0) ∧ Below wo.heap.size wo wy ∧ Blk wy wo.heap.size 34 [.bool (ineg (pT (D : Int) k 0 n z)), .string (imag (pT (D : Int) k 0 n z))]) (fun i _ => n - (intOf i).toNat)
          case atStart => exact ⟨0, rfl, Nat.le_refl _, .inr rfl, hbx, hxb⟩
          case round =>
            obtain ⟨z, rfl, hD, hzD, hby, hblk⟩ := hrel
            by_cases hz : z < n ∧ (k = -1 ∨ (z : Int) ≤ k)
            · 
              have hzk : k = -1 ∨ (z : Int) ≤ k := hz.2
              have hzm : z < n := hz.1
              have hstep := pT_step (D : Int) k 0 n z hzm hD hzk
              obtain ⟨sm0, hsm0⟩ : ∃ s, s = (pT (D : Int) k 0 n z) := ⟨_, rfl⟩
              obtain ⟨bz, hbz⟩ : ∃ s, s = BB (D : Int) k (n - 1 - z) := ⟨_, rfl⟩
              have hs1 : small sm0 := by rw [hsm0]; exact pT_small_0 (D : Int) k HP.out n z (by omega)
              have hs2 : small bz := by rw [hbz]; exact BB_small _ _ _ (by omega)
              rw [← hsm0, ← hbz] at hstep
              rw [← hsm0] at hblk
              have hrow := (own_row HO.out).below hby (Nat.le_refl _)
              obtain ⟨gb, off, hae, hgl2, hce⟩ := hrow.at_ (by omega)
              have hget := bL_get (D : Int) k m (n - 1 - z) (by omega)
              rw [← hbz] at hget
              have hic := int_cells (w := wr) (w' := wr) hce (Below.refl wr.heap.size wr) hgl2 hget
              obtain ⟨hi0, hi1⟩ := hic
              have hc0 := hblk.cell (j := 0) rfl
              have hc1 := hblk.cell (j := 1) rfl
              have hadd := fun w' => radd_any sm0 bz w' hs1 hs2
              have HADD := Lib.hid hadd; clear hadd hs1 hs2
              have HS := Lib.hid hstep; clear hstep
              have HBY := Lib.hid hby; clear hby
              have HBLK := Lib.hid hblk; clear hblk
              clear hsm0 hbz hget hrow hce hz
              subst hae
              have hix1 : IntKind.i64.wrap ((n : Int) - 1) = (n : Int) - 1 := IntWalk.i64_in _ (by omega)
              have hix2 : IntKind.i64.wrap ((n : Int) - 1 - (z : Int)) = (n : Int) - 1 - (z : Int) := IntWalk.i64_in _ (by omega)
              have hix3 : (0 : Int) ≤ (n : Int) - 1 - (z : Int) := by omega
              have hix4 : ((n : Int) - 1 - (z : Int)).toNat = n - 1 - z := by omega
              have hix5 : (n : Int) - 1 - (z : Int) < (m : Int) := by omega
              have hix6 : (z : Int) ≤ (n : Int) - 1 := by omega
              by_cases hka : k = -1
              · have hk1a : (k == -1) = true := by simp; omega
                clear hzk hka
                go_wp2_with fail
                go_still_tail 8, (by kernel_rfl)
                clear hix1 hix2 hix3 hix4 hix5 hix6
                change wpList _ _ _ _ _ wr.drew
                go_wp2_with (go_at_call 48; refine (HADD.out _).mono ?_; rintro e w2 ⟨hq, rfl⟩; have hnb := HBLK.out.drew.keep hq; have n0 := hnb.cell (j := 0) rfl; have f0 := hnb.frozen 0; have n1 := hnb.cell (j := 1) rfl; have f1 := hnb.frozen 1; have HN2 := Lib.hid hnb; clear hnb; have HQ := Lib.hid hq; clear hq)
                go_roundw
                case rel =>
                  refine ⟨z + 1, by go_num, by omega, .inl (by omega), ?_, ?_⟩
                  · exact (((HBY.out.drew.trans (HQ.out.mono HBY.out.size)).setCell (p := ⟨wo.heap.size, 0, none⟩) (Nat.le_refl _) _).setCell (p := ⟨wo.heap.size, 1, none⟩) (Nat.le_refl _) _)
                  · rw [HS.out]; exact (HN2.out.set 0 _).set 1 _
                case measure => simp [intOf]; omega
              · have hk1a : (k == -1) = false := by simp; omega
                have hk1b : decide ((z : Int) ≤ k) = true := by simp; omega
                clear hzk hka
                go_wp2_with fail
                go_still_tail 8, (by kernel_rfl)
                clear hix1 hix2 hix3 hix4 hix5 hix6
                change wpList _ _ _ _ _ wr.drew
                go_wp2_with (go_at_call 48; refine (HADD.out _).mono ?_; rintro e w2 ⟨hq, rfl⟩; have hnb := HBLK.out.drew.keep hq; have n0 := hnb.cell (j := 0) rfl; have f0 := hnb.frozen 0; have n1 := hnb.cell (j := 1) rfl; have f1 := hnb.frozen 1; have HN2 := Lib.hid hnb; clear hnb; have HQ := Lib.hid hq; clear hq)
                go_roundw
                case rel =>
                  refine ⟨z + 1, by go_num, by omega, .inl (by omega), ?_, ?_⟩
                  · exact (((HBY.out.drew.trans (HQ.out.mono HBY.out.size)).setCell (p := ⟨wo.heap.size, 0, none⟩) (Nat.le_refl _) _).setCell (p := ⟨wo.heap.size, 1, none⟩) (Nat.le_refl _) _)
                  · rw [HS.out]; exact (HN2.out.set 0 _).set 1 _
                case measure => simp [intOf]; omega

            · have hend : pT (D : Int) k 0 n z = countC (D : Int) k n := by
                rw [pT_end (D : Int) k 0 n z (by omega)]
                exact pT_full_0 (D : Int) k HP.out n
              obtain ⟨X, hX⟩ : ∃ X, X = countC (D : Int) k n := ⟨_, rfl⟩
              rw [hend, ← hX] at hblk
              have HXX := Lib.hid hX
              have hc0 := hblk.cell (j := 0) rfl
              have hc1 := hblk.cell (j := 1) rfl
              have hb2 := HB.out.trans (hby.mono hsz)
              have hres := (Blk.new w 34 [.bool false, .string ⟨#[]⟩]).below hb2 (by omega)
              have r0 := hres.cell (j := 0) rfl
              have r1 := hres.cell (j := 1) rfl
              have f0 := hres.frozen 0
              have f1 := hres.frozen 1
              have hb3 := ((Below.refl w.heap.size w).alloc (Nat.le_refl _) (.cells #[.bool false, .string ⟨#[]⟩] 34)).trans (hb2.mono (by omega))
              have HB3 := Lib.hid hb3; clear hb3
              have HBL := Lib.hid hblk; clear hblk
              have HBY := Lib.hid hby; clear hby
              clear hX hend hb2
              have HRS := Lib.hid hres; clear hres
              by_cases hzm : z < n
              · have hk1a : (k == -1) = false := by simp; omega
                have hk1b : decide ((z : Int) ≤ k) = false := by simp; omega
                clear hz
                go_wp2_with fail
                refine bodyPost_ret (v := .tuple #[IntV X, .int .i64 0]) (by simp [results, Try.results18, go_sem, r0, r1]) rfl ⟨?_, by rw [HXX.out]⟩
                exact (HB3.out.setCell (p := ⟨w.heap.size, 0, none⟩) (Nat.le_refl _) _).setCell (p := ⟨w.heap.size, 1, none⟩) (Nat.le_refl _) _
              · have hz1 : decide (z < n) = false := by simpa using hzm
                have hz2 : decide ((z : Int) < (n : Int)) = false := by simp; omega
                clear hz
                go_wp2_with fail
                refine bodyPost_ret (v := .tuple #[IntV X, .int .i64 0]) (by simp [results, Try.results18, go_sem, r0, r1]) rfl ⟨?_, by rw [HXX.out]⟩
                exact (HB3.out.setCell (p := ⟨w.heap.size, 0, none⟩) (Nat.le_refl _) _).setCell (p := ⟨w.heap.size, 1, none⟩) (Nat.le_refl _) _
end Go.Proofs.Ytadibbbaegbljaa

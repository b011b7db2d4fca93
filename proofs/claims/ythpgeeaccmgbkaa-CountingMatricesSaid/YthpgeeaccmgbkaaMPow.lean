/- matrix.Power at the powers of a graph's matrix. -/
import Derived.Test.YthpgeeaccmgbkaaPart4
import Derived.Test.YthpgeeaccmgbkaaClosed
import Derived.Test.YthpgeeaccmgbkaaPart10
namespace Go.Proofs.Ythpgeeaccmgbkaa
open Go.RowKit

def PwRet (S : Nat) (rows : List (List Int)) (w : World) (e : Ending) (w' : World) : Prop :=
  Below w.heap.size w w' ∧ ∃ b, e = .returned (.tuple #[.slice (some ⟨b, 0, none⟩) S S, .int .i64 0]) ∧ MatB 0 w' b S rows
theorem pw1_small {es : List E3} (hl : es.length ≤ 30) {S i k : Nat} (hi : i < S) (hk : k < S) : (pwF es 1 i k).natAbs < 256 := by
  have h := adjF_le es i k
  rw [adj_cw es hi hk] at h
  have e : pwF es 1 i k = cw es (ind (k : Int)) 1 (i : Int) := rfl
  rw [e]
  omega
set_option maxRecDepth 100000 in
set_option maxHeartbeats 8000000 in
theorem mpow_any (S N bm : Nat) (es : List E3) (w : World) (hS0 : 0 < S) (hS : S ≤ 8) (hl : es.length ≤ 30) (hin : InS S es) (hN : N ≤ 12) (hM : MatB 0 w bm S (pwM es S 1)) :
    Calls Try.prog 22 #[.slice (some ⟨bm, 0, none⟩) S S, .int .i64 (N : Int)] w (PwRet S (pwM es S N) w) := by
  have hl10 : es.length ≤ 1024 := by omega
  have hT := matB_tab hM (by omega) (by omega)
  have hTl : (pwM es S 1).length = S := matF_length _ _ _
  have hsq := square_any S 3 (pwM es S 1) _ w hT (pw_ok hl10 S 1) hS0 (by omega) (by omega)
  have hnb := fun (i k : Nat) (hi : i < S) (hk : k < S) w' => nbits_any (pwF es 1 i k) w' (pw1_small hl hi hk)
  have hof := fun w' => iof_any (S : Int) w' (by omega) (by omega)
  have hof1 := fun w' => iof_any 1 w' (by decide) (by decide)
  have hnS := fun w' => nbits_any (S : Int) w' (by omega)
  have hsc := fun w' => scalar_any S 1 w' (by omega)
  rw [pw_zero es S] at hsc
  have hmul := fun (a b : Nat) (ha : a ≤ 4096) (hb : b ≤ 4096) (ba bb : Nat) (w' : World) (hA : MatB 0 w' ba S (pwM es S a)) (hB : MatB 0 w' bb S (pwM es S b)) =>
    product_any S S S (2 * (a + b) + 1) (pwM es S a) (pwM es S b) _ _ w' (matB_tab hA (by omega) (by omega)) (matB_tab hB (by omega) (by omega))
      ⟨(pw_ok hl10 S a).len, (pw_ok hl10 S a).row, fun r hr z hz => ((pw_ok hl10 S a).sm r hr z hz).mono (by omega)⟩ ⟨(pw_ok hl10 S b).len, (pw_ok hl10 S b).row, fun r hr z hz => ((pw_ok hl10 S b).sm r hr z hz).mono (by omega)⟩ (by omega) hS0 (by omega) (by omega) (by omega)
  have hpm := fun a b => pw_mul hin a b
  have hrow : ∀ i, i < S → (pwM es S 1)[i]? = some ((List.range S).map (pwF es 1 i)) := fun i hi => matF_get hi
  have hel : ∀ i k, k < S → ((List.range S).map (pwF es 1 i))[k]? = some (pwF es 1 i k) := fun i k hk => by simp [hk]
  have HT := Lib.hid hT; clear hT
  have HSQ := Lib.hid hsq; clear hsq
  have HNB := Lib.hid hnb; clear hnb
  have HOF := Lib.hid hof; clear hof
  have HOF1 := Lib.hid hof1; clear hof1
  have HNS := Lib.hid hnS; clear hnS
  have HSC := Lib.hid hsc; clear hsc
  have HMUL := Lib.hid hmul; clear hmul
  have HPM := Lib.hid hpm; clear hpm
  have HROW := Lib.hid hrow; clear hrow
  have HEL := Lib.hid hel; clear hel
  have HM := Lib.hid hM; clear hM
  have HTL := Lib.hid hTl; clear hTl
  clear hin
  go_enter Try.func22, Try.ntmps22
  go_wp2_with fail
  go_at_call 52
  refine HSQ.out.mono ?_
  rintro e w1 ⟨hq, rfl⟩
  have S1 := Lib.hid hq; clear hq
  have t1 : decide ((N : Int) < 0) = false := by simp
  have t2 : decide (4096 < (N : Int)) = false := by simp; omega
  go_wp2_with fail
  go_loopw [7, 27] (fun q i wr => ∃ c j : Nat, c ≤ 8 ∧ j ≤ S ∧ q = .int .i64 (c : Int) ∧ i = .int .i64 (j : Int) ∧ Below w.heap.size w wr) (fun _ i _ => S - (intOf i).toNat)
  case atStart => exact ⟨0, 0, by omega, Nat.zero_le _, rfl, rfl, S1.out⟩
  case round =>
    obtain ⟨c, i, hc, hi, rfl, rfl, hbel⟩ := hrel
    obtain ⟨wo, rfl⟩ : ∃ wo : World, wo = wr := ⟨_, rfl⟩
    have hszo := hbel.size
    by_cases hiS : i < S
    · have ti : decide ((i : Int) < (S : Int)) = true := by simp; omega
      obtain ⟨rvs, g1, g2, g3⟩ := HT.out
      rw [matF_length] at g2
      obtain ⟨b6, o6, he6, hb6, hc6⟩ := g2.at_ (by omega)
      obtain ⟨rfl, rfl⟩ : bm = b6 ∧ 0 = o6 := by simpa using he6
      obtain ⟨rv, k1, k2⟩ := g3 i _ (matF_get hiS)
      obtain ⟨ra, rc, rfl, -⟩ := k2.slice
      rw [List.length_map, List.length_range] at k2 k1
      obtain ⟨rb, ro, rfl, hrb, hcr⟩ := k2.at_ (by omega)
      have c0 := (hbel.cell (p := ⟨bm, 0 + i, none⟩) hb6).trans (hc6 i _ k1)
      rw [Nat.zero_add] at c0
      have hix1 : (0 : Int) ≤ (i : Int) := by omega
      have hix2 : (i : Int) < (S : Int) := by omega
      have HCR := Lib.hid hcr; clear hcr
      have HBEL := Lib.hid hbel; clear hbel
      clear g1 g2 g3 hc6 k1 k2 he6
      go_wp2_with fail
      go_loopw [7, 33] (fun q x wv => ∃ c j : Nat, c ≤ 8 ∧ j ≤ S ∧ q = .int .i64 (c : Int) ∧ x = .int .i64 (j : Int) ∧ Below w.heap.size w wv) (fun _ x _ => S - (intOf x).toNat)
      case atStart => exact ⟨c, 0, hc, Nat.zero_le _, rfl, rfl, HBEL.out⟩
      case round =>
        obtain ⟨d, j, hd, hj, rfl, rfl, hbe⟩ := hrel
        obtain ⟨wv, rfl⟩ : ∃ wv : World, wv = wr := ⟨_, rfl⟩
        by_cases hjS : j < S
        · have tj : decide ((j : Int) < (S : Int)) = true := by simp; omega
          have hnb := HNB.out i j hiS hjS
          have hz := HEL.out i j hjS
          obtain ⟨X, hX⟩ : ∃ X, X = pwF es 1 i j := ⟨_, rfl⟩
          rw [← hX] at hnb hz
          obtain ⟨z0, z1⟩ := int_cells HCR.out hbe hrb hz
          have bA := Blk.new wv 28 [.bool (ineg X), .string (imag X)]
          have sA := hbe.alloc hbe.size (.cells #[.bool (ineg X), .string (imag X)] 28)
          have y0 := bA.cell (j := 0) rfl
          have y1 := bA.cell (j := 1) rfl
          have hjx1 : (0 : Int) ≤ (j : Int) := by omega
          have hjx2 : (j : Int) < (S : Int) := by omega
          have HNBJ := Lib.hid hnb; clear hnb
          have SA := Lib.hid sA; clear sA
          clear hX hz bA hbe
          go_wp2_with fail
          go_at_call 53
          refine (HNBJ.out _).mono ?_
          rintro e w4 ⟨hq, r, hr8, rfl⟩
          have s4 := SA.out.trans (hq.mono SA.out.size)
          have S4 := Lib.hid s4; clear s4
          clear hq y0 y1 z0 z1
          have hmx8 : max d r ≤ 8 := by omega
          go_wp2_with fail
          go_roundw
          case rel => exact ⟨max d r, j + 1, hmx8, by omega, by rw [show (max (d : Int) (r : Int)) = ((max d r : Nat) : Int) by omega], by go_num, S4.out⟩
          case measure => simp [intOf]; omega
        · have tj : decide ((j : Int) < (S : Int)) = false := by simp; omega
          have HBE := Lib.hid hbe; clear hbe
          go_wp2_with fail
          go_roundw
          case rel => exact ⟨d, i + 1, hd, by omega, rfl, by go_num, HBE.out⟩
          case measure => simp [intOf]; omega
    · have ti : decide ((i : Int) < (S : Int)) = false := by simp; omega
      have hM2 := HM.out.keep hbel
      have hM2 := hM2
      have HM2 := Lib.hid hM2; clear hM2
      have HBEL := Lib.hid hbel; clear hbel
      go_wp2_with fail
      go_at_call 11
      refine (HOF.out _).mono ?_
      rintro e w2 ⟨hq, rfl⟩
      have s2 := HBEL.out.trans (hq.mono HBEL.out.size)
      have hM3 := HM2.out.keep hq
      have S2 := Lib.hid s2; clear s2
      have HM3 := Lib.hid hM3; clear hM3
      clear hq
      go_wp2_with fail
      go_at_call 53
      refine (HNS.out _).mono ?_
      rintro e w3 ⟨hq, r, hr8, rfl⟩
      have s3 := S2.out.trans (hq.mono S2.out.size)
      have hM4 := HM3.out.keep hq
      have hcr : (c : Int) + (r : Int) ≤ 16 := by omega
      have hcr0 : 0 ≤ (c : Int) + (r : Int) := by omega
      obtain ⟨y, hy⟩ : ∃ y : Int, y = ((c : Int) + (r : Int)) * (N : Int) := ⟨_, rfl⟩
      have hy0 : 0 ≤ y := by rw [hy]; exact Int.mul_nonneg hcr0 (by omega)
      have hy1 : y ≤ 192 := by
        rw [hy]
        have h1 : ((c : Int) + (r : Int)) * (N : Int) ≤ 16 * (N : Int) := Int.mul_le_mul_of_nonneg_right hcr (by omega)
        omega
      have hw1 : IntKind.i64.wrap ((c : Int) + (r : Int)) = (c : Int) + (r : Int) := IntWalk.i64_in _ (by omega)
      have hw2 : IntKind.i64.wrap y = y := IntWalk.i64_in _ (by omega)
      have ty : decide (65536 < y) = false := by simp; omega
      have hy' := hy.symm
      have S3 := Lib.hid s3; clear s3
      have HM4 := Lib.hid hM4; clear hM4
      clear hq hy
      go_wp2_with fail
      go_at_call 11
      refine (HOF1.out _).mono ?_
      rintro e w4 ⟨hq, rfl⟩
      have s4 := S3.out.trans (hq.mono S3.out.size)
      have hM5 := HM4.out.keep hq
      have S4 := Lib.hid s4; clear s4
      have HM5 := Lib.hid hM5; clear hM5
      clear hq
      go_wp2_with fail
      go_at_call 54
      refine (HSC.out _).mono ?_
      rintro e w5 ⟨hq, b5, rfl, hm5⟩
      have s5 := S4.out.trans (hq.mono S4.out.size)
      have hM6 := HM5.out.keep hq
      have hP6 := hm5.mono (Nat.zero_le _)
      have S5 := Lib.hid s5; clear s5
      have HM6 := Lib.hid hM6; clear hM6
      have HP6 := Lib.hid hP6; clear hP6
      clear hq hm5 hy' hw1 hw2 ty hy0 hy1
      go_wp2_with fail
      obtain ⟨wz, rfl⟩ : ∃ wz : World, wz = w5 := ⟨_, rfl⟩
      go_loopw [1, 12, 13] (fun n p q wr => ∃ (x a b bp bq : Nat), n = .int .i64 (x : Int) ∧ p = .slice (some ⟨bp, 0, none⟩) S S ∧ q = .slice (some ⟨bq, 0, none⟩) S S ∧ 1 ≤ b ∧ a + b * x = N ∧ Below w.heap.size w wr ∧ MatB 0 wr bp S (pwM es S a) ∧ MatB 0 wr bq S (pwM es S b)) (fun n _ _ _ => (intOf n).toNat)
      case atStart => exact ⟨N, 0, 1, b5, bm, rfl, rfl, rfl, Nat.le_refl _, by omega, S5.out, HP6.out, HM6.out⟩
      case round =>
        obtain ⟨x, a, b, bp, bq, rfl, rfl, rfl, hb1, hinv, hbel, hP, hQ⟩ := hrel
        by_cases hx : 0 < x
        · have hbx : b ≤ b * x := Nat.le_mul_of_pos_right b hx
          have hxz : (0 : Int) < (x : Int) := by omega
          have hxb : x ≤ b * x := Nat.le_mul_of_pos_left x hb1
          have hx4 : x ≤ 4096 := by omega
          have hdiv : ((x : Int)).tdiv 2 = ((x / 2 : Nat) : Int) := by rw [Int.tdiv_eq_ediv_of_nonneg (by omega)]; rfl
          by_cases hodd : x % 2 = 1
          · have t0 : ((x : Int) % 2 == 1) = true := by simp; omega
            have hinv2 := half_inv hinv hodd
            have HP := Lib.hid hP; clear hP
            have HQ := Lib.hid hQ; clear hQ
            have HB := Lib.hid hbel; clear hbel
            have HINV := Lib.hid hinv2; clear hinv2
            go_wp2_with fail
            go_at_call 55
            refine (HMUL.out a b (by omega) (by omega) bp bq wr HP.out HQ.out).mono ?_
            rintro e w6 ⟨hq, bn, rfl, hmn⟩
            rw [HPM.out a b] at hmn
            have hb4 := HB.out.trans (hq.mono HB.out.size)
            have hP4 := hmn.mono (Nat.zero_le _)
            have hQ4 := HQ.out.keep hq
            have HP4 := Lib.hid hP4; clear hP4
            have HQ4 := Lib.hid hQ4; clear hQ4
            have HB4 := Lib.hid hb4; clear hb4
            clear hq hmn
            by_cases hx1 : 1 < x
            · have hxz1 : (1 : Int) < (x : Int) := by omega
              have hb2 : b + b ≤ 4096 := by
                have : b * 2 ≤ b * x := Nat.mul_le_mul_left b (by omega)
                omega
              go_wp2_with fail
              go_at_call 55
              refine (HMUL.out b b (by omega) (by omega) bq bq w6 HQ4.out HQ4.out).mono ?_
              rintro e w7 ⟨hq, b7, rfl, hm7⟩
              rw [HPM.out b b] at hm7
              have hb5 := HB4.out.trans (hq.mono HB4.out.size)
              have hQ5 := hm7.mono (Nat.zero_le _)
              have hP5 := HP4.out.keep hq
              have HP5 := Lib.hid hP5; clear hP5
              have HQ5 := Lib.hid hQ5; clear hQ5
              have HB5 := Lib.hid hb5; clear hb5
              clear hq hm7
              go_wp2_with fail
              go_roundw
              case rel => exact ⟨x / 2, (a + b), b + b, bn, b7, by go_num, rfl, rfl, by omega, HINV.out, HB5.out, HP5.out, HQ5.out⟩
              case measure => simp [intOf]; omega
            · obtain rfl : x = 1 := by omega
              have hxz1 : ¬ (1 : Int) < ((1 : Nat) : Int) := by omega
              go_wp2_with fail
              go_roundw
              case rel => exact ⟨0, (a + b), b, bn, bq, by go_num, rfl, rfl, by omega, by have := HINV.out; simpa using this, HB4.out, HP4.out, HQ4.out⟩
              case measure => simp [intOf]
          · have t0 : ((x : Int) % 2 == 1) = false := by simp; omega
            have hodd0 : x % 2 = 0 := by omega
            have hinv2 := half_inv0 hinv hodd0
            have HP := Lib.hid hP; clear hP
            have HQ := Lib.hid hQ; clear hQ
            have HB := Lib.hid hbel; clear hbel
            have HINV := Lib.hid hinv2; clear hinv2
            by_cases hx1 : 1 < x
            · have hxz1 : (1 : Int) < (x : Int) := by omega
              have hb2 : b + b ≤ 4096 := by
                have : b * 2 ≤ b * x := Nat.mul_le_mul_left b (by omega)
                omega
              go_wp2_with fail
              go_at_call 55
              refine (HMUL.out b b (by omega) (by omega) bq bq wr HQ.out HQ.out).mono ?_
              rintro e w7 ⟨hq, b7, rfl, hm7⟩
              rw [HPM.out b b] at hm7
              have hb5 := HB.out.trans (hq.mono HB.out.size)
              have hQ5 := hm7.mono (Nat.zero_le _)
              have hP5 := HP.out.keep hq
              have HP5 := Lib.hid hP5; clear hP5
              have HQ5 := Lib.hid hQ5; clear hQ5
              have HB5 := Lib.hid hb5; clear hb5
              clear hq hm7
              go_wp2_with fail
              go_roundw
              case rel => exact ⟨x / 2, a, b + b, bp, b7, by go_num, rfl, rfl, by omega, HINV.out, HB5.out, HP5.out, HQ5.out⟩
              case measure => simp [intOf]; omega
            · omega
        · obtain rfl : x = 0 := by omega
          have haN : a = N := by omega
          rw [haN] at hP
          have HP := Lib.hid hP; clear hP
          have HB := Lib.hid hbel; clear hbel
          rw [show ((0 : Nat) : Int) = 0 from rfl]
          go_wp2_with fail
          go_ret2
          exact ⟨HB.out, bp, rfl, HP.out⟩
end Go.Proofs.Ythpgeeaccmgbkaa

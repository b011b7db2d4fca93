/- integer.length, power, Power. -/
import Derived.Test.YtalipfnbpnkgnaaGreatMulI
import Derived.Test.YtalipfnbpnkgnaaGreatPart5
namespace Go.Proofs.YtalipfnbpnkgnaaGreat
open Go.RowKit

theorem bit_i64 (v : Int) (h0 : 0 ≤ v) (h1 : v ≤ 9223372036854775807) : bits BinOp.and IntKind.i64 v 1 = v % 2 := by
  obtain ⟨n, rfl⟩ : ∃ n : Nat, v = n := ⟨v.toNat, by omega⟩
  show IntKind.i64.wrap ((BitVec.ofInt 64 (n : Int) &&& BitVec.ofInt 64 1).toNat : Int) = _
  rw [BitVec.toNat_and]
  have e1 : (BitVec.ofInt 64 (n : Int)).toNat = n := by simp; omega
  have e2 : (BitVec.ofInt 64 1).toNat = 1 := by decide
  rw [e1, e2, Nat.and_one_is_mod]
  simp [IntKind.wrap, IntKind.bits, IntKind.signed]; omega
/-- The bits of a number. -/
def lenB (x : Nat) : Int := if x = 0 then 0 else 32 * (((dg x).length : Int) - 1) + (Lib.bitLen (dig x ((dg x).length - 1)) : Int)
set_option maxRecDepth 100000 in
set_option maxHeartbeats 1600000 in
/-- integer.length. -/
theorem length_any (x : Nat) (vx : Value) (w : World) (hx : Row w vx (dg x).length (cs32 (dg x))) (hb : (dg x).length ≤ 100000000000) :
    Calls Tryz.prog 97 #[vx] w (Ret w (.int .i64 (lenB x))) := by
  obtain ⟨ax, cx, rfl, hlx⟩ := hx.slice
  obtain ⟨m, hm⟩ : ∃ m, m = (dg x).length := ⟨_, rfl⟩
  rw [← hm] at hx hlx hb ⊢
  by_cases hm0 : m = 0
  · subst hm0
    have hz : lenB x = 0 := by rw [lenB, if_pos (dg_nil (List.length_eq_zero_iff.1 hm.symm))]
    have HZ := Lib.hid hz; clear hz
    clear hm hx
    go_enter Tryz.func97, Tryz.ntmps97
    go_wp2_with fail
    go_ret
    exact ⟨Below.refl _ _, by rw [HZ.out]; rfl⟩
  · have hmb : ((m : Int) == 0) = false := by simp; omega
    have hx0 : ¬ x = 0 := fun e => hm0 (by rw [hm, e, dg_zero]; rfl)
    have hz : lenB x = 32 * ((m : Int) - 1) + (Lib.bitLen (dig x (m - 1)) : Int) := by rw [lenB, if_neg hx0, ← hm]
    have HZ := Lib.hid hz; clear hz
    obtain ⟨k, rfl⟩ : ∃ k, m = k + 1 := ⟨m - 1, by omega⟩
    obtain ⟨bx, ox, rfl, hbx, hcx⟩ := hx.at_ (by omega)
    have c1 := hcx k _ (cs32_get (dg_get x k (by rw [← hm]; omega)))
    obtain ⟨d, hd⟩ : ∃ d, d = dig x k := ⟨_, rfl⟩
    have hd32 : d < 4294967296 := by rw [hd]; exact dig_lt _ _
    rw [← hd] at c1
    have hbl := fun w' => Tryz.bits_Len32 (d : Int) w' (by omega) (by omega)
    rw [Int.toNat_natCast] at hbl
    obtain ⟨q, hq⟩ : ∃ q, q = Lib.bitLen d := ⟨_, rfl⟩
    have hq32 : q ≤ 32 := by
      rw [hq]
      exact Lib.bitLen_le d 32 (by omega) (by omega)
    rw [← hq] at hbl
    have HBL := Lib.hid hbl; clear hbl
    have HD := Lib.hid hd; clear hd
    have HQ := Lib.hid hq; clear hq
    have HM := Lib.hid hm; clear hm
    clear hx hcx hmb hx0 hm0 hbx
    have hki : (((k + 1 : Nat) : Int) == 0) = false := by simp; omega
    have hk1 : ((k + 1 : Nat) : Int) - 1 = (k : Int) := by omega
    go_enter Tryz.func97, Tryz.ntmps97
    go_wp2_with (go_at_call 125; refine (HBL.out _).mono ?_; rintro e w' ⟨rfl, rfl⟩)
    go_ret
    exact ⟨Below.refl _ _, by rw [HZ.out, Nat.add_sub_cancel, ← HD.out, ← HQ.out]; exact ret_int (by omega)⟩
theorem lt_bitAux : ∀ (f x : Nat), x < 2 ^ f → x < 2 ^ Lib.bitLenAux f x
  | 0, x, h => by simpa [Lib.bitLenAux] using h
  | f + 1, x, h => by
    rw [Lib.bitLenAux]
    split
    · rename_i e; rw [e]; decide
    · have h1 := lt_bitAux f (x / 2) (by rw [Nat.pow_succ] at h; omega)
      rw [Nat.add_comm, Nat.pow_succ]; omega
/-- The bits of n from the place j on. -/
theorem shr_step (n j : Nat) : n / 2 ^ j = 2 * (n / 2 ^ (j + 1)) + n / 2 ^ j % 2 := by
  rw [Nat.pow_succ, ← Nat.div_div_eq_div_mul]; omega
theorem pow_sq (x e : Nat) : x ^ e * x ^ e = x ^ (2 * e) := by rw [← Nat.pow_add]; congr 1; omega
set_option maxRecDepth 100000 in
set_option maxHeartbeats 1600000 in
/-- integer.power. -/
theorem power_any (x n : Nat) (vx : Value) (w : World) (hx : Row w vx (dg x).length (cs32 (dg x))) (hb : (dg x).length ≤ 100000000) (hn : n ≤ 1000000) (hsz : ∀ e, e ≤ n → (dg (x ^ e)).length ≤ 100000000) :
    Calls Tryz.prog 98 #[vx, .int .i64 (n : Int)] w (RetNat w (x ^ n)) := by
  have hbl := fun w' => Tryz.bits_Len (n : Int) w' (by omega) (by omega)
  rw [Int.toNat_natCast] at hbl
  obtain ⟨L, hL⟩ : ∃ L, L = Lib.bitLen n := ⟨_, rfl⟩
  have hL64 : L ≤ 20 := by rw [hL]; exact Lib.bitLen_le n 20 (by omega) (by omega)
  have hnL : n / 2 ^ L = 0 := by
    rw [hL]
    exact Nat.div_eq_of_lt (lt_bitAux 64 n (by omega))
  rw [← hL] at hbl
  have HBL := Lib.hid hbl; clear hbl
  have HNL := Lib.hid hnL; clear hnL
  have HX := Lib.hid hx; clear hx
  have HSZ := Lib.hid hsz; clear hsz
  clear hL
  have hconv : ((n : Int) : Int) = n := rfl
  clear hconv
  obtain ⟨ax, cx, rfl, hlx⟩ := HX.out.slice
  go_enter Tryz.func98, Tryz.ntmps98
  go_wp2_with fail
  go_wp2_with (go_at_call 123; refine (HBL.out _).mono ?_; rintro e w' ⟨rfl, rfl⟩)
  go_loopw [5, 6] (fun u i wr => ∃ (j : Nat) (z : Int), j ≤ L ∧ i = .int .i64 z ∧ z = (j : Int) - 1 ∧ Below w.heap.size w wr ∧ Row wr u (dg (x ^ (n / 2 ^ j))).length (cs32 (dg (x ^ (n / 2 ^ j))))) (fun _ i _ => (intOf i + 1).toNat)
  case atStart =>
    refine ⟨L, _, Nat.le_refl _, rfl, rfl, (Below.refl _ _).alloc (Nat.le_refl _) _, ?_⟩
    rw [HNL.out, Nat.pow_zero]
    have h := Row.ofBlk (Blk.new w 103 [.int .u32 1]) (m := 1) (cap := 1) (Nat.le_refl _) (by decide) 1
    have e1 : dg 1 = [1] := by rw [dg_pos (by decide), show 1 / 4294967296 = 0 from rfl, dg_zero]
    rw [e1]
    exact h
  case round =>
    obtain ⟨j, z, hj, rfl, hz, hbel, hrow⟩ := hrel
    obtain ⟨wo, rfl⟩ : ∃ wo : World, wo = wr := ⟨_, rfl⟩
    obtain ⟨au, cu, rfl, hlu⟩ := hrow.slice
    have HB := Lib.hid hbel; clear hbel
    cases j with
    | zero =>
      obtain rfl : z = -1 := by omega
      clear hz
      rw [Nat.pow_zero, Nat.div_one] at hrow ⊢
      have HR := Lib.hid hrow; clear hrow
      go_wp2_with fail
      go_ret
      exact ⟨HB.out, _, rfl, HR.out⟩
    | succ j =>
      obtain rfl : z = (j : Int) := by omega
      clear hz
      have hst := shr_step n j
      have hle : n / 2 ^ j ≤ n := Nat.div_le_self _ _
      have hle2 : n / 2 ^ (j + 1) ≤ n := Nat.div_le_self _ _
      have hdiv : (n : Int) / 2 ^ j = ((n / 2 ^ j : Nat) : Int) := by simp
      obtain ⟨P, hP⟩ : ∃ P, P = x ^ (n / 2 ^ (j + 1)) := ⟨_, rfl⟩
      have hPl : (dg P).length ≤ 100000000 := by rw [hP]; exact HSZ.out _ hle2
      rw [← hP] at hrow hlu ⊢
      obtain ⟨q, hq⟩ : ∃ q, q = n / 2 ^ j := ⟨_, rfl⟩
      have hq6 : q ≤ 1000000 := by rw [hq]; omega
      rw [← hq] at hst hdiv hle
      have hand := bit_i64 (q : Int) (by omega) (by omega)
      have hsq : P * P = x ^ (2 * (n / 2 ^ (j + 1))) := by rw [hP, pow_sq]
      have hPPl : (dg (P * P)).length ≤ 100000000 := by rw [hsq]; exact HSZ.out _ (by omega)
      have HPL := Lib.hid hPl; clear hPl
      have HPPL := Lib.hid hPPl; clear hPPl
      have HR := Lib.hid hrow; clear hrow
      by_cases hbit : q % 2 = 1
      · have hres : x ^ q = P * P * x := by rw [hsq, ← Nat.pow_succ]; congr 1; omega
        have hb2 : ((q : Int) % 2 == 1) = true := by simp; omega
        have HRES := Lib.hid hres; clear hres
        have HSQ := Lib.hid hsq; clear hsq
        have HP := Lib.hid hP; clear hP
        have HST := Lib.hid hst; clear hst
        have HQE := Lib.hid hq; clear hq
        clear hbit hle hle2
        go_wp2_with fail
        go_at_call 99
        refine (multiply_any P P _ _ _ HR.out HR.out (by have := HPL.out; omega) (by have := HPL.out; omega)).mono ?_
        rintro e w1 ⟨hq1, v1, rfl, hv1⟩
        obtain ⟨a1, c1, rfl, hl1⟩ := hv1.slice
        have HQ1 := Lib.hid hq1; clear hq1
        have HV1 := Lib.hid hv1; clear hv1
        go_wp2_with fail
        go_at_call 99
        refine (multiply_any (P * P) x _ _ _ HV1.out ((HX.out.below HB.out (Nat.le_refl _)).below HQ1.out (Nat.le_refl _)) (by have := HPPL.out; omega) (by omega)).mono ?_
        rintro e w2 ⟨hq2, v2, rfl, hv2⟩
        obtain ⟨a2, c2, rfl, hl2⟩ := hv2.slice
        have HQ2 := Lib.hid hq2; clear hq2
        have HV2 := Lib.hid hv2; clear hv2
        go_wp2_with fail
        go_roundw
        case rel =>
          have s1 := HB.out.trans (HQ1.out.mono HB.out.size)
          exact ⟨j, _, by omega, rfl, rfl, s1.trans (HQ2.out.mono s1.size), by rw [← HQE.out, HRES.out]; exact HV2.out⟩
        case measure => simp [intOf]
      · have hres : x ^ q = P * P := by rw [hsq]; congr 1; omega
        have hb2 : ((q : Int) % 2 == 1) = false := by simp; omega
        have HRES := Lib.hid hres; clear hres
        have HSQ := Lib.hid hsq; clear hsq
        have HP := Lib.hid hP; clear hP
        have HST := Lib.hid hst; clear hst
        have HQE := Lib.hid hq; clear hq
        clear hbit hle hle2
        go_wp2_with fail
        go_at_call 99
        refine (multiply_any P P _ _ _ HR.out HR.out (by have := HPL.out; omega) (by have := HPL.out; omega)).mono ?_
        rintro e w1 ⟨hq1, v1, rfl, hv1⟩
        obtain ⟨a1, c1, rfl, hl1⟩ := hv1.slice
        have HQ1 := Lib.hid hq1; clear hq1
        have HV1 := Lib.hid hv1; clear hv1
        go_wp2_with fail
        go_roundw
        case rel =>
          exact ⟨j, _, by omega, rfl, rfl, HB.out.trans (HQ1.out.mono HB.out.size), by rw [← HQE.out, HRES.out]; exact HV1.out⟩
        case measure => simp [intOf]
theorem imag_nat (x : Nat) : bval (imag (x : Int)).data.toList = x := by
  have h := ival_canon (x : Int)
  have h0 : ineg (x : Int) = false := by simp [ineg]
  rw [h0] at h
  unfold ival sgn at h
  simp at h
  omega
set_option maxRecDepth 100000 in
set_option maxHeartbeats 1600000 in
/-- integer.Power of a number that is not negative. -/
theorem ipower_any (x n : Nat) (w : World) (hx : (imag (x : Int)).size ≤ 100000000) (hn : n ≤ 4096) (hl : (n : Int) * lenB x ≤ 65536) (hl0 : 0 ≤ lenB x ∧ lenB x ≤ 10000000000) (hsz : ∀ e, e ≤ n → (dg (x ^ e)).length ≤ 100000000) :
    Calls Tryz.prog 65 #[IntV (x : Int), .int .i64 (n : Int)] w (Ret w (.tuple #[IntV ((x ^ n : Nat) : Int), .int .i64 0])) := by
  have h0 : ineg (x : Int) = false := by simp [ineg]
  obtain ⟨s, hs⟩ : ∃ s, s = imag (x : Int) := ⟨_, rfl⟩
  have hbv : bval s.data.toList = x := by rw [hs]; exact imag_nat x
  rw [show IntV (x : Int) = .agg #[.bool false, .string s] by rw [hs]; unfold IntV; rw [h0]]
  rw [← hs] at hx
  have hdig := fun w' => digits_any false s w' (by omega)
  rw [hbv] at hdig
  have hdl : (dg x).length ≤ 100000000 := by rw [← hbv]; exact dg_sized (by omega)
  have hdl2 := hsz n (Nat.le_refl _)
  obtain ⟨l, hlq⟩ : ∃ l, l = lenB x := ⟨_, rfl⟩
  have hlen := fun vx w' h => length_any x vx w' h (by omega)
  rw [← hlq] at hl hl0 hlen
  obtain ⟨hl1, hl2⟩ := hl0
  have hnl : decide ((65536 : Int) < (n : Int) * l) = false := by simp; omega
  have hnl1 : 0 ≤ (n : Int) * l := Int.mul_nonneg (by omega) hl1
  have hn1 : decide ((4096 : Int) < (n : Int)) = false := by simp; omega
  have hB0 := (Blk.new w 33 [.bool false, .string s]).alloc (.cells #[.bool false, .string ⟨#[]⟩] 33)
  have hB1 := Blk.new (w.alloc (.cells #[.bool false, .string s] 33)) 33 [.bool false, .string ⟨#[]⟩]
  simp only [World.size_alloc] at hB1
  have HB0 := Lib.hid hB0; clear hB0
  have HB1 := Lib.hid hB1; clear hB1
  have HDIG := Lib.hid hdig; clear hdig
  have HLEN := Lib.hid hlen; clear hlen
  have HBV := Lib.hid hbv; clear hbv
  have HSZ := Lib.hid hsz; clear hsz
  have HLQ := Lib.hid hlq; clear hlq
  have HDL := Lib.hid hdl; clear hdl
  have HDL2 := Lib.hid hdl2; clear hdl2
  clear hs h0
  go_enter Tryz.func65, Tryz.ntmps65
  go_wp2_with fail
  go_at_call 81
  refine (HDIG.out _).mono ?_
  rintro e w1 ⟨hq1, v1, rfl, hv1⟩
  obtain ⟨a1, c1, rfl, -⟩ := hv1.slice
  have tk := HB0.out.keep hq1; have x0 := tk.cell (j := 0) rfl; have x1 := tk.cell (j := 1) rfl; have A0 := Lib.hid tk; clear tk
  have tk := HB1.out.keep hq1; have y0 := tk.cell (j := 0) rfl; have y1 := tk.cell (j := 1) rfl; have A1 := Lib.hid tk; clear tk
  have HV1 := Lib.hid hv1; clear hv1
  have HQ1 := Lib.hid hq1; clear hq1
  go_wp2_with fail
  go_at_call 97
  refine (HLEN.out _ _ HV1.out).mono ?_
  rintro e w2 ⟨hq2, rfl⟩
  have tk := A0.out.keep hq2; have p0 := tk.cell (j := 0) rfl; have p1 := tk.cell (j := 1) rfl; have C0 := Lib.hid tk; clear tk
  have tk := A1.out.keep hq2; have q0 := tk.cell (j := 0) rfl; have q1 := tk.cell (j := 1) rfl; have C1 := Lib.hid tk; clear tk
  have hv2 := HV1.out.below hq2 (Nat.le_refl _)
  have HV2 := Lib.hid hv2; clear hv2
  have HQ2 := Lib.hid hq2; clear hq2
  go_wp2_with fail
  go_at_call 98
  refine (power_any x n _ _ HV2.out HDL.out (by omega) HSZ.out).mono ?_
  rintro e w3 ⟨hq3, v3, rfl, hv3⟩
  obtain ⟨a3, c3, rfl, -⟩ := hv3.slice
  have tk := C0.out.keep hq3; have s0 := tk.cell (j := 0) rfl; have s1 := tk.cell (j := 1) rfl; have D0 := Lib.hid tk; clear tk
  have tk := C1.out.keep hq3; have t0 := tk.cell (j := 0) rfl; have t1 := tk.cell (j := 1) rfl; have D1 := Lib.hid tk; clear tk
  have HV3 := Lib.hid hv3; clear hv3
  have HQ3 := Lib.hid hq3; clear hq3
  go_wp2_with fail
  go_at_call 56
  refine (number_any _ _ _ _ HV3.out (dg_lt _) (by have := HDL2.out; omega)).mono ?_
  rintro e w4 ⟨hq4, rfl⟩
  have tk := D0.out.keep hq4; have a0 := tk.cell (j := 0) rfl; have a1 := tk.cell (j := 1) rfl; have E0 := Lib.hid tk; clear tk
  have tk := D1.out.keep hq4; have b0 := tk.cell (j := 0) rfl; have b1 := tk.cell (j := 1) rfl; have E1 := Lib.hid tk; clear tk
  have f0 := E1.out.frozen 0
  have f1 := E1.out.frozen 1
  have HQ4 := Lib.hid hq4; clear hq4
  go_wp2_with fail
  refine bodyPost_ret (v := .tuple #[IntV (sgn false (val (dg (x ^ n)))), .int .i64 0]) (by simp [results, Tryz.results65, go_sem, b0, b1]) rfl ⟨?_, ?_⟩
  · have s0 := ((Below.refl w.heap.size w).alloc (Nat.le_refl _) (.cells #[.bool false, .string s] 33)).alloc (by simp) (.cells #[.bool false, .string ⟨#[]⟩] 33)
    have s1 := s0.trans (HQ1.out.mono s0.size)
    have s2 := s1.trans (HQ2.out.mono s1.size)
    have s3 := s2.trans (HQ3.out.mono s2.size)
    have s4 := s3.trans (HQ4.out.mono s3.size)
    exact (s4.setCell (p := ⟨w.heap.size + 1, 0, none⟩) (Nat.le_add_right _ _) _).setCell (p := ⟨w.heap.size + 1, 1, none⟩) (Nat.le_add_right _ _) _
  · rw [val_dg]; rfl
end Go.Proofs.YtalipfnbpnkgnaaGreat

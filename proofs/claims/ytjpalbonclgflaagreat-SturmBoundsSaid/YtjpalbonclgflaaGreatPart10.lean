/- Contracts and plain laws of several functions, one after the other: Pow, StK, StD, LwB. -/
import Derived.Test.YtjpalbonclgflaaGreatPart8
import Derived.Test.YtjpalbonclgflaaGreatChkQ
import Derived.Test.YtjpalbonclgflaaGreatPart9
import Derived.Test.YtjpalbonclgflaaGreatPart12
import Derived.Test.YtjpalbonclgflaaGreatStB
import Derived.Test.YtjpalbonclgflaaGreatStN
import Derived.Test.YtjpalbonclgflaaGreatPart14
import Derived.Test.YtjpalbonclgflaaGreatPAt
import Derived.Test.YtjpalbonclgflaaGreatPart2
/- integer.length, power, Power. -/
namespace Go.Proofs.YtjpalbonclgflaaGreat
open Go.RowKit

theorem bit_i64 (v : Int) (h0 : 0 ≤ v) (h1 : v ≤ 9223372036854775807) : bits BinOp.and IntKind.i64 v 1 = v % 2 := by
 obtain ⟨n, rfl⟩ : ∃ n : Nat, v = n := ⟨v.toNat, by omega⟩
 show IntKind.i64.wrap ((BitVec.ofInt 64 (n : Int) &&& BitVec.ofInt 64 1).toNat : Int) = _
 rw [BitVec.toNat_and]
 have e1 : (BitVec.ofInt 64 (n : Int)).toNat = n := by simp; omega
 have e2 : (BitVec.ofInt 64 1).toNat = 1 := by decide
 rw [e1, e2, Nat.and_one_is_mod]
 simp [IntKind.wrap, IntKind.bits, IntKind.signed]; omega
theorem lt_bitAux : ∀ (f x : Nat), x < 2 ^ f → x < 2 ^ Lib.bitLenAux f x
 | 0, x, h => by simpa [Lib.bitLenAux] using h
 | f + 1, x, h =>
  by
  rw [Lib.bitLenAux]
  split
  ·
   rename_i e; rw [e]; decide
  ·
   have h1 := lt_bitAux f (x / 2) (by rw [Nat.pow_succ] at h; omega)
   rw [Nat.add_comm, Nat.pow_succ]; omega
theorem shr_step (n j : Nat) : n / 2 ^ j = 2 * (n / 2 ^ (j + 1)) + n / 2 ^ j % 2 := by
 rw [Nat.pow_succ, ← Nat.div_div_eq_div_mul]; omega
theorem pow_sq (x e : Nat) : x ^ e * x ^ e = x ^ (2 * e) := by rw [← Nat.pow_add]; congr 1; omega
set_option maxRecDepth 100000 in
set_option maxHeartbeats 1600000 in
theorem power_any (x n : Nat) (vx : Value) (w : World) (hx : Row w vx (dg x).length (cs32 (dg x))) (hb : (dg x).length ≤ 100000000) (hn : n ≤ 1000000) (hsz : ∀ e, e ≤ n → (dg (x ^ e)).length ≤ 100000000) :
  Calls Tryz.prog 91 #[vx, .int .i64 (n : Int)] w (RetNat w (x ^ n)) := by
 have hbl := fun w' => Tryz.bits_Len (n : Int) w' (by omega) (by omega)
 rw [Int.toNat_natCast] at hbl
 obtain ⟨L, hL⟩ : ∃ L, L = Lib.bitLen n := ⟨_, rfl⟩
 have hL64 : L ≤ 20 := by rw [hL]; exact Lib.bitLen_le n 20 (by omega) (by omega)
 have hnL : n / 2 ^ L = 0 := by
  rw [hL]
  exact Nat.div_eq_of_lt (lt_bitAux 64 n (by omega))
 rw [← hL] at hbl
 have HBL := Lib.hid hbl; clear hbl
 have HNL := Lib.hid hnL; clear hnL
 have HX := Lib.hid hx; clear hx
 have HSZ := Lib.hid hsz; clear hsz
 clear hL
 have hconv : ((n : Int) : Int) = n := rfl
 clear hconv
 obtain ⟨ax, cx, rfl, hlx⟩ := HX.out.slice
 go_enter Tryz.func91, Tryz.ntmps91
 go_wp2_with fail
 go_wp2_with (go_at_call 96; refine (HBL.out _).mono ?_; rintro e w' ⟨rfl, rfl⟩)
 go_loopw [5, 6] (fun u i wr => ∃ (j : Nat) (z : Int), j ≤ L ∧ i = .int .i64 z ∧ z = (j : Int) - 1 ∧ Below w.heap.size w wr ∧ Row wr u (dg (x ^ (n / 2 ^ j))).length (cs32 (dg (x ^ (n / 2 ^ j))))) (fun _ i _ => (intOf i + 1).toNat)
 case atStart =>
  refine ⟨L, _, Nat.le_refl _, rfl, rfl, (Below.refl _ _).alloc (Nat.le_refl _) _, ?_⟩
  rw [HNL.out, Nat.pow_zero]
  have h := Row.ofBlk (Blk.new w 105 [.int .u32 1]) (m := 1) (cap := 1) (Nat.le_refl _) (by decide) 1
  have e1 : dg 1 = [1] := by rw [dg_pos (by decide), show 1 / 4294967296 = 0 from rfl, dg_zero]
  rw [e1]
  exact h
 case round =>
  obtain ⟨j, z, hj, rfl, hz, hbel, hrow⟩ := hrel
  obtain ⟨wo, rfl⟩ : ∃ wo : World, wo = wr := ⟨_, rfl⟩
  obtain ⟨au, cu, rfl, hlu⟩ := hrow.slice
  have HB := Lib.hid hbel; clear hbel
  cases j with
  | zero =>
   obtain rfl : z = -1 := by omega
   clear hz
   rw [Nat.pow_zero, Nat.div_one] at hrow ⊢
   have HR := Lib.hid hrow; clear hrow
   go_wp2_with fail
   go_ret
   exact ⟨HB.out, _, rfl, HR.out⟩
  | succ j =>
   obtain rfl : z = (j : Int) := by omega
   clear hz
   have hst := shr_step n j
   have hle : n / 2 ^ j ≤ n := Nat.div_le_self _ _
   have hle2 : n / 2 ^ (j + 1) ≤ n := Nat.div_le_self _ _
   have hdiv : (n : Int) / 2 ^ j = ((n / 2 ^ j : Nat) : Int) := by simp
   obtain ⟨P, hP⟩ : ∃ P, P = x ^ (n / 2 ^ (j + 1)) := ⟨_, rfl⟩
   have hPl : (dg P).length ≤ 100000000 := by rw [hP]; exact HSZ.out _ hle2
   rw [← hP] at hrow hlu ⊢
   obtain ⟨q, hq⟩ : ∃ q, q = n / 2 ^ j := ⟨_, rfl⟩
   have hq6 : q ≤ 1000000 := by rw [hq]; omega
   rw [← hq] at hst hdiv hle
   have hand := bit_i64 (q : Int) (by omega) (by omega)
   have hsq : P * P = x ^ (2 * (n / 2 ^ (j + 1))) := by rw [hP, pow_sq]
   have hPPl : (dg (P * P)).length ≤ 100000000 := by rw [hsq]; exact HSZ.out _ (by omega)
   have HPL := Lib.hid hPl; clear hPl
   have HPPL := Lib.hid hPPl; clear hPPl
   have HR := Lib.hid hrow; clear hrow
   by_cases hbit : q % 2 = 1
   ·
    have hres : x ^ q = P * P * x := by rw [hsq, ← Nat.pow_succ]; congr 1; omega
    have hb2 : ((q : Int) % 2 == 1) = true := by simp; omega
    have HRES := Lib.hid hres; clear hres
    have HSQ := Lib.hid hsq; clear hsq
    have HP := Lib.hid hP; clear hP
    have HST := Lib.hid hst; clear hst
    have HQE := Lib.hid hq; clear hq
    clear hbit hle hle2
    go_wp2_with fail
    go_at_call 121
    refine (multiply_any P P _ _ _ HR.out HR.out (by have := HPL.out; omega) (by have := HPL.out; omega)).mono ?_
    rintro e w1 ⟨hq1, v1, rfl, hv1⟩
    obtain ⟨a1, c1, rfl, hl1⟩ := hv1.slice
    have HQ1 := Lib.hid hq1; clear hq1
    have HV1 := Lib.hid hv1; clear hv1
    go_wp2_with fail
    go_at_call 121
    refine (multiply_any (P * P) x _ _ _ HV1.out ((HX.out.below HB.out (Nat.le_refl _)).below HQ1.out (Nat.le_refl _)) (by have := HPPL.out; omega) (by omega)).mono ?_
    rintro e w2 ⟨hq2, v2, rfl, hv2⟩
    obtain ⟨a2, c2, rfl, hl2⟩ := hv2.slice
    have HQ2 := Lib.hid hq2; clear hq2
    have HV2 := Lib.hid hv2; clear hv2
    go_wp2_with fail
    go_roundw
    case rel =>
     have s1 := HB.out.trans (HQ1.out.mono HB.out.size)
     exact ⟨j, _, by omega, rfl, rfl, s1.trans (HQ2.out.mono s1.size), by rw [← HQE.out, HRES.out]; exact HV2.out⟩
    case measure => simp [intOf]
   ·
    have hres : x ^ q = P * P := by rw [hsq]; congr 1; omega
    have hb2 : ((q : Int) % 2 == 1) = false := by simp; omega
    have HRES := Lib.hid hres; clear hres
    have HSQ := Lib.hid hsq; clear hsq
    have HP := Lib.hid hP; clear hP
    have HST := Lib.hid hst; clear hst
    have HQE := Lib.hid hq; clear hq
    clear hbit hle hle2
    go_wp2_with fail
    go_at_call 121
    refine (multiply_any P P _ _ _ HR.out HR.out (by have := HPL.out; omega) (by have := HPL.out; omega)).mono ?_
    rintro e w1 ⟨hq1, v1, rfl, hv1⟩
    obtain ⟨a1, c1, rfl, hl1⟩ := hv1.slice
    have HQ1 := Lib.hid hq1; clear hq1
    have HV1 := Lib.hid hv1; clear hv1
    go_wp2_with fail
    go_roundw
    case rel =>
     exact ⟨j, _, by omega, rfl, rfl, HB.out.trans (HQ1.out.mono HB.out.size), by rw [← HQE.out, HRES.out]; exact HV1.out⟩
    case measure => simp [intOf]
theorem imag_nat (x : Nat) : bval (imag (x : Int)).data.toList = x := by
 have h := ival_canon (x : Int)
 have h0 : ineg (x : Int) = false := by simp [ineg]
 rw [h0] at h
 unfold ival sgn at h
 simp at h
 omega
set_option maxRecDepth 100000 in
set_option maxHeartbeats 1600000 in
theorem ipower_any (x n : Nat) (w : World) (hx : (imag (x : Int)).size ≤ 100000000) (hn : n ≤ 4096) (hl : (n : Int) * lenB x ≤ 65536) (hl0 : 0 ≤ lenB x ∧ lenB x ≤ 10000000000) (hsz : ∀ e, e ≤ n → (dg (x ^ e)).length ≤ 100000000) :
  Calls Tryz.prog 43 #[IntV (x : Int), .int .i64 (n : Int)] w (Ret w (.tuple #[IntV ((x ^ n : Nat) : Int), .int .i64 0])) := by
 have h0 : ineg (x : Int) = false := by simp [ineg]
 obtain ⟨s, hs⟩ : ∃ s, s = imag (x : Int) := ⟨_, rfl⟩
 have hbv : bval s.data.toList = x := by rw [hs]; exact imag_nat x
 rw [show IntV (x : Int) = .agg #[.bool false, .string s] by rw [hs]; unfold IntV; rw [h0]]
 rw [← hs] at hx
 have hdig := fun w' => digits_any false s w' (by omega)
 rw [hbv] at hdig
 have hdl : (dg x).length ≤ 100000000 := by rw [← hbv]; exact dg_sized (by omega)
 have hdl2 := hsz n (Nat.le_refl _)
 obtain ⟨l, hlq⟩ : ∃ l, l = lenB x := ⟨_, rfl⟩
 have hlen := fun vx w' h => length_any x vx w' h (by omega)
 rw [← hlq] at hl hl0 hlen
 obtain ⟨hl1, hl2⟩ := hl0
 have hnl : decide ((65536 : Int) < (n : Int) * l) = false := by simp; omega
 have hnl1 : 0 ≤ (n : Int) * l := Int.mul_nonneg (by omega) hl1
 have hn1 : decide ((4096 : Int) < (n : Int)) = false := by simp; omega
 have hB0 := (Blk.new w 25 [.bool false, .string s]).alloc (.cells #[.bool false, .string ⟨#[]⟩] 25)
 have hB1 := Blk.new (w.alloc (.cells #[.bool false, .string s] 25)) 25 [.bool false, .string ⟨#[]⟩]
 simp only [World.size_alloc] at hB1
 have HB0 := Lib.hid hB0; clear hB0
 have HB1 := Lib.hid hB1; clear hB1
 have HDIG := Lib.hid hdig; clear hdig
 have HLEN := Lib.hid hlen; clear hlen
 have HBV := Lib.hid hbv; clear hbv
 have HSZ := Lib.hid hsz; clear hsz
 have HLQ := Lib.hid hlq; clear hlq
 have HDL := Lib.hid hdl; clear hdl
 have HDL2 := Lib.hid hdl2; clear hdl2
 clear hs h0
 go_enter Tryz.func43, Tryz.ntmps43
 go_wp2_with fail
 go_at_call 88
 refine (HDIG.out _).mono ?_
 rintro e w1 ⟨hq1, v1, rfl, hv1⟩
 obtain ⟨a1, c1, rfl, -⟩ := hv1.slice
 have tk := HB0.out.keep hq1; have x0 := tk.c 0 rfl; have x1 := tk.c 1 rfl; have A0 := Lib.hid tk; clear tk
 have tk := HB1.out.keep hq1; have y0 := tk.c 0 rfl; have y1 := tk.c 1 rfl; have A1 := Lib.hid tk; clear tk
 have HV1 := Lib.hid hv1; clear hv1
 have HQ1 := Lib.hid hq1; clear hq1
 go_wp2_with fail
 go_at_call 89
 refine (HLEN.out _ _ HV1.out).mono ?_
 rintro e w2 ⟨hq2, rfl⟩
 have tk := A0.out.keep hq2; have p0 := tk.c 0 rfl; have p1 := tk.c 1 rfl; have C0 := Lib.hid tk; clear tk
 have tk := A1.out.keep hq2; have q0 := tk.c 0 rfl; have q1 := tk.c 1 rfl; have C1 := Lib.hid tk; clear tk
 have hv2 := HV1.out.below hq2 (Nat.le_refl _)
 have HV2 := Lib.hid hv2; clear hv2
 have HQ2 := Lib.hid hq2; clear hq2
 go_wp2_with fail
 go_at_call 91
 refine (power_any x n _ _ HV2.out HDL.out (by omega) HSZ.out).mono ?_
 rintro e w3 ⟨hq3, v3, rfl, hv3⟩
 obtain ⟨a3, c3, rfl, -⟩ := hv3.slice
 have tk := C0.out.keep hq3; have s0 := tk.c 0 rfl; have s1 := tk.c 1 rfl; have D0 := Lib.hid tk; clear tk
 have tk := C1.out.keep hq3; have t0 := tk.c 0 rfl; have t1 := tk.c 1 rfl; have D1 := Lib.hid tk; clear tk
 have HV3 := Lib.hid hv3; clear hv3
 have HQ3 := Lib.hid hq3; clear hq3
 go_wp2_with fail
 go_at_call 90
 refine (number_any _ _ _ _ HV3.out (dg_lt _) (by have := HDL2.out; omega)).mono ?_
 rintro e w4 ⟨hq4, rfl⟩
 have tk := D0.out.keep hq4; have a0 := tk.c 0 rfl; have a1 := tk.c 1 rfl; have E0 := Lib.hid tk; clear tk
 have tk := D1.out.keep hq4; have b0 := tk.c 0 rfl; have b1 := tk.c 1 rfl; have E1 := Lib.hid tk; clear tk
 have f0 := E1.out.frozen 0
 have f1 := E1.out.frozen 1
 have HQ4 := Lib.hid hq4; clear hq4
 go_wp2_with fail
 refine bodyPost_ret (v := .tuple #[IntV (sgn false (val (dg (x ^ n)))), .int .i64 0]) (by simp [results, Tryz.results43, go_sem, b0, b1]) rfl ⟨?_, ?_⟩
 ·
  have s0 := ((Below.refl w.heap.size w).alloc (Nat.le_refl _) (.cells #[.bool false, .string s] 25)).alloc (by simp) (.cells #[.bool false, .string ⟨#[]⟩] 25)
  have s1 := s0.trans (HQ1.out.mono s0.size)
  have s2 := s1.trans (HQ2.out.mono s1.size)
  have s3 := s2.trans (HQ3.out.mono s2.size)
  have s4 := s3.trans (HQ4.out.mono s3.size)
  exact (s4.setCell (p := ⟨w.heap.size + 1, 0, none⟩) (Nat.le_add_right _ _) _).setCell (p := ⟨w.heap.size + 1, 1, none⟩) (Nat.le_add_right _ _) _
 ·
  rw [val_dg]; rfl
end Go.Proofs.YtjpalbonclgflaaGreat

/- sturm.check at a canonical polynomial; Chain, Bound, Roots, Count. -/
namespace Go.Proofs.YtjpalbonclgflaaGreat
open Go.RowKit

set_option maxRecDepth 100000 in
set_option maxHeartbeats 3200000 in
theorem scheck_any (l : List Int) (vp : Value) (q : List RawQ) (vq : Value) (w : World) (hr : Row w vp l.length (civ l)) (hrq : Row w vq q.length (crv q)) (hl0 : 0 < l.length) (hl : l.length ≤ 65) (hs : ∀ x ∈ l, small x) (he : Ends l)
  (hqs : ∀ x ∈ q, x.2.1.size ≤ 20000000000 ∧ x.2.2.2.size ≤ 20000000000) :
  Calls Tryz.prog 51 #[vp, vq] w (Ret w (.int .i64 (if oddQ q then 1 else 0))) := by
 have hc := canon_any l vp w hr (by omega) hs
 unfold CanRet at hc
 rw [tzI_id he] at hc
 have heq := fun va vb w' h1 h2 => equalI_yes l va vb w' h1 h2
 have hcf := fun w' h => cfQ_any q vq w' h hqs
 obtain ⟨t, ht⟩ : ∃ t, t = oddQ q := ⟨_, rfl⟩
 rw [← ht] at hcf ⊢
 obtain ⟨va, vc, rfl, -⟩ := hr.slice
 obtain ⟨n, hn⟩ : ∃ n, n = l.length := ⟨_, rfl⟩
 rw [← hn] at hr hc heq hl hl0 ⊢
 have hn0 : ((n : Int) == 0) = false := by simp; omega
 have hn65 : decide (65 < (n : Int)) = false := decide_eq_false (by omega)
 obtain ⟨qa, qc, rfl, -⟩ := hrq.slice
 obtain ⟨lq, hlq⟩ : ∃ n, n = q.length := ⟨_, rfl⟩
 rw [← hlq] at hrq hcf ⊢
 have HR := Lib.hid hr; clear hr
 have HRQ := Lib.hid hrq; clear hrq
 have HC := Lib.hid hc; clear hc
 have HEQ := Lib.hid heq; clear heq
 have HCF := Lib.hid hcf; clear hcf
 clear hs he hqs ht hn hl hl0 hlq
 cases t
 all_goals
  go_enter Tryz.func51, Tryz.ntmps51
  go_wp2_with fail
  refine (HC.out).mono ?_
  rintro e1 w1 ⟨hq1, v1, rfl, hv1⟩
  dsimp only
  have hr1 := HR.out.below hq1 (Nat.le_refl _)
  have hrq1 := HRQ.out.below hq1 (Nat.le_refl _)
  have he1 := HEQ.out _ _ _ hv1 hr1
  clear hv1 hr1
  have S1 := Lib.hid hq1; clear hq1
  have HRQ1 := Lib.hid hrq1; clear hrq1
  have HE1 := Lib.hid he1; clear he1
  go_wp2_with fail
  refine (HE1.out).mono ?_
  rintro e2 w2 ⟨hq2, rfl⟩
  dsimp only
  have s2 := S1.out.trans (hq2.mono S1.out.size)
  have hcf2 := HCF.out _ (HRQ1.out.below hq2 (Nat.le_refl _))
  clear S1 HE1 HRQ1 hq2
  have S2 := Lib.hid s2; clear s2
  have HCF2 := Lib.hid hcf2; clear hcf2
  go_wp2_with fail
  refine (HCF2.out).mono ?_
  rintro e3 w3 ⟨hq3, rfl⟩
  dsimp only
  have s3 := S2.out.trans (hq3.mono S2.out.size)
  clear S2 hq3
  have S3 := Lib.hid s3; clear s3
  go_wp2_with fail
  go_ret
  exact ⟨S3.out, rfl⟩
end Go.Proofs.YtjpalbonclgflaaGreat

/- sturm.Chain, Bound, Roots (printed by gen_std.py). -/
namespace Go.Proofs.YtjpalbonclgflaaGreat
open Go.RowKit

theorem AFine.small {l : List Int} {M : Nat} (h : AFine l M) : ∀ x ∈ l, small x := fun x hx => by have := (h.z x hx).size; have := h.hM; unfold Go.Proofs.YtjpalbonclgflaaGreat.small; omega
theorem scheck_nil (l : List Int) (vp : Value) (w : World) {M : Nat} (hr : Row w vp l.length (civ l)) (hf : AFine l M) : Calls Tryz.prog 51 #[vp, .slice none 0 0] w (Ret w (.int .i64 0)) :=
 scheck_any l vp [] _ w hr (Row.nil _) hf.pos hf.len hf.small hf.ends (fun x hx => absurd hx (by simp))
set_option maxRecDepth 100000 in
set_option maxHeartbeats 3200000 in
theorem sChain_any (l : List Int) (v : Value) (w : World) (M : Nat) (hr : Row w v l.length (civ l)) (hf : AFine l M) :
  Calls Tryz.prog 16 #[v] w (AllRet (stmA l) w) := by
 have hck := scheck_nil l v w hr hf
 have hal := fun w' h => sall_any l v w' M h hf
 obtain ⟨R, hR⟩ : ∃ R, R = stmA l := ⟨_, rfl⟩
 rw [← hR] at hal ⊢
 obtain ⟨va, vc, rfl, -⟩ := hr.slice
 obtain ⟨n, hn⟩ : ∃ n, n = l.length := ⟨_, rfl⟩
 rw [← hn] at hr hck hal ⊢
 unfold AllRet at hal
 have HR := Lib.hid hr; clear hr
 have HCK := Lib.hid hck; clear hck
 have HAL := Lib.hid hal; clear hal
 clear hf hR hn
 go_enter Tryz.func16, Tryz.ntmps16
 go_wp2_with fail
 refine (HCK.out).mono ?_
 rintro e1 w1 ⟨hq1, rfl⟩
 dsimp only
 have ha := HAL.out _ (HR.out.below hq1 (Nat.le_refl _))
 have HA := Lib.hid ha; clear ha
 have S1 := Lib.hid hq1; clear hq1
 go_wp2_with fail
 refine (HA.out).mono ?_
 rintro e2 w2 ⟨hq2, v2, rfl, hv2⟩
 dsimp only
 have s2 := S1.out.trans (hq2.mono S1.out.size)
 have S2 := Lib.hid s2; clear s2
 have HV2 := Lib.hid hv2; clear hv2
 clear hq2
 go_wp2_with fail
 refine bodyPost_ret (v := .tuple #[v2, .int .i64 0]) (by simp [results, Tryz.results16, go_sem]) rfl ⟨S2.out, v2, rfl, HV2.out⟩
set_option maxRecDepth 100000 in
set_option maxHeartbeats 3200000 in
theorem sBound_any (l : List Int) (v : Value) (w : World) (M : Nat) (hr : Row w v l.length (civ l)) (hf : AFine l M) :
  Calls Tryz.prog 34 #[v] w (Ret w (.tuple #[IntV (bnd l : Int), .int .i64 0])) := by
 have hck := fun w' h => scheck_nil l v w' h hf
 have hbo := fun w' h => sbound_any l v w' M h hf.pos (by have := hf.len; omega) hf.ends hf.z (by have := hf.hM; omega)
 obtain ⟨B, hB⟩ : ∃ B : Int, B = (bnd l : Int) := ⟨_, rfl⟩
 rw [← hB] at hbo ⊢
 clear hf hB
 obtain ⟨va, vc, rfl, -⟩ := hr.slice
 obtain ⟨n, hn⟩ : ∃ n, n = l.length := ⟨_, rfl⟩
 rw [← hn] at hr hck hbo ⊢
 clear hn
 have HRW := Lib.hid hr; clear hr
 have HCK := Lib.hid hck; clear hck
 have HBO := Lib.hid hbo; clear hbo
 obtain ⟨w4, hw4⟩ : ∃ w4, w4 = w.alloc (.cells #[.bool false, .string ⟨#[]⟩] 25) := ⟨_, rfl⟩
 have k_r : Blk w4 (w.heap.size) 25 [.bool false, .string ⟨#[]⟩] := by
  rw [hw4]
  have h := (Blk.new (w) 25 [.bool false, .string ⟨#[]⟩])
  (try simp only [World.size_alloc, Nat.add_assoc, Nat.reduceAdd] at h)
  exact h
 have tl : Below w.heap.size w w4 := by
  rw [hw4]
  exact ((Below.refl w.heap.size w).alloc (by simp <;> omega) (.cells #[.bool false, .string ⟨#[]⟩] 25))
 have hs4 : w4.heap.size = w.heap.size + 1 := by rw [hw4]; simp only [World.size_alloc]
 have r_0 := k_r.c 0 rfl
 have r_f0 := k_r.frozen 0
 have r_1 := k_r.c 1 rfl
 have r_f1 := k_r.frozen 1
 have HR := Lib.hid k_r; clear k_r
 have HBL := Lib.hid tl; clear tl
 go_enter Tryz.func34, Tryz.ntmps34
 go_wp2_with fail
 (try rw [← hw4])
 clear hw4
 (try simp only [Nat.add_assoc, Nat.reduceAdd])
 have hck := HCK.out _ (HRW.out.below HBL.out (Nat.le_refl _))
 have HCK1 := Lib.hid hck; clear hck
 refine (HCK1.out).mono ?_
 rintro e w5 ⟨hq, rfl⟩
 dsimp only
 have k_r := HR.out.keep hq
 have tl := HBL.out.trans ((hq).mono HBL.out.size)
 clear HBL HR
 clear r_0 r_f0 r_1 r_f1
 have r_0 := k_r.c 0 rfl
 have r_f0 := k_r.frozen 0
 have r_1 := k_r.c 1 rfl
 have r_f1 := k_r.frozen 1
 have HR := Lib.hid k_r; clear k_r
 have HBL := Lib.hid tl; clear tl
 clear hq
 have hbo := HBO.out _ (HRW.out.below HBL.out (Nat.le_refl _))
 have HBO1 := Lib.hid hbo; clear hbo
 go_wp2_with fail
 refine (HBO1.out).mono ?_
 rintro e w6 ⟨hq, rfl⟩
 dsimp only
 have k_r := HR.out.keep hq
 have tl := HBL.out.trans ((hq).mono HBL.out.size)
 clear HBL HR
 clear r_0 r_f0 r_1 r_f1
 have r_0 := k_r.c 0 rfl
 have r_f0 := k_r.frozen 0
 have r_1 := k_r.c 1 rfl
 have r_f1 := k_r.frozen 1
 have HR := Lib.hid k_r; clear k_r
 have HBL := Lib.hid tl; clear tl
 clear hq
 go_wp2_with fail
 have hrv : IntV B = .agg #[.bool (ineg (B)), .string (imag (B))] := rfl
 have kz := ((HR.out.set 0 (.bool (ineg (B)))).set 1 (.string (imag (B))))
 have sz := ((HBL.out.setCell (p := ⟨w.heap.size, 0, none⟩) (by show w.heap.size ≤ w.heap.size; omega) (.bool (ineg (B)))).setCell (p := ⟨w.heap.size, 1, none⟩) (by show w.heap.size ≤ w.heap.size; omega) (.string (imag (B))))
 have e0 := kz.c 0 rfl
 have e1 := kz.c 1 rfl
 refine bodyPost_ret (v := .tuple #[IntV B, .int .i64 0]) (by rw [hrv]; simp [results, Tryz.results34, go_sem, e0, e1]) rfl ⟨sz, rfl⟩
end Go.Proofs.YtjpalbonclgflaaGreat

/- What the law SturmBounds asks for: Bits, Bound, Power, At at a polynomial's bound. -/
namespace Go.Proofs.YtjpalbonclgflaaGreat
open Go.RowKit

set_option maxRecDepth 100000 in
set_option maxHeartbeats 3200000 in
theorem bits_any (z : Int) (w : World) (hz : (imag z).size ≤ 100000000000) : Calls Tryz.prog 45 #[IntV z] w (Ret w (.int .i64 (lenB z.natAbs))) := by
 have hdx := fun w' => digits_any (ineg z) (imag z) w' (by omega)
 have hdl : (dg (bval (imag z).data.toList)).length ≤ 100000000000 := dg_sized (by omega)
 rw [imag_list, bval_bb] at hdx hdl
 obtain ⟨x, hx⟩ : ∃ x, x = z.natAbs := ⟨_, rfl⟩
 rw [← hx] at hdx hdl ⊢
 have hlen := fun vx w' h => length_any x vx w' h hdl
 obtain ⟨q, hq⟩ : ∃ q, q = lenB x := ⟨_, rfl⟩
 rw [← hq] at hlen ⊢
 show Calls Tryz.prog 45 #[.agg #[.bool (ineg z), .string (imag z)]] w _
 obtain ⟨b, hb⟩ : ∃ b, b = ineg z := ⟨_, rfl⟩
 obtain ⟨s, hs2⟩ : ∃ s, s = imag z := ⟨_, rfl⟩
 rw [← hb, ← hs2]
 rw [← hb, ← hs2] at hdx
 have s0 := (Below.refl w.heap.size w).alloc (Nat.le_refl _) (.cells #[.bool b, .string s] 25)
 have S0 := Lib.hid s0; clear s0
 have HDX := Lib.hid hdx; clear hdx
 have HLEN := Lib.hid hlen; clear hlen
 clear hz hq hx hb hs2 hdl
 go_enter Tryz.func45, Tryz.ntmps45
 go_wp2_with fail
 go_at_call 88
 refine (HDX.out _).mono ?_
 rintro e w1 ⟨hq1, v1, rfl, hv1⟩
 have hl1 := HLEN.out v1 w1 hv1
 have s1 := S0.out.trans (hq1.mono S0.out.size)
 have S1 := Lib.hid s1; clear s1
 have HL1 := Lib.hid hl1; clear hl1
 clear hq1 hv1
 go_wp2_with fail
 go_at_call 89
 refine HL1.out.mono ?_
 rintro e w2 ⟨hq2, rfl⟩
 have s2 := S1.out.trans (hq2.mono S1.out.size)
 have S2 := Lib.hid s2; clear s2
 clear hq2
 go_wp2_with fail
 go_ret
 exact ⟨S2.out, rfl⟩
theorem lenB_pow {K : Nat} (hK : K < 32) : lenB (2 ^ K) = (K : Int) + 1 := by
 have hp : 2 ^ K < 2 ^ 32 := Nat.pow_lt_pow_right (by decide) hK
 have h0 : 0 < 2 ^ K := Nat.pow_pos (by decide)
 have hd : dg (2 ^ K) = [2 ^ K] := by rw [dg_pos h0, Nat.mod_eq_of_lt (by omega), Nat.div_eq_of_lt (by omega), dg_zero]
 unfold lenB
 rw [if_neg (by omega), hd]
 have e : dig (2 ^ K) ([2 ^ K].length - 1) = 2 ^ K := by
  show dig (2 ^ K) 0 = _
  simp [dig]; omega
 rw [e]
 have hall : ∀ k, k < 32 → Lib.bitLen (2 ^ k) = k + 1 := by decide
 rw [hall K hK]
 simp
theorem dg_pow {e : Nat} (h : e < 32) : (dg (2 ^ e)).length ≤ 100000000 := by
 refine Nat.le_trans (dg_length_le (m := 1) ?_) (by decide)
 have : 2 ^ e < 2 ^ 32 := Nat.pow_lt_pow_right (by decide) h
 omega
theorem lenB_two : lenB 2 = 2 := by
 have := lenB_pow (K := 1) (by decide)
 simpa using this
theorem pow2_any (K : Nat) (hK : K < 32) (w : World) : Calls Tryz.prog 43 #[IntV 2, .int .i64 (K : Int)] w (Ret w (.tuple #[IntV ((2 ^ K : Nat) : Int), .int .i64 0])) :=
 ipower_any 2 K w (by rw [imag_size]; exact Nat.le_trans (bb_length_le (m := 1) (by decide)) (by decide)) (by omega) (by rw [lenB_two]; omega) (by rw [lenB_two]; decide) (fun e he => dg_pow (by omega))
theorem divInt1 (z : Int) : Rat.divInt z 1 = (z : Rat) := Rat.num_divInt_den (z : Rat)
theorem evL_rev (b : Int) : ∀ l : List Int, evL (Rat.divInt b 1) l.reverse = Rat.divInt (evZ l b) 1
 | [] => by simp [evL, evZ]
 | c :: l =>
  by
  rw [List.reverse_cons, evL_snoc, evL_rev b l, evZ_cons]
  simp only [divInt1]
  rw [Rat.intCast_add, Rat.intCast_mul]
theorem evZ_sized {l : List Int} {B M : Nat} (hB : 0 < B) (hl : l.length ≤ 8) (hs : ∀ x ∈ l, zs 3 x) (hB2 : B < 256 ^ 4) : zs 40 (evZ l (B : Int)) := by
 obtain ⟨d, rfl⟩ : ∃ d, B = d + 1 := ⟨B - 1, by omega⟩
 unfold zs
 rcases Nat.eq_zero_or_pos d with rfl | hd
 ·
  have h : ∀ l : List Int, (∀ x ∈ l, zs 3 x) → (evZ l ((0 + 1 : Nat) : Int)).natAbs ≤ l.length * 256 ^ 3 := by
   intro l
   induction l with
   | nil => intro _; simp [evZ]
   | cons c l ih =>
    intro h
    have h1 := ih (fun x hx => h x (by simp [hx]))
    have h2 : c.natAbs < 256 ^ 3 := h c (by simp)
    rw [evZ_cons, List.length_cons, Nat.add_mul]
    have h3 := Int.natAbs_add_le (evZ l ((0 + 1 : Nat) : Int) * ((0 + 1 : Nat) : Int)) c
    rw [Int.natAbs_mul] at h3
    have h4 : (((0 + 1 : Nat) : Int)).natAbs = 1 := rfl
    rw [h4, Nat.mul_one] at h3
    omega
  have h5 := h l hs
  have h6 : l.length * 256 ^ 3 ≤ 8 * 256 ^ 3 := Nat.mul_le_mul_right _ hl
  have h7 : 8 * 256 ^ 3 < 256 ^ 40 := by decide
  omega
 ·
  have h1 := evZ_le l d (256 ^ 3) (fun x hx => Nat.le_of_lt (hs x hx))
  have h2 : (d + 1) ^ l.length ≤ (256 ^ 4) ^ 8 := Nat.le_trans (Nat.pow_le_pow_left (by omega) _) (Nat.pow_le_pow_right (by decide) hl)
  have h3 : 256 ^ 3 * (d + 1) ^ l.length ≤ 256 ^ 3 * (256 ^ 4) ^ 8 := Nat.mul_le_mul_left _ h2
  have h4 : (evZ l ((d + 1 : Nat) : Int)).natAbs ≤ (evZ l ((d + 1 : Nat) : Int)).natAbs * d := Nat.le_mul_of_pos_right _ hd
  have h5 : 256 ^ 3 * (256 ^ 4) ^ 8 < 256 ^ 40 := by decide
  omega
theorem bndK_small {l : List Int} (he : Ends l) (h0 : 0 < l.length) (hs : ∀ x ∈ l, zs 3 x) : bndK l < 32 := by
 have h := bnd_zs he h0 hs (Nat.le_refl _)
 unfold zs at h
 rw [Int.natAbs_natCast] at h
 refine Nat.lt_of_not_le fun hc => ?_
 have : 2 ^ 32 ≤ 2 ^ bndK l := Nat.pow_le_pow_right (by decide) hc
 have h2 : (256 : Nat) ^ (3 + 1) = 2 ^ 32 := by decide
 omega
theorem atB_any (l : List Int) (v : Value) (w : World) (hr : Row w v l.length (civ l)) (hl : l.length ≤ 8) (h0 : 0 < l.length) (he : Ends l) (hs : ∀ x ∈ l, zs 3 x) :
  Calls Tryz.prog 46 #[v, RatV (Rat.divInt (bnd l : Int) 1)] w (Ret w (.tuple #[RatV (Rat.divInt (evZ l (bnd l : Int)) 1), .int .i64 0])) := by
 have hk := bndK_small he h0 hs
 have hB : bnd l < 256 ^ 4 := by
  have : 2 ^ bndK l < 2 ^ 32 := Nat.pow_lt_pow_right (by decide) hk
  have h2 : (256 : Nat) ^ 4 = 2 ^ 32 := by decide
  show 2 ^ bndK l < _
  omega
 have hB0 : 0 < bnd l := Nat.pow_pos (by decide)
 have hz1 : zs 40 (1 : Int) := zs_nat 1 40 (by decide)
 have h := (callsIn_wide (n := 8)).1 (at_in l v (Rat.divInt (bnd l : Int) 1) w 3 40 hr (by omega) hs (by decide) he (divInt_sized (zs_nat _ _ (Nat.lt_trans hB (by decide))) hz1 (by decide)) (by decide) (fun p hp => by
  have e : p = p.reverse.reverse := by simp
  rw [e, evL_rev]
  have hsub : p.reverse.Sublist l := by
   have h2 := hp.sublist.reverse
   rwa [List.reverse_reverse] at h2
  exact divInt_sized (evZ_sized (M := 0) hB0 (by have := hsub.length_le; omega) (fun x hx => hs x (hsub.mem hx)) hB) hz1 (by decide)))
 rw [evL_rev] at h
 exact h
theorem cmp_int (z : Int) : (if Rat.divInt z 1 < Rat.divInt 0 1 then -1 else if Rat.divInt z 1 = Rat.divInt 0 1 then 0 else 1 : Int) = cmpZ z 0 := by
 simp only [divInt1]
 unfold cmpZ
 simp only [Rat.intCast_lt_intCast, Rat.intCast_inj]
end Go.Proofs.YtjpalbonclgflaaGreat


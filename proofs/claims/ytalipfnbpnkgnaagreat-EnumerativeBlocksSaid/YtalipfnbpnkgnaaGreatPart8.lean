/- Contracts and plain laws of several functions, one after the other: Mul, MulI, Pow. -/
import Derived.Test.YtalipfnbpnkgnaaGreatAddSub
import Derived.Test.YtalipfnbpnkgnaaGreatPart6
import Derived.Test.YtalipfnbpnkgnaaGreatPart5
import Derived.Test.YtalipfnbpnkgnaaGreatPart3
/- integer.multiply: on digits it multiplies numbers; nothing that was there is changed. -/
namespace Go.Proofs.YtalipfnbpnkgnaaGreat
open Go.RowKit

theorem retnat_zero (w w' : World) (h : Below w.heap.size w w') : RetNat w 0 (.returned (.slice none 0 0)) w' := ⟨h, _, rfl, by rw [dg_zero]; exact Row.nil _⟩
theorem cs32_set (l : List Nat) (i d : Nat) : (cs32 l).set i (.int .u32 (d : Int)) = cs32 (l.set i d) := by simp [cs32, List.map_set]
theorem u32_of (s : Nat) : (s : Int) % 4294967296 = ((s % 4294967296 : Nat) : Int) := by omega
set_option maxRecDepth 100000 in
set_option maxHeartbeats 1600000 in
/-- integer.multiply. -/
theorem multiply_any (x y : Nat) (vx vy : Value) (w : World) (hx : Row w vx (dg x).length (cs32 (dg x))) (hy : Row w vy (dg y).length (cs32 (dg y)))
    (hb1 : (dg x).length ≤ 100000000000) (hb2 : (dg y).length ≤ 100000000000) :
    Calls Tryz.prog 99 #[vx, vy] w (RetNat w (x * y)) := by
  obtain ⟨ax, cx, rfl, hlx⟩ := hx.slice
  obtain ⟨ay, cy, rfl, hly⟩ := hy.slice
  obtain ⟨m, hm⟩ : ∃ m, m = (dg x).length := ⟨_, rfl⟩
  obtain ⟨n, hn⟩ : ∃ n, n = (dg y).length := ⟨_, rfl⟩
  rw [← hm] at hx hlx hb1 ⊢
  rw [← hn] at hy hly hb2 ⊢
  by_cases hm0 : m = 0
  · subst hm0
    have hz : x * y = 0 := by rw [dg_nil (List.length_eq_zero_iff.1 hm.symm), Nat.zero_mul]
    rw [hz]
    clear hm hn hx hy hz
    go_enter Tryz.func99, Tryz.ntmps99
    go_wp2_with fail
    go_ret
    exact retnat_zero _ _ (Below.refl _ _)
  · have hmb : ((m : Int) == 0) = false := by simp; omega
    by_cases hn0 : n = 0
    · subst hn0
      have hz : x * y = 0 := by rw [dg_nil (List.length_eq_zero_iff.1 hn.symm), Nat.mul_zero]
      rw [hz]
      clear hm hn hx hy hz
      go_enter Tryz.func99, Tryz.ntmps99
      go_wp2_with fail
      go_ret
      exact retnat_zero _ _ (Below.refl _ _)
    · have hnb : ((n : Int) == 0) = false := by simp; omega
      have hmk := mk32 (m + n) (by omega) ((m : Int) + n) (by omega)
      have hly2 : y < 4294967296 ^ n := by rw [hn]; exact lt_pow_dg y
      have HLY := Lib.hid hly2; clear hly2
      have HM := Lib.hid hm; clear hm
      have HN := Lib.hid hn; clear hn
      have HX := Lib.hid hx; clear hx
      have HY := Lib.hid hy; clear hy
      clear hm0 hn0
      go_enter Tryz.func99, Tryz.ntmps99
      go_wp2_with fail
      clear hmk
      go_loopw [28] (fun i wr => ∃ k : Nat, k ≤ m ∧ i = .int .i64 k ∧ Below w.heap.size w wr ∧ Blk wr w.heap.size 103 (cs32 (Dn (m + n) ((x % 4294967296 ^ k) * y)))) (fun i _ => m - (intOf i).toNat)
      case atStart =>
        refine ⟨0, Nat.zero_le _, rfl, (Below.refl _ _).alloc (Nat.le_refl _) _, ?_⟩
        have h := Blk.zero w 103 (.int .u32 0) (m + n)
        rw [zrow_one _ _ rfl] at h
        simpa [Nat.mod_one, Dn_zero, cs32] using h
      case round =>
        obtain ⟨i, hi, rfl, hbel, hblk⟩ := hrel
        obtain ⟨wo, rfl⟩ : ∃ wo : World, wo = wr := ⟨_, rfl⟩
        have HB := Lib.hid hbel; clear hbel
        have HK := Lib.hid hblk; clear hblk
        by_cases hlt : i < m
        · obtain ⟨bx, ox, rfl, hbx, hcx⟩ := HX.out.at_ (by omega)
          have c1 := hcx i _ (cs32_get (dg_get x i (by rw [← HM.out]; omega)))
          rw [← HB.out.cell (p := ⟨bx, ox + i, none⟩) hbx] at c1
          clear hcx hbx
          obtain ⟨d, hd⟩ : ∃ d, d = dig x i := ⟨_, rfl⟩
          have hd32 : d < 4294967296 := by rw [hd]; exact dig_lt _ _
          rw [← hd] at c1
          have HD := Lib.hid hd; clear hd
          go_wp2_with fail
          go_loopw [8, 35] (fun c k wr => ∃ (j z : Nat), j ≤ n ∧ k = .int .i64 j ∧ c = .int .u64 (z : Int) ∧ z < 4294967296 ∧ Below w.heap.size w wr ∧ mulZ x y i j / 4294967296 ^ (i + j) = (x % 4294967296 ^ i) * y / 4294967296 ^ (i + j) + z ∧ Blk wr w.heap.size 103 (cs32 (mixD (m + n) (i + j) (mulZ x y i j) ((x % 4294967296 ^ i) * y)))) (fun _ k _ => n - (intOf k).toNat)
          case atStart =>
            refine ⟨0, 0, Nat.zero_le _, rfl, rfl, by decide, HB.out, by rw [mulZ_zero]; rfl, ?_⟩
            rw [mulZ_zero, mixD_same]; exact HK.out
          case round =>
            obtain ⟨j, z, hj, rfl, rfl, hz, hbel, hdv, hblk⟩ := hrel
            have HB2 := Lib.hid hbel; clear hbel
            by_cases hlt2 : j < n
            · obtain ⟨by_, oy, rfl, hby, hcy⟩ := HY.out.at_ (by omega)
              have c2 := hcy j _ (cs32_get (dg_get y j (by rw [← HN.out]; omega)))
              rw [← HB2.out.cell (p := ⟨by_, oy + j, none⟩) hby] at c2
              clear hcy hby
              obtain ⟨e, he⟩ : ∃ e, e = dig y j := ⟨_, rfl⟩
              have he32 : e < 4294967296 := by rw [he]; exact dig_lt _ _
              rw [← he] at c2
              have hcell := hblk.cell (cs32_get (mixD_get (j := i + j) (z := mulZ x y i j) (p := (x % 4294967296 ^ i) * y) (show i + j < m + n by omega)))
              rw [if_neg (by omega)] at hcell
              obtain ⟨q, hq⟩ : ∃ q, q = dig ((x % 4294967296 ^ i) * y) (i + j) := ⟨_, rfl⟩
              have hq32 : q < 4294967296 := by rw [hq]; exact dig_lt _ _
              rw [← hq] at hcell
              have hfz := hblk.frozen (i + j)
              have hst := mul_step (de := d * e) hdv
              rw [← hq] at hst
              have hsucc := mulZ_succ x y i j
              rw [← HD.out, ← he] at hsucc
              rw [← hsucc] at hst
              obtain ⟨f, hf⟩ : ∃ f, f = d * e := ⟨_, rfl⟩
              have hfi : (d : Int) * (e : Int) = (f : Int) := by rw [hf]; simp
              have hf64 : f ≤ 18446744065119617025 := by rw [hf]; exact de_lt hd32 he32
              rw [← hf] at hst
              have HST := Lib.hid hst; clear hst
              have HSU := Lib.hid hsucc; clear hsucc
              have HBK := Lib.hid hblk; clear hblk
              have HDV := Lib.hid hdv; clear hdv
              clear he hq hf
              go_wp2_with fail
              go_roundw
              case rel =>
                refine ⟨j + 1, (f + q + z) / 4294967296, by omega, by go_num, ?_, by omega, HB2.out.setCell (p := ⟨w.heap.size, i + j, none⟩) (Nat.le_refl _) _, by rw [← Nat.add_assoc i j 1]; exact HST.out.2.1, ?_⟩
                · first | rfl | (congr 1; omega)
                · rw [← Nat.add_assoc i j 1]
                  refine (HBK.out.set (i + j) _).congr ?_
                  rw [← mixD_set (z := mulZ x y i j) (by omega) HST.out.1 HST.out.2.2, ← cs32_set]
                  first | rfl | (congr 2; omega)
              case measure => simp [intOf]; omega
            · obtain rfl : j = n := by omega
              have hset := mul_last_set (m := m + j) (i := i) (n := j) (c := z) (by omega) HLY.out hdv hz
              have hcell := hblk.cell (cs32_get (mixD_get (j := i + j) (z := mulZ x y i j) (p := (x % 4294967296 ^ i) * y) (show i + j < m + j by omega)))
              have hfz := hblk.frozen (i + j)
              have hzm : (z : Int) % 4294967296 = z := by omega
              have HSET := Lib.hid hset; clear hset
              have HBK := Lib.hid hblk; clear hblk
              have HDV := Lib.hid hdv; clear hdv
              go_wp2_with fail
              go_roundw
              case rel =>
                refine ⟨i + 1, by omega, by go_num, HB2.out.setCell (p := ⟨w.heap.size, i + j, none⟩) (Nat.le_refl _) _, ?_⟩
                refine (HBK.out.set (i + j) _).congr ?_
                rw [← HSET.out, ← cs32_set]
              case measure => simp [intOf]; omega
        · obtain rfl : i = m := by omega
          have hmod : x % 4294967296 ^ i = x := Nat.mod_eq_of_lt (by rw [HM.out]; exact lt_pow_dg x)
          have hrow : Row wo (.slice (some ⟨w.heap.size, 0, none⟩) (i + n) (i + n)) (Dn (i + n) (x * y)).length (cs32 (Dn (i + n) (x * y))) := by
            have h := HK.out
            rw [hmod] at h
            have h2 := Row.ofBlk h (m := i + n) (cap := i + n) (Nat.le_refl _) (by unfold maxLen; omega) (i + n)
            rw [List.take_of_length_le (by simp [cs32, Dn_length])] at h2
            rw [Dn_length]; exact h2
          have HRW := Lib.hid hrow; clear hrow
          have HMOD := Lib.hid hmod; clear hmod
          go_wp2_with (go_at_call 94; refine (trim_any _ _ _ HRW.out).mono ?_; rintro e w' ⟨rfl, v', rfl, hv'⟩)
          go_ret
          refine ⟨HB.out, v', rfl, ?_⟩
          have hlt2 : x * y < 4294967296 ^ (i + n) := by
            rw [Nat.pow_add]
            exact Nat.mul_lt_mul'' (by rw [HM.out]; exact lt_pow_dg x) HLY.out
          rwa [tz_Dn hlt2] at hv'
end Go.Proofs.YtalipfnbpnkgnaaGreat

/- integer.Mul. -/
namespace Go.Proofs.YtalipfnbpnkgnaaGreat
open Go.RowKit

theorem sgn_mul (na nb : Bool) (x y : Nat) : sgn (na != nb) (x * y) = sgn na x * sgn nb y := by
  cases na <;> cases nb <;> simp [sgn, Int.neg_mul, Int.mul_neg]
theorem dg_sized {s : ByteArray} {m : Nat} (hs : s.size ≤ 4 * m) : (dg (bval s.data.toList)).length ≤ m := by
  refine dg_length_le ?_
  have h1 := bval_lt s.data.toList
  have h2 : 256 ^ s.data.toList.length ≤ 256 ^ (4 * m) := Nat.pow_le_pow_right (by decide) (by simpa using hs)
  have h3 : (256 : Nat) ^ (4 * m) = 4294967296 ^ m := by rw [Nat.pow_mul]
  omega
set_option maxRecDepth 100000 in
set_option maxHeartbeats 3200000 in
theorem imul_any (na nb : Bool) (sa sb : ByteArray) (w : World) (hs : sa.size ≤ 400000000000) (ht : sb.size ≤ 400000000000) :
    Calls Tryz.prog 66 #[.agg #[.bool na, .string sa], .agg #[.bool nb, .string sb]] w (Ret w (IntV (ival na sa * ival nb sb))) := by
  have hs' : sa.size ≤ 1099511627776 := by omega
  have ht' : sb.size ≤ 1099511627776 := by omega
  have hla : (dg (bval sa.data.toList)).length ≤ 100000000000 := dg_sized (by omega)
  have hlb : (dg (bval sb.data.toList)).length ≤ 100000000000 := dg_sized (by omega)
  have hlen : (dg (bval sa.data.toList * bval sb.data.toList)).length ≤ 274877906944 := by
    have := dg_mul_length (bval sa.data.toList) (bval sb.data.toList); omega
  have hw2 : ¬ (w.heap.size + 1 + 1 = w.heap.size) := by omega
  have hB0 := (((Blk.new w 33 [.bool na, .string sa]).alloc (.cells #[.bool nb, .string sb] 33)).alloc (.cells #[.bool false, .string ⟨#[]⟩] 33))
  have HB0 := Lib.hid hB0; clear hB0
  have hB1 := ((Blk.new (w.alloc (.cells #[.bool na, .string sa] 33)) 33 [.bool nb, .string sb]).alloc (.cells #[.bool false, .string ⟨#[]⟩] 33))
  simp only [World.size_alloc, Nat.add_assoc, Nat.reduceAdd] at hB1
  have HB1 := Lib.hid hB1; clear hB1
  have hB2 := (Blk.new ((w.alloc (.cells #[.bool na, .string sa] 33)).alloc (.cells #[.bool nb, .string sb] 33)) 33 [.bool false, .string ⟨#[]⟩])
  simp only [World.size_alloc, Nat.add_assoc, Nat.reduceAdd] at hB2
  have HB2 := Lib.hid hB2; clear hB2
  have hmi := sgn_mul na nb (bval sa.data.toList) (bval sb.data.toList)
  have HMI := Lib.hid hmi; clear hmi
  have HLA := Lib.hid hla; clear hla
  have HLB := Lib.hid hlb; clear hlb
  have HLEN := Lib.hid hlen; clear hlen
  go_enter Tryz.func66, Tryz.ntmps66
  go_wp2_with fail
  go_region_held3 (fun w' => w'.cell? ⟨w.heap.size, 0, none⟩ = some (.bool na) ∧ w'.cell? ⟨w.heap.size, 1, none⟩ = some (.string sa) ∧ w'.cell? ⟨w.heap.size + 1, 0, none⟩ = some (.bool nb) ∧ w'.cell? ⟨w.heap.size + 1, 1, none⟩ = some (.string sb)) (go_keep) (first | (go_at_call_of 81 (Value.agg #[.bool na, .string sa]); refine (digits_any na sa _ hs').mono ?_; rintro e w1 ⟨hq1, v1, rfl, hv1⟩; have tk := HB0.out.drew.keep hq1; have x0 := tk.cell (j := 0) rfl; have x1 := tk.cell (j := 1) rfl; have A0 := Lib.hid tk; clear tk; have tk := HB1.out.drew.keep hq1; have y0 := tk.cell (j := 0) rfl; have y1 := tk.cell (j := 1) rfl; have A1 := Lib.hid tk; clear tk; have tk := HB2.out.drew.keep hq1; have z0 := tk.cell (j := 0) rfl; have z1 := tk.cell (j := 1) rfl; have A2 := Lib.hid tk; clear tk; have HV1 := Lib.hid hv1; clear hv1; have HQ1 := Lib.hid hq1; clear hq1) | (go_at_call_of 81 (Value.agg #[.bool nb, .string sb]); refine (digits_any nb sb _ ht').mono ?_; rintro e w2 ⟨hq2, v2, rfl, hv2⟩; have tk := A0.out.keep hq2; have p0 := tk.cell (j := 0) rfl; have p1 := tk.cell (j := 1) rfl; have C0 := Lib.hid tk; clear tk; have tk := A1.out.keep hq2; have q0 := tk.cell (j := 0) rfl; have q1 := tk.cell (j := 1) rfl; have C1 := Lib.hid tk; clear tk; have tk := A2.out.keep hq2; have r0 := tk.cell (j := 0) rfl; have r1 := tk.cell (j := 1) rfl; have C2 := Lib.hid tk; clear tk; have hv3 := HV1.out.below hq2 (Nat.le_refl _); have HV2 := Lib.hid hv2; clear hv2; have HV3 := Lib.hid hv3; clear hv3; have HQ2 := Lib.hid hq2; clear hq2) | (go_at_call 99; refine (multiply_any _ _ _ _ _ HV3.out HV2.out HLA.out HLB.out).mono ?_; rintro e w3 ⟨hq3, v3, rfl, hv4⟩; have tk := C0.out.keep hq3; have s0 := tk.cell (j := 0) rfl; have s1 := tk.cell (j := 1) rfl; have D0 := Lib.hid tk; clear tk; have tk := C1.out.keep hq3; have t0 := tk.cell (j := 0) rfl; have t1 := tk.cell (j := 1) rfl; have D1 := Lib.hid tk; clear tk; have tk := C2.out.keep hq3; have u0 := tk.cell (j := 0) rfl; have u1 := tk.cell (j := 1) rfl; have D2 := Lib.hid tk; clear tk; have HV4 := Lib.hid hv4; clear hv4; have HQ3 := Lib.hid hq3; clear hq3) | (go_at_call 56; refine (number_any _ _ _ _ HV4.out (dg_lt _) HLEN.out).mono ?_; rintro e w5 ⟨hq5, rfl⟩; have tk := D0.out.keep hq5; have a0 := tk.cell (j := 0) rfl; have a1 := tk.cell (j := 1) rfl; have E0 := Lib.hid tk; clear tk; have tk := D1.out.keep hq5; have b0 := tk.cell (j := 0) rfl; have b1 := tk.cell (j := 1) rfl; have E1 := Lib.hid tk; clear tk; have tk := D2.out.keep hq5; have c0 := tk.cell (j := 0) rfl; have c1 := tk.cell (j := 1) rfl; have E2 := Lib.hid tk; clear tk; have fE2 := E2.out.frozen 0; have gE2 := E2.out.frozen 1; have HQ5 := Lib.hid hq5; clear hq5))
  go_wp2
  refine bodyPost_ret (v := IntV (sgn (!na == nb) (val (dg (bval sa.data.toList * bval sb.data.toList))))) (by simp [results, Tryz.results66, go_sem, c0, c1]) rfl ⟨?_, ?_⟩
  · have s0 := ((((Below.refl w.heap.size w).alloc (Nat.le_refl _) (.cells #[.bool na, .string sa] 33)).alloc (by simp) (.cells #[.bool nb, .string sb] 33)).alloc (by simp <;> omega) (.cells #[.bool false, .string ⟨#[]⟩] 33)).drew
    have s1 := s0.trans (HQ1.out.mono s0.size)
    have s2 := s1.trans (HQ2.out.mono s1.size)
    have s3 := s2.trans (HQ3.out.mono s2.size)
    have s5 := s3.trans (HQ5.out.mono s3.size)
    exact (s5.setCell (p := ⟨w.heap.size + 2, 0, none⟩) (Nat.le_add_right _ _) _).setCell (p := ⟨w.heap.size + 2, 1, none⟩) (Nat.le_add_right _ _) _
  · rw [val_dg, show (!na == nb) = (na != nb) from by cases na <;> cases nb <;> rfl, HMI.out]; rfl
/-- integer.Mul, of canonical integers. -/
theorem imulV (x y : Int) (w : World) (hx : (imag x).size ≤ 400000000000) (hy : (imag y).size ≤ 400000000000) :
    Calls Tryz.prog 66 #[IntV x, IntV y] w (Ret w (IntV (x * y))) := by
  have h := imul_any (ineg x) (ineg y) (imag x) (imag y) w hx hy
  rwa [ival_canon, ival_canon] at h
end Go.Proofs.YtalipfnbpnkgnaaGreat

/- integer.length, power, Power. -/
namespace Go.Proofs.YtalipfnbpnkgnaaGreat
open Go.RowKit

theorem bit_i64 (v : Int) (h0 : 0 ≤ v) (h1 : v ≤ 9223372036854775807) : bits BinOp.and IntKind.i64 v 1 = v % 2 := by
  obtain ⟨n, rfl⟩ : ∃ n : Nat, v = n := ⟨v.toNat, by omega⟩
  show IntKind.i64.wrap ((BitVec.ofInt 64 (n : Int) &&& BitVec.ofInt 64 1).toNat : Int) = _
  rw [BitVec.toNat_and]
  have e1 : (BitVec.ofInt 64 (n : Int)).toNat = n := by simp; omega
  have e2 : (BitVec.ofInt 64 1).toNat = 1 := by decide
  rw [e1, e2, Nat.and_one_is_mod]
  simp [IntKind.wrap, IntKind.bits, IntKind.signed]; omega
/-- The bits of a number. -/
def lenB (x : Nat) : Int := if x = 0 then 0 else 32 * (((dg x).length : Int) - 1) + (Lib.bitLen (dig x ((dg x).length - 1)) : Int)
set_option maxRecDepth 100000 in
set_option maxHeartbeats 1600000 in
/-- integer.length. -/
theorem length_any (x : Nat) (vx : Value) (w : World) (hx : Row w vx (dg x).length (cs32 (dg x))) (hb : (dg x).length ≤ 100000000000) :
    Calls Tryz.prog 97 #[vx] w (Ret w (.int .i64 (lenB x))) := by
  obtain ⟨ax, cx, rfl, hlx⟩ := hx.slice
  obtain ⟨m, hm⟩ : ∃ m, m = (dg x).length := ⟨_, rfl⟩
  rw [← hm] at hx hlx hb ⊢
  by_cases hm0 : m = 0
  · subst hm0
    have hz : lenB x = 0 := by rw [lenB, if_pos (dg_nil (List.length_eq_zero_iff.1 hm.symm))]
    have HZ := Lib.hid hz; clear hz
    clear hm hx
    go_enter Tryz.func97, Tryz.ntmps97
    go_wp2_with fail
    go_ret
    exact ⟨Below.refl _ _, by rw [HZ.out]; rfl⟩
  · have hmb : ((m : Int) == 0) = false := by simp; omega
    have hx0 : ¬ x = 0 := fun e => hm0 (by rw [hm, e, dg_zero]; rfl)
    have hz : lenB x = 32 * ((m : Int) - 1) + (Lib.bitLen (dig x (m - 1)) : Int) := by rw [lenB, if_neg hx0, ← hm]
    have HZ := Lib.hid hz; clear hz
    obtain ⟨k, rfl⟩ : ∃ k, m = k + 1 := ⟨m - 1, by omega⟩
    obtain ⟨bx, ox, rfl, hbx, hcx⟩ := hx.at_ (by omega)
    have c1 := hcx k _ (cs32_get (dg_get x k (by rw [← hm]; omega)))
    obtain ⟨d, hd⟩ : ∃ d, d = dig x k := ⟨_, rfl⟩
    have hd32 : d < 4294967296 := by rw [hd]; exact dig_lt _ _
    rw [← hd] at c1
    have hbl := fun w' => Tryz.bits_Len32 (d : Int) w' (by omega) (by omega)
    rw [Int.toNat_natCast] at hbl
    obtain ⟨q, hq⟩ : ∃ q, q = Lib.bitLen d := ⟨_, rfl⟩
    have hq32 : q ≤ 32 := by
      rw [hq]
      exact Lib.bitLen_le d 32 (by omega) (by omega)
    rw [← hq] at hbl
    have HBL := Lib.hid hbl; clear hbl
    have HD := Lib.hid hd; clear hd
    have HQ := Lib.hid hq; clear hq
    have HM := Lib.hid hm; clear hm
    clear hx hcx hmb hx0 hm0 hbx
    have hki : (((k + 1 : Nat) : Int) == 0) = false := by simp; omega
    have hk1 : ((k + 1 : Nat) : Int) - 1 = (k : Int) := by omega
    go_enter Tryz.func97, Tryz.ntmps97
    go_wp2_with (go_at_call 125; refine (HBL.out _).mono ?_; rintro e w' ⟨rfl, rfl⟩)
    go_ret
    exact ⟨Below.refl _ _, by rw [HZ.out, Nat.add_sub_cancel, ← HD.out, ← HQ.out]; exact ret_int (by omega)⟩
theorem lt_bitAux : ∀ (f x : Nat), x < 2 ^ f → x < 2 ^ Lib.bitLenAux f x
  | 0, x, h => by simpa [Lib.bitLenAux] using h
  | f + 1, x, h => by
    rw [Lib.bitLenAux]
    split
    · rename_i e; rw [e]; decide
    · have h1 := lt_bitAux f (x / 2) (by rw [Nat.pow_succ] at h; omega)
      rw [Nat.add_comm, Nat.pow_succ]; omega
/-- The bits of n from the place j on. -/
theorem shr_step (n j : Nat) : n / 2 ^ j = 2 * (n / 2 ^ (j + 1)) + n / 2 ^ j % 2 := by
  rw [Nat.pow_succ, ← Nat.div_div_eq_div_mul]; omega
theorem pow_sq (x e : Nat) : x ^ e * x ^ e = x ^ (2 * e) := by rw [← Nat.pow_add]; congr 1; omega
set_option maxRecDepth 100000 in
set_option maxHeartbeats 1600000 in
/-- integer.power. -/
theorem power_any (x n : Nat) (vx : Value) (w : World) (hx : Row w vx (dg x).length (cs32 (dg x))) (hb : (dg x).length ≤ 100000000) (hn : n ≤ 1000000) (hsz : ∀ e, e ≤ n → (dg (x ^ e)).length ≤ 100000000) :
    Calls Tryz.prog 98 #[vx, .int .i64 (n : Int)] w (RetNat w (x ^ n)) := by
  have hbl := fun w' => Tryz.bits_Len (n : Int) w' (by omega) (by omega)
  rw [Int.toNat_natCast] at hbl
  obtain ⟨L, hL⟩ : ∃ L, L = Lib.bitLen n := ⟨_, rfl⟩
  have hL64 : L ≤ 20 := by rw [hL]; exact Lib.bitLen_le n 20 (by omega) (by omega)
  have hnL : n / 2 ^ L = 0 := by
    rw [hL]
    exact Nat.div_eq_of_lt (lt_bitAux 64 n (by omega))
  rw [← hL] at hbl
  have HBL := Lib.hid hbl; clear hbl
  have HNL := Lib.hid hnL; clear hnL
  have HX := Lib.hid hx; clear hx
  have HSZ := Lib.hid hsz; clear hsz
  clear hL
  have hconv : ((n : Int) : Int) = n := rfl
  clear hconv
  obtain ⟨ax, cx, rfl, hlx⟩ := HX.out.slice
  go_enter Tryz.func98, Tryz.ntmps98
  go_wp2_with fail
  go_wp2_with (go_at_call 123; refine (HBL.out _).mono ?_; rintro e w' ⟨rfl, rfl⟩)
  go_loopw [5, 6] (fun u i wr => ∃ (j : Nat) (z : Int), j ≤ L ∧ i = .int .i64 z ∧ z = (j : Int) - 1 ∧ Below w.heap.size w wr ∧ Row wr u (dg (x ^ (n / 2 ^ j))).length (cs32 (dg (x ^ (n / 2 ^ j))))) (fun _ i _ => (intOf i + 1).toNat)
  case atStart =>
    refine ⟨L, _, Nat.le_refl _, rfl, rfl, (Below.refl _ _).alloc (Nat.le_refl _) _, ?_⟩
    rw [HNL.out, Nat.pow_zero]
    have h := Row.ofBlk (Blk.new w 103 [.int .u32 1]) (m := 1) (cap := 1) (Nat.le_refl _) (by decide) 1
    have e1 : dg 1 = [1] := by rw [dg_pos (by decide), show 1 / 4294967296 = 0 from rfl, dg_zero]
    rw [e1]
    exact h
  case round =>
    obtain ⟨j, z, hj, rfl, hz, hbel, hrow⟩ := hrel
    obtain ⟨wo, rfl⟩ : ∃ wo : World, wo = wr := ⟨_, rfl⟩
    obtain ⟨au, cu, rfl, hlu⟩ := hrow.slice
    have HB := Lib.hid hbel; clear hbel
    cases j with
    | zero =>
      obtain rfl : z = -1 := by omega
      clear hz
      rw [Nat.pow_zero, Nat.div_one] at hrow ⊢
      have HR := Lib.hid hrow; clear hrow
      go_wp2_with fail
      go_ret
      exact ⟨HB.out, _, rfl, HR.out⟩
    | succ j =>
      obtain rfl : z = (j : Int) := by omega
      clear hz
      have hst := shr_step n j
      have hle : n / 2 ^ j ≤ n := Nat.div_le_self _ _
      have hle2 : n / 2 ^ (j + 1) ≤ n := Nat.div_le_self _ _
      have hdiv : (n : Int) / 2 ^ j = ((n / 2 ^ j : Nat) : Int) := by simp
      obtain ⟨P, hP⟩ : ∃ P, P = x ^ (n / 2 ^ (j + 1)) := ⟨_, rfl⟩
      have hPl : (dg P).length ≤ 100000000 := by rw [hP]; exact HSZ.out _ hle2
      rw [← hP] at hrow hlu ⊢
      obtain ⟨q, hq⟩ : ∃ q, q = n / 2 ^ j := ⟨_, rfl⟩
      have hq6 : q ≤ 1000000 := by rw [hq]; omega
      rw [← hq] at hst hdiv hle
      have hand := bit_i64 (q : Int) (by omega) (by omega)
      have hsq : P * P = x ^ (2 * (n / 2 ^ (j + 1))) := by rw [hP, pow_sq]
      have hPPl : (dg (P * P)).length ≤ 100000000 := by rw [hsq]; exact HSZ.out _ (by omega)
      have HPL := Lib.hid hPl; clear hPl
      have HPPL := Lib.hid hPPl; clear hPPl
      have HR := Lib.hid hrow; clear hrow
      by_cases hbit : q % 2 = 1
      · have hres : x ^ q = P * P * x := by rw [hsq, ← Nat.pow_succ]; congr 1; omega
        have hb2 : ((q : Int) % 2 == 1) = true := by simp; omega
        have HRES := Lib.hid hres; clear hres
        have HSQ := Lib.hid hsq; clear hsq
        have HP := Lib.hid hP; clear hP
        have HST := Lib.hid hst; clear hst
        have HQE := Lib.hid hq; clear hq
        clear hbit hle hle2
        go_wp2_with fail
        go_at_call 99
        refine (multiply_any P P _ _ _ HR.out HR.out (by have := HPL.out; omega) (by have := HPL.out; omega)).mono ?_
        rintro e w1 ⟨hq1, v1, rfl, hv1⟩
        obtain ⟨a1, c1, rfl, hl1⟩ := hv1.slice
        have HQ1 := Lib.hid hq1; clear hq1
        have HV1 := Lib.hid hv1; clear hv1
        go_wp2_with fail
        go_at_call 99
        refine (multiply_any (P * P) x _ _ _ HV1.out ((HX.out.below HB.out (Nat.le_refl _)).below HQ1.out (Nat.le_refl _)) (by have := HPPL.out; omega) (by omega)).mono ?_
        rintro e w2 ⟨hq2, v2, rfl, hv2⟩
        obtain ⟨a2, c2, rfl, hl2⟩ := hv2.slice
        have HQ2 := Lib.hid hq2; clear hq2
        have HV2 := Lib.hid hv2; clear hv2
        go_wp2_with fail
        go_roundw
        case rel =>
          have s1 := HB.out.trans (HQ1.out.mono HB.out.size)
          exact ⟨j, _, by omega, rfl, rfl, s1.trans (HQ2.out.mono s1.size), by rw [← HQE.out, HRES.out]; exact HV2.out⟩
        case measure => simp [intOf]
      · have hres : x ^ q = P * P := by rw [hsq]; congr 1; omega
        have hb2 : ((q : Int) % 2 == 1) = false := by simp; omega
        have HRES := Lib.hid hres; clear hres
        have HSQ := Lib.hid hsq; clear hsq
        have HP := Lib.hid hP; clear hP
        have HST := Lib.hid hst; clear hst
        have HQE := Lib.hid hq; clear hq
        clear hbit hle hle2
        go_wp2_with fail
        go_at_call 99
        refine (multiply_any P P _ _ _ HR.out HR.out (by have := HPL.out; omega) (by have := HPL.out; omega)).mono ?_
        rintro e w1 ⟨hq1, v1, rfl, hv1⟩
        obtain ⟨a1, c1, rfl, hl1⟩ := hv1.slice
        have HQ1 := Lib.hid hq1; clear hq1
        have HV1 := Lib.hid hv1; clear hv1
        go_wp2_with fail
        go_roundw
        case rel =>
          exact ⟨j, _, by omega, rfl, rfl, HB.out.trans (HQ1.out.mono HB.out.size), by rw [← HQE.out, HRES.out]; exact HV1.out⟩
        case measure => simp [intOf]
theorem imag_nat (x : Nat) : bval (imag (x : Int)).data.toList = x := by
  have h := ival_canon (x : Int)
  have h0 : ineg (x : Int) = false := by simp [ineg]
  rw [h0] at h
  unfold ival sgn at h
  simp at h
  omega
set_option maxRecDepth 100000 in
set_option maxHeartbeats 1600000 in
/-- integer.Power of a number that is not negative. -/
theorem ipower_any (x n : Nat) (w : World) (hx : (imag (x : Int)).size ≤ 100000000) (hn : n ≤ 4096) (hl : (n : Int) * lenB x ≤ 65536) (hl0 : 0 ≤ lenB x ∧ lenB x ≤ 10000000000) (hsz : ∀ e, e ≤ n → (dg (x ^ e)).length ≤ 100000000) :
    Calls Tryz.prog 65 #[IntV (x : Int), .int .i64 (n : Int)] w (Ret w (.tuple #[IntV ((x ^ n : Nat) : Int), .int .i64 0])) := by
  have h0 : ineg (x : Int) = false := by simp [ineg]
  obtain ⟨s, hs⟩ : ∃ s, s = imag (x : Int) := ⟨_, rfl⟩
  have hbv : bval s.data.toList = x := by rw [hs]; exact imag_nat x
  rw [show IntV (x : Int) = .agg #[.bool false, .string s] by rw [hs]; unfold IntV; rw [h0]]
  rw [← hs] at hx
  have hdig := fun w' => digits_any false s w' (by omega)
  rw [hbv] at hdig
  have hdl : (dg x).length ≤ 100000000 := by rw [← hbv]; exact dg_sized (by omega)
  have hdl2 := hsz n (Nat.le_refl _)
  obtain ⟨l, hlq⟩ : ∃ l, l = lenB x := ⟨_, rfl⟩
  have hlen := fun vx w' h => length_any x vx w' h (by omega)
  rw [← hlq] at hl hl0 hlen
  obtain ⟨hl1, hl2⟩ := hl0
  have hnl : decide ((65536 : Int) < (n : Int) * l) = false := by simp; omega
  have hnl1 : 0 ≤ (n : Int) * l := Int.mul_nonneg (by omega) hl1
  have hn1 : decide ((4096 : Int) < (n : Int)) = false := by simp; omega
  have hB0 := (Blk.new w 33 [.bool false, .string s]).alloc (.cells #[.bool false, .string ⟨#[]⟩] 33)
  have hB1 := Blk.new (w.alloc (.cells #[.bool false, .string s] 33)) 33 [.bool false, .string ⟨#[]⟩]
  simp only [World.size_alloc] at hB1
  have HB0 := Lib.hid hB0; clear hB0
  have HB1 := Lib.hid hB1; clear hB1
  have HDIG := Lib.hid hdig; clear hdig
  have HLEN := Lib.hid hlen; clear hlen
  have HBV := Lib.hid hbv; clear hbv
  have HSZ := Lib.hid hsz; clear hsz
  have HLQ := Lib.hid hlq; clear hlq
  have HDL := Lib.hid hdl; clear hdl
  have HDL2 := Lib.hid hdl2; clear hdl2
  clear hs h0
  go_enter Tryz.func65, Tryz.ntmps65
  go_wp2_with fail
  go_at_call 81
  refine (HDIG.out _).mono ?_
  rintro e w1 ⟨hq1, v1, rfl, hv1⟩
  obtain ⟨a1, c1, rfl, -⟩ := hv1.slice
  have tk := HB0.out.keep hq1; have x0 := tk.cell (j := 0) rfl; have x1 := tk.cell (j := 1) rfl; have A0 := Lib.hid tk; clear tk
  have tk := HB1.out.keep hq1; have y0 := tk.cell (j := 0) rfl; have y1 := tk.cell (j := 1) rfl; have A1 := Lib.hid tk; clear tk
  have HV1 := Lib.hid hv1; clear hv1
  have HQ1 := Lib.hid hq1; clear hq1
  go_wp2_with fail
  go_at_call 97
  refine (HLEN.out _ _ HV1.out).mono ?_
  rintro e w2 ⟨hq2, rfl⟩
  have tk := A0.out.keep hq2; have p0 := tk.cell (j := 0) rfl; have p1 := tk.cell (j := 1) rfl; have C0 := Lib.hid tk; clear tk
  have tk := A1.out.keep hq2; have q0 := tk.cell (j := 0) rfl; have q1 := tk.cell (j := 1) rfl; have C1 := Lib.hid tk; clear tk
  have hv2 := HV1.out.below hq2 (Nat.le_refl _)
  have HV2 := Lib.hid hv2; clear hv2
  have HQ2 := Lib.hid hq2; clear hq2
  go_wp2_with fail
  go_at_call 98
  refine (power_any x n _ _ HV2.out HDL.out (by omega) HSZ.out).mono ?_
  rintro e w3 ⟨hq3, v3, rfl, hv3⟩
  obtain ⟨a3, c3, rfl, -⟩ := hv3.slice
  have tk := C0.out.keep hq3; have s0 := tk.cell (j := 0) rfl; have s1 := tk.cell (j := 1) rfl; have D0 := Lib.hid tk; clear tk
  have tk := C1.out.keep hq3; have t0 := tk.cell (j := 0) rfl; have t1 := tk.cell (j := 1) rfl; have D1 := Lib.hid tk; clear tk
  have HV3 := Lib.hid hv3; clear hv3
  have HQ3 := Lib.hid hq3; clear hq3
  go_wp2_with fail
  go_at_call 56
  refine (number_any _ _ _ _ HV3.out (dg_lt _) (by have := HDL2.out; omega)).mono ?_
  rintro e w4 ⟨hq4, rfl⟩
  have tk := D0.out.keep hq4; have a0 := tk.cell (j := 0) rfl; have a1 := tk.cell (j := 1) rfl; have E0 := Lib.hid tk; clear tk
  have tk := D1.out.keep hq4; have b0 := tk.cell (j := 0) rfl; have b1 := tk.cell (j := 1) rfl; have E1 := Lib.hid tk; clear tk
  have f0 := E1.out.frozen 0
  have f1 := E1.out.frozen 1
  have HQ4 := Lib.hid hq4; clear hq4
  go_wp2_with fail
  refine bodyPost_ret (v := .tuple #[IntV (sgn false (val (dg (x ^ n)))), .int .i64 0]) (by simp [results, Tryz.results65, go_sem, b0, b1]) rfl ⟨?_, ?_⟩
  · have s0 := ((Below.refl w.heap.size w).alloc (Nat.le_refl _) (.cells #[.bool false, .string s] 33)).alloc (by simp) (.cells #[.bool false, .string ⟨#[]⟩] 33)
    have s1 := s0.trans (HQ1.out.mono s0.size)
    have s2 := s1.trans (HQ2.out.mono s1.size)
    have s3 := s2.trans (HQ3.out.mono s2.size)
    have s4 := s3.trans (HQ4.out.mono s3.size)
    exact (s4.setCell (p := ⟨w.heap.size + 1, 0, none⟩) (Nat.le_add_right _ _) _).setCell (p := ⟨w.heap.size + 1, 1, none⟩) (Nat.le_add_right _ _) _
  · rw [val_dg]; rfl
end Go.Proofs.YtalipfnbpnkgnaaGreat


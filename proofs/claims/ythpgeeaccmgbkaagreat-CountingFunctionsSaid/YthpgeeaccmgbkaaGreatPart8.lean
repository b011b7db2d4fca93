/- Contracts and plain laws of several functions, one after the other: Mul, MulI, Short, ShortN. -/
import Derived.Deep.RegionHeld3
import Derived.Test.YthpgeeaccmgbkaaGreatAddSub
import Derived.Test.YthpgeeaccmgbkaaGreatPart9
import Derived.Test.YthpgeeaccmgbkaaGreatPart14
import Derived.Test.YthpgeeaccmgbkaaGreatPart5
/- integer.multiply: on digits it multiplies numbers; nothing that was there is changed. -/
namespace Go.Proofs.YthpgeeaccmgbkaaGreat
open Go.RowKit

theorem retnat_zero (w w' : World) (h : Below w.heap.size w w') : RetNat w 0 (.returned (.slice none 0 0)) w' := ⟨h, _, rfl, by rw [dg_zero]; exact Row.nil _⟩
theorem cs32_set (l : List Nat) (i d : Nat) : (cs32 l).set i (.int .u32 (d : Int)) = cs32 (l.set i d) := by simp [cs32, List.map_set]
set_option maxRecDepth 100000 in
set_option maxHeartbeats 1600000 in
/-- integer.multiply. -/
theorem multiply_any (x y : Nat) (vx vy : Value) (w : World) (hx : Row w vx (dg x).length (cs32 (dg x))) (hy : Row w vy (dg y).length (cs32 (dg y)))
    (hb1 : (dg x).length ≤ 100000000000) (hb2 : (dg y).length ≤ 100000000000) :
    Calls Tryz.prog 85 #[vx, vy] w (RetNat w (x * y)) := by
  obtain ⟨ax, cx, rfl, hlx⟩ := hx.slice
  obtain ⟨ay, cy, rfl, hly⟩ := hy.slice
  obtain ⟨m, hm⟩ : ∃ m, m = (dg x).length := ⟨_, rfl⟩
  obtain ⟨n, hn⟩ : ∃ n, n = (dg y).length := ⟨_, rfl⟩
  rw [← hm] at hx hlx hb1 ⊢
  rw [← hn] at hy hly hb2 ⊢
  by_cases hm0 : m = 0
  · subst hm0
    have hz : x * y = 0 := by rw [dg_nil (List.length_eq_zero_iff.1 hm.symm), Nat.zero_mul]
    rw [hz]
    clear hm hn hx hy hz
    go_enter Tryz.func85, Tryz.ntmps85
    go_wp2_with fail
    go_ret
    exact retnat_zero _ _ (Below.refl _ _)
  · have hmb : ((m : Int) == 0) = false := by simp; omega
    by_cases hn0 : n = 0
    · subst hn0
      have hz : x * y = 0 := by rw [dg_nil (List.length_eq_zero_iff.1 hn.symm), Nat.mul_zero]
      rw [hz]
      clear hm hn hx hy hz
      go_enter Tryz.func85, Tryz.ntmps85
      go_wp2_with fail
      go_ret
      exact retnat_zero _ _ (Below.refl _ _)
    · have hnb : ((n : Int) == 0) = false := by simp; omega
      have hmk := mk32 (m + n) (by omega) ((m : Int) + n) (by omega)
      have hly2 : y < 4294967296 ^ n := by rw [hn]; exact lt_pow_dg y
      have HLY := Lib.hid hly2; clear hly2
      have HM := Lib.hid hm; clear hm
      have HN := Lib.hid hn; clear hn
      have HX := Lib.hid hx; clear hx
      have HY := Lib.hid hy; clear hy
      clear hm0 hn0
      go_enter Tryz.func85, Tryz.ntmps85
      go_wp2_with fail
      clear hmk
      go_loopw [28] (fun i wr => ∃ k : Nat, k ≤ m ∧ i = .int .i64 k ∧ Below w.heap.size w wr ∧ Blk wr w.heap.size 88 (cs32 (Dn (m + n) ((x % 4294967296 ^ k) * y)))) (fun i _ => m - (intOf i).toNat)
      case atStart =>
        refine ⟨0, Nat.zero_le _, rfl, (Below.refl _ _).alloc (Nat.le_refl _) _, ?_⟩
        have h := Blk.zero w 88 (.int .u32 0) (m + n)
        rw [zrow_one _ _ rfl] at h
        simpa [Nat.mod_one, Dn_zero, cs32] using h
      case round =>
        obtain ⟨i, hi, rfl, hbel, hblk⟩ := hrel
        obtain ⟨wo, rfl⟩ : ∃ wo : World, wo = wr := ⟨_, rfl⟩
        have HB := Lib.hid hbel; clear hbel
        have HK := Lib.hid hblk; clear hblk
        by_cases hlt : i < m
        · obtain ⟨bx, ox, rfl, hbx, hcx⟩ := HX.out.at_ (by omega)
          have c1 := hcx i _ (cs32_get (dg_get x i (by rw [← HM.out]; omega)))
          rw [← HB.out.cell (p := ⟨bx, ox + i, none⟩) hbx] at c1
          clear hcx hbx
          obtain ⟨d, hd⟩ : ∃ d, d = dig x i := ⟨_, rfl⟩
          have hd32 : d < 4294967296 := by rw [hd]; exact dig_lt _ _
          rw [← hd] at c1
          have HD := Lib.hid hd; clear hd
          go_wp2_with fail
          go_loopw [8, 35] (fun c k wr => ∃ (j z : Nat), j ≤ n ∧ k = .int .i64 j ∧ c = .int .u64 (z : Int) ∧ z < 4294967296 ∧ Below w.heap.size w wr ∧ mulZ x y i j / 4294967296 ^ (i + j) = (x % 4294967296 ^ i) * y / 4294967296 ^ (i + j) + z ∧ Blk wr w.heap.size 88 (cs32 (mixD (m + n) (i + j) (mulZ x y i j) ((x % 4294967296 ^ i) * y)))) (fun _ k _ => n - (intOf k).toNat)
          case atStart =>
            refine ⟨0, 0, Nat.zero_le _, rfl, rfl, by decide, HB.out, by rw [mulZ_zero]; rfl, ?_⟩
            rw [mulZ_zero, mixD_same]; exact HK.out
          case round =>
            obtain ⟨j, z, hj, rfl, rfl, hz, hbel, hdv, hblk⟩ := hrel
            have HB2 := Lib.hid hbel; clear hbel
            by_cases hlt2 : j < n
            · obtain ⟨by_, oy, rfl, hby, hcy⟩ := HY.out.at_ (by omega)
              have c2 := hcy j _ (cs32_get (dg_get y j (by rw [← HN.out]; omega)))
              rw [← HB2.out.cell (p := ⟨by_, oy + j, none⟩) hby] at c2
              clear hcy hby
              obtain ⟨e, he⟩ : ∃ e, e = dig y j := ⟨_, rfl⟩
              have he32 : e < 4294967296 := by rw [he]; exact dig_lt _ _
              rw [← he] at c2
              have hcell := hblk.cell (cs32_get (mixD_get (j := i + j) (z := mulZ x y i j) (p := (x % 4294967296 ^ i) * y) (show i + j < m + n by omega)))
              rw [if_neg (by omega)] at hcell
              obtain ⟨q, hq⟩ : ∃ q, q = dig ((x % 4294967296 ^ i) * y) (i + j) := ⟨_, rfl⟩
              have hq32 : q < 4294967296 := by rw [hq]; exact dig_lt _ _
              rw [← hq] at hcell
              have hfz := hblk.frozen (i + j)
              have hst := mul_step (de := d * e) hdv
              rw [← hq] at hst
              have hsucc := mulZ_succ x y i j
              rw [← HD.out, ← he] at hsucc
              rw [← hsucc] at hst
              obtain ⟨f, hf⟩ : ∃ f, f = d * e := ⟨_, rfl⟩
              have hfi : (d : Int) * (e : Int) = (f : Int) := by rw [hf]; simp
              have hf64 : f ≤ 18446744065119617025 := by rw [hf]; exact de_lt hd32 he32
              rw [← hf] at hst
              have HST := Lib.hid hst; clear hst
              have HSU := Lib.hid hsucc; clear hsucc
              have HBK := Lib.hid hblk; clear hblk
              have HDV := Lib.hid hdv; clear hdv
              clear he hq hf
              go_wp2_with fail
              go_roundw
              case rel =>
                refine ⟨j + 1, (f + q + z) / 4294967296, by omega, by go_num, ?_, by omega, HB2.out.setCell (p := ⟨w.heap.size, i + j, none⟩) (Nat.le_refl _) _, by rw [← Nat.add_assoc i j 1]; exact HST.out.2.1, ?_⟩
                · first | rfl | (congr 1; omega)
                · rw [← Nat.add_assoc i j 1]
                  refine (HBK.out.set (i + j) _).congr ?_
                  rw [← mixD_set (z := mulZ x y i j) (by omega) HST.out.1 HST.out.2.2, ← cs32_set]
                  first | rfl | (congr 2; omega)
              case measure => simp [intOf]; omega
            · obtain rfl : j = n := by omega
              have hset := mul_last_set (m := m + j) (i := i) (n := j) (c := z) (by omega) HLY.out hdv hz
              have hcell := hblk.cell (cs32_get (mixD_get (j := i + j) (z := mulZ x y i j) (p := (x % 4294967296 ^ i) * y) (show i + j < m + j by omega)))
              have hfz := hblk.frozen (i + j)
              have hzm : (z : Int) % 4294967296 = z := by omega
              have HSET := Lib.hid hset; clear hset
              have HBK := Lib.hid hblk; clear hblk
              have HDV := Lib.hid hdv; clear hdv
              go_wp2_with fail
              go_roundw
              case rel =>
                refine ⟨i + 1, by omega, by go_num, HB2.out.setCell (p := ⟨w.heap.size, i + j, none⟩) (Nat.le_refl _) _, ?_⟩
                refine (HBK.out.set (i + j) _).congr ?_
                rw [← HSET.out, ← cs32_set]
              case measure => simp [intOf]; omega
        · obtain rfl : i = m := by omega
          have hmod : x % 4294967296 ^ i = x := Nat.mod_eq_of_lt (by rw [HM.out]; exact lt_pow_dg x)
          have hrow : Row wo (.slice (some ⟨w.heap.size, 0, none⟩) (i + n) (i + n)) (Dn (i + n) (x * y)).length (cs32 (Dn (i + n) (x * y))) := by
            have h := HK.out
            rw [hmod] at h
            have h2 := Row.ofBlk h (m := i + n) (cap := i + n) (Nat.le_refl _) (by unfold maxLen; omega) (i + n)
            rw [List.take_of_length_le (by simp [cs32, Dn_length])] at h2
            rw [Dn_length]; exact h2
          have HRW := Lib.hid hrow; clear hrow
          have HMOD := Lib.hid hmod; clear hmod
          go_wp2_with (go_at_call 105; refine (trim_any _ _ _ HRW.out).mono ?_; rintro e w' ⟨rfl, v', rfl, hv'⟩)
          go_ret
          refine ⟨HB.out, v', rfl, ?_⟩
          have hlt2 : x * y < 4294967296 ^ (i + n) := by
            rw [Nat.pow_add]
            exact Nat.mul_lt_mul'' (by rw [HM.out]; exact lt_pow_dg x) HLY.out
          rwa [tz_Dn hlt2] at hv'
end Go.Proofs.YthpgeeaccmgbkaaGreat

/- integer.Mul. -/
namespace Go.Proofs.YthpgeeaccmgbkaaGreat
open Go.RowKit

theorem sgn_mul (na nb : Bool) (x y : Nat) : sgn (na != nb) (x * y) = sgn na x * sgn nb y := by
  cases na <;> cases nb <;> simp [sgn, Int.neg_mul, Int.mul_neg]
theorem dg_sized {s : ByteArray} {m : Nat} (hs : s.size ≤ 4 * m) : (dg (bval s.data.toList)).length ≤ m := by
  refine dg_length_le ?_
  have h1 := bval_lt s.data.toList
  have h2 : 256 ^ s.data.toList.length ≤ 256 ^ (4 * m) := Nat.pow_le_pow_right (by decide) (by simpa using hs)
  have h3 : (256 : Nat) ^ (4 * m) = 4294967296 ^ m := by rw [Nat.pow_mul]
  omega
set_option maxRecDepth 100000 in
set_option maxHeartbeats 3200000 in
theorem imul_any (na nb : Bool) (sa sb : ByteArray) (w : World) (hs : sa.size ≤ 400000000000) (ht : sb.size ≤ 400000000000) :
    Calls Tryz.prog 45 #[.agg #[.bool na, .string sa], .agg #[.bool nb, .string sb]] w (Ret w (IntV (ival na sa * ival nb sb))) := by
  have hs' : sa.size ≤ 1099511627776 := by omega
  have ht' : sb.size ≤ 1099511627776 := by omega
  have hla : (dg (bval sa.data.toList)).length ≤ 100000000000 := dg_sized (by omega)
  have hlb : (dg (bval sb.data.toList)).length ≤ 100000000000 := dg_sized (by omega)
  have hlen : (dg (bval sa.data.toList * bval sb.data.toList)).length ≤ 274877906944 := by
    have := dg_mul_length (bval sa.data.toList) (bval sb.data.toList); omega
  have hw2 : ¬ (w.heap.size + 1 + 1 = w.heap.size) := by omega
  have hB0 := (((Blk.new w 28 [.bool na, .string sa]).alloc (.cells #[.bool nb, .string sb] 28)).alloc (.cells #[.bool false, .string ⟨#[]⟩] 28))
  have HB0 := Lib.hid hB0; clear hB0
  have hB1 := ((Blk.new (w.alloc (.cells #[.bool na, .string sa] 28)) 28 [.bool nb, .string sb]).alloc (.cells #[.bool false, .string ⟨#[]⟩] 28))
  simp only [World.size_alloc, Nat.add_assoc, Nat.reduceAdd] at hB1
  have HB1 := Lib.hid hB1; clear hB1
  have hB2 := (Blk.new ((w.alloc (.cells #[.bool na, .string sa] 28)).alloc (.cells #[.bool nb, .string sb] 28)) 28 [.bool false, .string ⟨#[]⟩])
  simp only [World.size_alloc, Nat.add_assoc, Nat.reduceAdd] at hB2
  have HB2 := Lib.hid hB2; clear hB2
  have hmi := sgn_mul na nb (bval sa.data.toList) (bval sb.data.toList)
  have HMI := Lib.hid hmi; clear hmi
  have HLA := Lib.hid hla; clear hla
  have HLB := Lib.hid hlb; clear hlb
  have HLEN := Lib.hid hlen; clear hlen
  go_enter Tryz.func45, Tryz.ntmps45
  go_wp2_with fail
  go_region_held3 (fun w' => w'.cell? ⟨w.heap.size, 0, none⟩ = some (.bool na) ∧ w'.cell? ⟨w.heap.size, 1, none⟩ = some (.string sa) ∧ w'.cell? ⟨w.heap.size + 1, 0, none⟩ = some (.bool nb) ∧ w'.cell? ⟨w.heap.size + 1, 1, none⟩ = some (.string sb)) (go_keep) (first | (go_at_call_of 81 (Value.agg #[.bool na, .string sa]); refine (digits_any na sa _ hs').mono ?_; rintro e w1 ⟨hq1, v1, rfl, hv1⟩; have tk := HB0.out.drew.keep hq1; have x0 := tk.cell (j := 0) rfl; have x1 := tk.cell (j := 1) rfl; have A0 := Lib.hid tk; clear tk; have tk := HB1.out.drew.keep hq1; have y0 := tk.cell (j := 0) rfl; have y1 := tk.cell (j := 1) rfl; have A1 := Lib.hid tk; clear tk; have tk := HB2.out.drew.keep hq1; have z0 := tk.cell (j := 0) rfl; have z1 := tk.cell (j := 1) rfl; have A2 := Lib.hid tk; clear tk; have HV1 := Lib.hid hv1; clear hv1; have HQ1 := Lib.hid hq1; clear hq1) | (go_at_call_of 81 (Value.agg #[.bool nb, .string sb]); refine (digits_any nb sb _ ht').mono ?_; rintro e w2 ⟨hq2, v2, rfl, hv2⟩; have tk := A0.out.keep hq2; have p0 := tk.cell (j := 0) rfl; have p1 := tk.cell (j := 1) rfl; have C0 := Lib.hid tk; clear tk; have tk := A1.out.keep hq2; have q0 := tk.cell (j := 0) rfl; have q1 := tk.cell (j := 1) rfl; have C1 := Lib.hid tk; clear tk; have tk := A2.out.keep hq2; have r0 := tk.cell (j := 0) rfl; have r1 := tk.cell (j := 1) rfl; have C2 := Lib.hid tk; clear tk; have hv3 := HV1.out.below hq2 (Nat.le_refl _); have HV2 := Lib.hid hv2; clear hv2; have HV3 := Lib.hid hv3; clear hv3; have HQ2 := Lib.hid hq2; clear hq2) | (go_at_call 85; refine (multiply_any _ _ _ _ _ HV3.out HV2.out HLA.out HLB.out).mono ?_; rintro e w3 ⟨hq3, v3, rfl, hv4⟩; have tk := C0.out.keep hq3; have s0 := tk.cell (j := 0) rfl; have s1 := tk.cell (j := 1) rfl; have D0 := Lib.hid tk; clear tk; have tk := C1.out.keep hq3; have t0 := tk.cell (j := 0) rfl; have t1 := tk.cell (j := 1) rfl; have D1 := Lib.hid tk; clear tk; have tk := C2.out.keep hq3; have u0 := tk.cell (j := 0) rfl; have u1 := tk.cell (j := 1) rfl; have D2 := Lib.hid tk; clear tk; have HV4 := Lib.hid hv4; clear hv4; have HQ3 := Lib.hid hq3; clear hq3) | (go_at_call 67; refine (number_any _ _ _ _ HV4.out (dg_lt _) HLEN.out).mono ?_; rintro e w5 ⟨hq5, rfl⟩; have tk := D0.out.keep hq5; have a0 := tk.cell (j := 0) rfl; have a1 := tk.cell (j := 1) rfl; have E0 := Lib.hid tk; clear tk; have tk := D1.out.keep hq5; have b0 := tk.cell (j := 0) rfl; have b1 := tk.cell (j := 1) rfl; have E1 := Lib.hid tk; clear tk; have tk := D2.out.keep hq5; have c0 := tk.cell (j := 0) rfl; have c1 := tk.cell (j := 1) rfl; have E2 := Lib.hid tk; clear tk; have fE2 := E2.out.frozen 0; have gE2 := E2.out.frozen 1; have HQ5 := Lib.hid hq5; clear hq5))
  go_wp2
  refine bodyPost_ret (v := IntV (sgn (!na == nb) (val (dg (bval sa.data.toList * bval sb.data.toList))))) (by simp [results, Tryz.results45, go_sem, c0, c1]) rfl ⟨?_, ?_⟩
  · have s0 := ((((Below.refl w.heap.size w).alloc (Nat.le_refl _) (.cells #[.bool na, .string sa] 28)).alloc (by simp) (.cells #[.bool nb, .string sb] 28)).alloc (by simp <;> omega) (.cells #[.bool false, .string ⟨#[]⟩] 28)).drew
    have s1 := s0.trans (HQ1.out.mono s0.size)
    have s2 := s1.trans (HQ2.out.mono s1.size)
    have s3 := s2.trans (HQ3.out.mono s2.size)
    have s5 := s3.trans (HQ5.out.mono s3.size)
    exact (s5.setCell (p := ⟨w.heap.size + 2, 0, none⟩) (Nat.le_add_right _ _) _).setCell (p := ⟨w.heap.size + 2, 1, none⟩) (Nat.le_add_right _ _) _
  · rw [val_dg, show (!na == nb) = (na != nb) from by cases na <;> cases nb <;> rfl, HMI.out]; rfl
/-- integer.Mul, of canonical integers. -/
theorem imulV (x y : Int) (w : World) (hx : (imag x).size ≤ 400000000000) (hy : (imag y).size ≤ 400000000000) :
    Calls Tryz.prog 45 #[IntV x, IntV y] w (Ret w (IntV (x * y))) := by
  have h := imul_any (ineg x) (ineg y) (imag x) (imag y) w hx hy
  rwa [ival_canon, ival_canon] at h
end Go.Proofs.YthpgeeaccmgbkaaGreat

/- integer.short at numbers of one digit. -/
namespace Go.Proofs.YthpgeeaccmgbkaaGreat
open Go.RowKit

def ShortRet (q r : Nat) (w : World) (e : Ending) (w' : World) : Prop := Below w.heap.size w w' ∧ ∃ v, e = .returned (.tuple #[v, .int .u32 (r : Int)]) ∧ Row w' v (dg q).length (cs32 (dg q))
theorem or_zero_u64 {X : Nat} (h : X < 18446744073709551616) : bits BinOp.or IntKind.u64 0 (X : Int) = (X : Int) := by
  show IntKind.u64.wrap ((BitVec.ofInt 64 0 ||| BitVec.ofInt 64 (X : Int)).toNat : Int) = _
  have e0 : BitVec.ofInt 64 0 = 0#64 := by decide
  have e1 : (BitVec.ofInt 64 (X : Int)).toNat = X := by
    rw [BitVec.toNat_ofInt]; omega
  rw [e0, BitVec.zero_or, e1, IntKind.wrap_u64]
  omega
set_option maxRecDepth 100000 in
set_option maxHeartbeats 3200000 in
theorem short_one (X D : Nat) (vx : Value) (w : World) (hr : Row w vx 1 (cs32 [X])) (hX : X < 4294967296) (hD0 : 0 < D) (hD : D < 4294967296) :
    Calls Tryz.prog 112 #[vx, .int .u32 (D : Int)] w (ShortRet (X / D) (X % D) w) := by
  obtain ⟨Q, hQ⟩ : ∃ Q, Q = X / D := ⟨_, rfl⟩
  obtain ⟨Rr, hRr⟩ : ∃ Rr, Rr = X % D := ⟨_, rfl⟩
  have hQX : Q ≤ X := by rw [hQ]; exact Nat.div_le_self _ _
  have hRD : Rr < D := by rw [hRr]; exact Nat.mod_lt _ hD0
  have hwD : IntKind.u64.wrap (D : Int) = (D : Int) := by rw [IntKind.wrap_u64]; omega
  have hwq : IntKind.u64.wrap ((X : Int) / (D : Int)) = (Q : Int) := by
    rw [show (X : Int) / (D : Int) = ((X / D : Nat) : Int) from (Int.natCast_ediv X D).symm, ← hQ, IntKind.wrap_u64]; omega
  have hwr : Int.tmod (X : Int) (D : Int) = (Rr : Int) := by
    rw [Int.tmod_eq_emod_of_nonneg (by omega), ← Int.natCast_emod X D, ← hRr]
  have hwq2 : IntKind.u32.wrap (Q : Int) = (Q : Int) := by rw [IntKind.wrap_u32]; omega
  have hwr2 : IntKind.u32.wrap (Rr : Int) = (Rr : Int) := by rw [IntKind.wrap_u32]; omega
  have htz : tz [Q] = dg Q := by
    have h := tz_lt (l := [Q]) (fun d hd => by obtain rfl : d = Q := by simpa using hd
                                               omega)
    rw [← h]; simp [val]
  rw [← hQ, ← hRr]
  have HTZ := Lib.hid htz; clear htz
  clear hQ hRr
  obtain ⟨va, vc, rfl, hle⟩ := hr.slice
  obtain ⟨b, off, rfl, hbw, hce⟩ := hr.at_ (by omega)
  have c0 := hce 0 _ (cs32_get (d := X) (i := 0) rfl)
  rw [Nat.add_zero] at c0
  have hmk := mk32 1 (by omega) 1 rfl
  go_enter Tryz.func112, Tryz.ntmps112
  go_wp2_with fail
  clear hmk
  go_loopw [7, 8] (fun u i wr => ∃ (z : Int) (r q : Nat), i = .int .i64 z ∧ u = .int .u64 (r : Int) ∧ ((z = 0 ∧ r = 0 ∧ q = 0) ∨ (z = -1 ∧ r = Rr ∧ q = Q)) ∧ Below w.heap.size w wr ∧ Blk wr w.heap.size 88 (cs32 [q])) (fun _ i _ => (intOf i + 1).toNat)
  case atStart =>
    refine ⟨0, 0, 0, rfl, rfl, .inl ⟨rfl, rfl, rfl⟩, (Below.refl _ _).alloc (Nat.le_refl _) _, ?_⟩
    exact Blk.new w 88 [.int .u32 0]
  case round =>
    obtain ⟨z, r, q, rfl, rfl, hcase, hbel, hblk⟩ := hrel
    rcases hcase with ⟨rfl, rfl, rfl⟩ | ⟨rfl, rfl, rfl⟩
    · have c1 := (hbel.cell (p := ⟨b, off, none⟩) hbw).trans c0
      have n0 := hblk.cell (j := 0) rfl
      have f0 := hblk.frozen 0
      have hblt := hblk.lt
      have hor := or_zero_u64 (X := X) (by omega)
      have hDn : ¬ D = 0 := by omega
      have hDn2 : ¬ (D : Int) = 0 := by omega
      have HB := Lib.hid hbel; clear hbel
      have HBLK := Lib.hid hblk; clear hblk
      go_wp2_with fail
      refine wp_region_held_drew (S := fun _ => True) (by kernel_rfl) trivial (fun hHeld => ?_)
      refine zT 0 (h := ?_)
      (try simp only [Act.put, zA, zB, zC])
      refine zT 1 (h := ?_)
      (try simp only [Act.put, zA, zB, zC])
      refine zT 2 (h := ?_)
      (try simp only [Act.put, zA, zB, zC])
      refine zT 3 (h := ?_)
      (try simp only [Act.put, zA, zB, zC])
      refine zT 4 (h := ?_)
      (try simp only [Act.put, zA, zB, zC])
      refine zT 5 (h := ?_)
      (try simp only [Act.put, zA, zB, zC])
      refine zT 6 (h := ?_)
      (try simp only [Act.put, zA, zB, zC])
      refine zT 7 (h := ?_)
      (try simp only [Act.put, zA, zB, zC])
      refine zT 8 (h := ?_)
      (try simp only [Act.put, zA, zB, zC])
      refine zT 9 (h := ?_)
      (try simp only [Act.put, zA, zB, zC])
      refine zT 10 (h := ?_)
      (try simp only [Act.put, zA, zB, zC])
      refine zT 11 (h := ?_)
      (try simp only [Act.put, zA, zB, zC])
      refine zR 12 (h := fun K hK => ?_)
      go_simp
      refine hK.out _ _ ?_ (fun hHeld => ?_)
      · ((try dsimp only); skip)
      clear hK K
      (try simp only [Act.put, zA, zB, zC])
      refine zT 13 (h := ?_)
      (try simp only [Act.put, zA, zB, zC])
      refine wpAnyH_done (by kernel_rfl) ?_ _
      go_wp2_with fail
      go_roundw
      case rel =>
        refine ⟨-1, _, _, rfl, rfl, .inr ⟨rfl, rfl, rfl⟩, (HB.out.setCell (p := ⟨w.heap.size, 0, none⟩) (Nat.le_refl _) _).drew, ?_⟩
        exact (HBLK.out.set 0 _).drew
      case measure => simp [intOf]
    · have hblk2 : Row wr (.slice (some ⟨w.heap.size, 0, none⟩) 1 1) 1 (cs32 [q]) := Row.ofBlk hblk (m := 1) (cap := 1) (Nat.le_refl _) (by decide) 1
      have htr := trim_any [q] _ wr hblk2
      have HTR := Lib.hid htr; clear htr
      have HB := Lib.hid hbel; clear hbel
      go_wp2_with fail
      go_at_call 105
      refine HTR.out.mono ?_
      rintro e w2 ⟨rfl, v', rfl, hv⟩
      rw [HTZ.out] at hv
      have HV := Lib.hid hv; clear hv
      go_wp2_with fail
      go_ret2
      exact ⟨HB.out, _, rfl, HV.out⟩
end Go.Proofs.YthpgeeaccmgbkaaGreat

/- integer.short at any number (division by one digit). -/
namespace Go.Proofs.YthpgeeaccmgbkaaGreat
open Go.RowKit

/-- Division by one digit: the quotient's digits, and the remainder. -/
def sd (D : Nat) : List Nat → List Nat × Nat
  | [] => ([], 0)
  | d :: t => (((sd D t).2 * 4294967296 + d) / D :: (sd D t).1, ((sd D t).2 * 4294967296 + d) % D)
theorem sd_length (D : Nat) (l : List Nat) : (sd D l).1.length = l.length := by
  induction l with
  | nil => rfl
  | cons d t ih => simp [sd, ih]
theorem sd_lt {D : Nat} (hD : 0 < D) (l : List Nat) : (sd D l).2 < D := by
  cases l with
  | nil => exact hD
  | cons d t => exact Nat.mod_lt _ hD
theorem sd_val {D : Nat} (hD : 0 < D) (l : List Nat) : val l = D * val (sd D l).1 + (sd D l).2 := by
  induction l with
  | nil => simp [sd, val]
  | cons d t ih =>
    have h := Nat.div_add_mod ((sd D t).2 * 4294967296 + d) D
    show d + 4294967296 * val t = D * (((sd D t).2 * 4294967296 + d) / D + 4294967296 * val (sd D t).1) + ((sd D t).2 * 4294967296 + d) % D
    rw [Nat.mul_add, Nat.mul_left_comm]
    have e : 4294967296 * val t = 4294967296 * (D * val (sd D t).1) + (sd D t).2 * 4294967296 := by omega
    omega
theorem sd_digit {D : Nat} (hD : 0 < D) (l : List Nat) (hl : ∀ d ∈ l, d < 4294967296) : ∀ d ∈ (sd D l).1, d < 4294967296 := by
  induction l with
  | nil => intro d hd; cases hd
  | cons x t ih =>
    intro d hd
    have hx := hl x (by simp)
    have hr := sd_lt hD t
    rcases List.mem_cons.1 hd with rfl | h
    · refine Nat.div_lt_of_lt_mul ?_
      have : (sd D t).2 + 1 ≤ D := hr
      have := Nat.mul_le_mul_right 4294967296 this
      rw [Nat.add_mul] at this
      omega
    · exact ih (fun y hy => hl y (by simp [hy])) d h
theorem sd_quo {D : Nat} (hD : 0 < D) (X : Nat) : tz (sd D (dg X)).1 = dg (X / D) ∧ (sd D (dg X)).2 = X % D := by
  have h := sd_val hD (dg X)
  have hr := sd_lt hD (dg X)
  rw [val_dg] at h
  have e : X / D = val (sd D (dg X)).1 ∧ X % D = (sd D (dg X)).2 := by
    rw [Nat.div_mod_unique hD]
    exact ⟨by omega, hr⟩
  exact ⟨by rw [e.1, tz_lt (sd_digit hD _ (dg_lt X))], e.2.symm⟩
theorem or_u64 {r d : Nat} (hr : r < 4294967296) (hd : d < 4294967296) : bits BinOp.or IntKind.u64 ((r * 4294967296 : Nat) : Int) (d : Int) = ((r * 4294967296 + d : Nat) : Int) := by
  show IntKind.u64.wrap ((BitVec.ofInt 64 ((r * 4294967296 : Nat) : Int) ||| BitVec.ofInt 64 (d : Int)).toNat : Int) = _
  have e0 : (BitVec.ofInt 64 ((r * 4294967296 : Nat) : Int)).toNat = r <<< 32 := by
    rw [BitVec.toNat_ofInt, Nat.shiftLeft_eq]; omega
  have e1 : (BitVec.ofInt 64 (d : Int)).toNat = d := by
    rw [BitVec.toNat_ofInt]; omega
  rw [BitVec.toNat_or, e0, e1, ← Nat.shiftLeft_add_eq_or_of_lt (by omega), Nat.shiftLeft_eq, IntKind.wrap_u64]
  omega
theorem rep_set (k x : Nat) (q : List Nat) : (List.replicate (k + 1) 0 ++ q).set k x = List.replicate k 0 ++ x :: q := by
  rw [List.replicate_succ', List.append_assoc, List.set_append, if_neg (by simp)]
  simp
set_option maxRecDepth 100000 in
set_option maxHeartbeats 3200000 in
theorem short_any (X D : Nat) (vx : Value) (w : World) (hr : Row w vx (dg X).length (cs32 (dg X))) (hX : 0 < X) (hlen : (dg X).length ≤ 100000000000) (hD0 : 0 < D) (hD : D < 4294967296) :
    Calls Tryz.prog 112 #[vx, .int .u32 (D : Int)] w (ShortRet (X / D) (X % D) w) := by
  obtain ⟨hq1, hq2⟩ := sd_quo hD0 X
  have hdl := dg_lt X
  obtain ⟨Q, hQ⟩ : ∃ Q, Q = X / D := ⟨_, rfl⟩
  obtain ⟨Rr, hRr⟩ : ∃ Rr, Rr = X % D := ⟨_, rfl⟩
  rw [← hQ] at hq1 ⊢
  rw [← hRr] at hq2 ⊢
  obtain ⟨ds, hds⟩ : ∃ ds, ds = dg X := ⟨_, rfl⟩
  rw [← hds] at hr hlen hdl hq1 hq2
  obtain ⟨n, hn⟩ : ∃ n, n = ds.length := ⟨_, rfl⟩
  have hn0 : 0 < n := by rw [hn, hds, dg_pos hX]; simp
  have hql : (sd D ds).1.length = n := by rw [sd_length, hn]
  have hget : ∀ k, k < n → ∃ d, ds[k]? = some d ∧ d < 4294967296 ∧ ds.drop k = d :: ds.drop (k + 1) := fun k hk => by
    have hk' : k < ds.length := by omega
    exact ⟨ds[k], List.getElem?_eq_getElem hk', hdl _ (List.getElem_mem _), List.drop_eq_getElem_cons hk'⟩
  have hdrop : ds.drop n = [] := by rw [hn]; simp
  rw [← hn] at hr hlen
  have hwD : IntKind.u64.wrap (D : Int) = (D : Int) := by rw [IntKind.wrap_u64]; omega
  have hDn : ¬ D = 0 := by omega
  have hDn2 : ¬ (D : Int) = 0 := by omega
  obtain ⟨va, vc, rfl, hle⟩ := hr.slice
  obtain ⟨b, off, rfl, hbw, hce⟩ := hr.at_ (by omega)
  have hmk := mk32 n (by omega) n rfl
  have HGET := Lib.hid hget; clear hget
  have HDROP := Lib.hid hdrop; clear hdrop
  have HCE := Lib.hid hce; clear hce
  have HQL := Lib.hid hql; clear hql
  have HN := Lib.hid hn; clear hn
  have HQ1 := Lib.hid hq1; clear hq1
  have HQ2 := Lib.hid hq2; clear hq2
  clear hds hX hQ hRr
  go_enter Tryz.func112, Tryz.ntmps112
  go_wp2_with fail
  clear hmk
  go_loopw [7, 8] (fun u i wr => ∃ k : Nat, k ≤ n ∧ i = .int .i64 ((k : Int) - 1) ∧ u = .int .u64 (((sd D (ds.drop k)).2 : Nat) : Int) ∧ Below w.heap.size w wr ∧ Blk wr w.heap.size 88 (cs32 (List.replicate k 0 ++ (sd D (ds.drop k)).1))) (fun _ i _ => (intOf i + 1).toNat)
  case atStart =>
    refine ⟨n, Nat.le_refl _, rfl, by rw [HDROP.out]; rfl, (Below.refl _ _).alloc (Nat.le_refl _) _, ?_⟩
    have h := Blk.zero w 88 (.int .u32 0) n
    rw [zrow_one _ _ rfl] at h
    rw [HDROP.out]
    simpa [sd, cs32] using h
  case round =>
    obtain ⟨k, hk, rfl, rfl, hbel, hblk⟩ := hrel
    obtain ⟨wo, rfl⟩ : ∃ wo : World, wo = wr := ⟨_, rfl⟩
    by_cases hk0 : k = 0
    · subst hk0
      rw [List.drop_zero, List.replicate_zero, List.nil_append] at hblk
      have hblk2 : Row wo (.slice (some ⟨w.heap.size, 0, none⟩) n n) (sd D ds).1.length (cs32 (sd D ds).1) := by
        
        have h := Row.ofBlk hblk (m := n) (cap := n) (Nat.le_refl _) (by unfold maxLen; omega) n
        rw [List.take_of_length_le (by rw [cs32_length, HQL.out]; exact Nat.le_refl n)] at h
        rw [HQL.out]; exact h
      have htr := trim_any (sd D ds).1 _ wo hblk2
      rw [List.drop_zero]
      obtain ⟨r, hr⟩ : ∃ r, r = (sd D ds).2 := ⟨_, rfl⟩
      have hrR : Rr = r := by rw [hr, HQ2.out]
      have hw2 : IntKind.u32.wrap (r : Int) = (r : Int) := by rw [IntKind.wrap_u32]; have := sd_lt hD0 ds; omega
      rw [← hr]
      have HTR := Lib.hid htr; clear htr
      have HB := Lib.hid hbel; clear hbel
      have HRR := Lib.hid hrR; clear hrR
      clear hblk hr hblk2
      go_wp2_with fail
      go_at_call 105
      refine HTR.out.mono ?_
      rintro e w2 ⟨rfl, v', rfl, hv⟩
      rw [HQ1.out] at hv
      have HV := Lib.hid hv; clear hv
      go_wp2_with fail
      go_ret2
      exact ⟨HB.out, _, by rw [HRR.out]; rfl, HV.out⟩
    · obtain ⟨j, rfl⟩ : ∃ j, k = j + 1 := ⟨k - 1, by omega⟩
      obtain ⟨d, hd1, hd2, hd3⟩ := HGET.out j (by omega)
      obtain ⟨r, hr⟩ : ∃ r, r = (sd D (ds.drop (j + 1))).2 := ⟨_, rfl⟩
      have hrD : r < D := by rw [hr]; exact sd_lt hD0 _
      obtain ⟨q, hq⟩ : ∃ q, q = (sd D (ds.drop (j + 1))).1 := ⟨_, rfl⟩
      obtain ⟨N, hN⟩ : ∃ N, N = r * 4294967296 + d := ⟨_, rfl⟩
      obtain ⟨Q1, hQ1⟩ : ∃ Q1, Q1 = N / D := ⟨_, rfl⟩
      obtain ⟨R1, hR1⟩ : ∃ R1, R1 = N % D := ⟨_, rfl⟩
      have hsd : sd D (ds.drop j) = (Q1 :: q, R1) := by rw [hd3, sd, ← hr, ← hN, ← hQ1, ← hR1, ← hq]
      have hQl : Q1 < 4294967296 := by
        rw [hQ1]
        refine Nat.div_lt_of_lt_mul ?_
        have := Nat.mul_le_mul_right 4294967296 (show r + 1 ≤ D from hrD)
        rw [Nat.add_mul] at this
        omega
      have hRl : R1 < D := by rw [hR1]; exact Nat.mod_lt _ hD0
      have hNl : N < 18446744073709551616 := by omega
      rw [← hr]
      rw [← hq] at hblk
      have c1 := (hbel.cell (p := ⟨b, off + j, none⟩) hbw).trans (HCE.out j _ (cs32_get hd1))
      have n0 := hblk.cell (j := j) (cs32_get (d := 0) (by rw [List.getElem?_append_left (by simp)]; simp))
      have f0 := hblk.frozen j
      have hblt := hblk.lt
      have hset := hblk.set j (.int .u32 (Q1 : Int))
      rw [cs32_set, rep_set] at hset
      have hor : bits BinOp.or IntKind.u64 ((r : Int) * 4294967296) (d : Int) = (N : Int) := by
        rw [show (r : Int) * 4294967296 = ((r * 4294967296 : Nat) : Int) by omega, or_u64 (by omega) hd2, hN]
      have hwd : IntKind.u64.wrap (d : Int) = (d : Int) := by rw [IntKind.wrap_u64]; omega
      have hwq : IntKind.u64.wrap ((N : Int) / (D : Int)) = (Q1 : Int) := by
        rw [show (N : Int) / (D : Int) = ((N / D : Nat) : Int) from (Int.natCast_ediv N D).symm, ← hQ1, IntKind.wrap_u64]; omega
      have hwr : Int.tmod (N : Int) (D : Int) = (R1 : Int) := by
        rw [Int.tmod_eq_emod_of_nonneg (by omega), ← Int.natCast_emod N D, ← hR1]
      have hwq2 : IntKind.u32.wrap (Q1 : Int) = (Q1 : Int) := by rw [IntKind.wrap_u32]; omega
      have hj1 : (((j + 1 : Nat) : Int) - 1) = (j : Int) := by omega
      have hix1 : (0 : Int) ≤ (j : Int) := by omega
      have hix2 : (j : Int) < (n : Int) := by omega
      rw [hj1]
      have HB := Lib.hid hbel; clear hbel
      have HSET := Lib.hid hset; clear hset
      have HSD := Lib.hid hsd; clear hsd
      clear hq hr hN hQ1 hR1 hblk hd1 hd2 hd3
      go_wp2_with fail
      refine wp_region_held_drew (S := fun _ => True) (by kernel_rfl) trivial (fun hHeld => ?_)
      refine zT 0 (h := ?_)
      (try simp only [Act.put, zA, zB, zC])
      refine zT 1 (h := ?_)
      (try simp only [Act.put, zA, zB, zC])
      refine zT 2 (h := ?_)
      (try simp only [Act.put, zA, zB, zC])
      refine zT 3 (h := ?_)
      (try simp only [Act.put, zA, zB, zC])
      refine zT 4 (h := ?_)
      (try simp only [Act.put, zA, zB, zC])
      refine zT 5 (h := ?_)
      (try simp only [Act.put, zA, zB, zC])
      refine zT 6 (h := ?_)
      (try simp only [Act.put, zA, zB, zC])
      refine zT 7 (h := ?_)
      (try simp only [Act.put, zA, zB, zC])
      refine zT 8 (h := ?_)
      (try simp only [Act.put, zA, zB, zC])
      refine zT 9 (h := ?_)
      (try simp only [Act.put, zA, zB, zC])
      refine zT 10 (h := ?_)
      (try simp only [Act.put, zA, zB, zC])
      refine zT 11 (h := ?_)
      (try simp only [Act.put, zA, zB, zC])
      refine zR 12 (h := fun K hK => ?_)
      go_simp
      refine hK.out _ _ ?_ (fun hHeld => ?_)
      · ((try dsimp only); skip)
      clear hK K
      (try simp only [Act.put, zA, zB, zC])
      refine zT 13 (h := ?_)
      (try simp only [Act.put, zA, zB, zC])
      refine wpAnyH_done (by kernel_rfl) ?_ _
      go_wp2_with fail
      go_roundw
      case rel =>
        refine ⟨j, by omega, rfl, by rw [HSD.out], (HB.out.setCell (p := ⟨w.heap.size, j, none⟩) (Nat.le_refl _) _).drew, ?_⟩
        rw [HSD.out]
        exact HSET.out.drew
      case measure => simp [intOf]
end Go.Proofs.YthpgeeaccmgbkaaGreat


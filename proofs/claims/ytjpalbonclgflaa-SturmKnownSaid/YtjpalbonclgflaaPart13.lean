/- Contracts and plain laws of several functions, one after the other: Mul, MulI. -/
import Derived.Test.YtjpalbonclgflaaAddSub
import Derived.Test.YtjpalbonclgflaaPart10
import Derived.Test.YtjpalbonclgflaaPart7
import Derived.Test.YtjpalbonclgflaaIntB
/- integer.multiply: on digits it multiplies numbers; nothing that was there is changed. -/
namespace Go.Proofs.Ytjpalbonclgflaa
open Go.RowKit

theorem retnat_zero (w w' : World) (h : Below w.heap.size w w') : RetNat w 0 (.returned (.slice none 0 0)) w' := ⟨h, _, rfl, by rw [dg_zero]; exact Row.nil _⟩
theorem cs32_set (l : List Nat) (i d : Nat) : (cs32 l).set i (.int .u32 (d : Int)) = cs32 (l.set i d) := by simp [cs32, List.map_set]
set_option maxRecDepth 100000 in
set_option maxHeartbeats 1600000 in
theorem multiply_any (x y : Nat) (vx vy : Value) (w : World) (hx : Row w vx (dg x).length (cs32 (dg x))) (hy : Row w vy (dg y).length (cs32 (dg y)))
  (hb1 : (dg x).length ≤ 100000000000) (hb2 : (dg y).length ≤ 100000000000) :
  Calls Try.prog 44 #[vx, vy] w (RetNat w (x * y)) := by
 obtain ⟨ax, cx, rfl, hlx⟩ := hx.slice
 obtain ⟨ay, cy, rfl, hly⟩ := hy.slice
 obtain ⟨m, hm⟩ : ∃ m, m = (dg x).length := ⟨_, rfl⟩
 obtain ⟨n, hn⟩ : ∃ n, n = (dg y).length := ⟨_, rfl⟩
 rw [← hm] at hx hlx hb1 ⊢
 rw [← hn] at hy hly hb2 ⊢
 by_cases hm0 : m = 0
 ·
  subst hm0
  have hz : x * y = 0 := by rw [dg_nil (List.length_eq_zero_iff.1 hm.symm), Nat.zero_mul]
  rw [hz]
  clear hm hn hx hy hz
  go_enter Try.func44, Try.ntmps44
  go_wp2_with fail
  go_ret
  exact retnat_zero _ _ (Below.refl _ _)
 ·
  have hmb : ((m : Int) == 0) = false := by simp; omega
  by_cases hn0 : n = 0
  ·
   subst hn0
   have hz : x * y = 0 := by rw [dg_nil (List.length_eq_zero_iff.1 hn.symm), Nat.mul_zero]
   rw [hz]
   clear hm hn hx hy hz
   go_enter Try.func44, Try.ntmps44
   go_wp2_with fail
   go_ret
   exact retnat_zero _ _ (Below.refl _ _)
  ·
   have hnb : ((n : Int) == 0) = false := by simp; omega
   have hmk := mk32 (m + n) (by omega) ((m : Int) + n) (by omega)
   have hly2 : y < 4294967296 ^ n := by rw [hn]; exact lt_pow_dg y
   have HLY := zh hly2; clear hly2
   have HM := zh hm; clear hm
   have HN := zh hn; clear hn
   have HX := zh hx; clear hx
   have HY := zh hy; clear hy
   clear hm0 hn0
   go_enter Try.func44, Try.ntmps44
   go_wp2_with fail
   clear hmk
   go_loopw [28] (fun i wr => ∃ k : Nat, k ≤ m ∧ i = .int .i64 k ∧ Below w.heap.size w wr ∧ Blk wr w.heap.size 75 (cs32 (Dn (m + n) ((x % 4294967296 ^ k) * y)))) (fun i _ => m - (intOf i).toNat)
   case atStart =>
    refine ⟨0, Nat.zero_le _, rfl, (Below.refl _ _).alloc (Nat.le_refl _) _, ?_⟩
    have h := Blk.zero w 75 (.int .u32 0) (m + n)
    rw [zrow_one _ _ rfl] at h
    simpa [Nat.mod_one, Dn_zero, cs32] using h
   case round =>
    obtain ⟨i, hi, rfl, hbel, hblk⟩ := hrel
    obtain ⟨wo, rfl⟩ : ∃ wo : World, wo = wr := ⟨_, rfl⟩
    have HB := zh hbel; clear hbel
    have HK := zh hblk; clear hblk
    by_cases hlt : i < m
    ·
     obtain ⟨bx, ox, rfl, hbx, hcx⟩ := HX.out.at_ (by omega)
     have c1 := hcx i _ (cs32_get (dg_get x i (by rw [← HM.out]; omega)))
     rw [← HB.out.cell (p := ⟨bx, ox + i, none⟩) hbx] at c1
     clear hcx hbx
     obtain ⟨d, hd⟩ : ∃ d, d = dig x i := ⟨_, rfl⟩
     have hd32 : d < 4294967296 := by rw [hd]; exact dig_lt _ _
     rw [← hd] at c1
     have HD := zh hd; clear hd
     go_wp2_with fail
     go_loopw [8, 35] (fun c k wr => ∃ (j z : Nat), j ≤ n ∧ k = .int .i64 j ∧ c = .int .u64 (z : Int) ∧ z < 4294967296 ∧ Below w.heap.size w wr ∧ mulZ x y i j / 4294967296 ^ (i + j) = (x % 4294967296 ^ i) * y / 4294967296 ^ (i + j) + z ∧ Blk wr w.heap.size 75 (cs32 (mixD (m + n) (i + j) (mulZ x y i j) ((x % 4294967296 ^ i) * y)))) (fun _ k _ => n - (intOf k).toNat)
     case atStart =>
      refine ⟨0, 0, Nat.zero_le _, rfl, rfl, by decide, HB.out, by rw [mulZ_zero]; rfl, ?_⟩
      rw [mulZ_zero, mixD_same]; exact HK.out
     case round =>
      obtain ⟨j, z, hj, rfl, rfl, hz, hbel, hdv, hblk⟩ := hrel
      have HB2 := zh hbel; clear hbel
      by_cases hlt2 : j < n
      ·
       obtain ⟨by_, oy, rfl, hby, hcy⟩ := HY.out.at_ (by omega)
       have c2 := hcy j _ (cs32_get (dg_get y j (by rw [← HN.out]; omega)))
       rw [← HB2.out.cell (p := ⟨by_, oy + j, none⟩) hby] at c2
       clear hcy hby
       obtain ⟨e, he⟩ : ∃ e, e = dig y j := ⟨_, rfl⟩
       have he32 : e < 4294967296 := by rw [he]; exact dig_lt _ _
       rw [← he] at c2
       have hcell := hblk.cell (cs32_get (mixD_get (j := i + j) (z := mulZ x y i j) (p := (x % 4294967296 ^ i) * y) (show i + j < m + n by omega)))
       rw [if_neg (by omega)] at hcell
       obtain ⟨q, hq⟩ : ∃ q, q = dig ((x % 4294967296 ^ i) * y) (i + j) := ⟨_, rfl⟩
       have hq32 : q < 4294967296 := by rw [hq]; exact dig_lt _ _
       rw [← hq] at hcell
       have hfz := hblk.frozen (i + j)
       have hst := mul_step (de := d * e) hdv
       rw [← hq] at hst
       have hsucc := mulZ_succ x y i j
       rw [← HD.out, ← he] at hsucc
       rw [← hsucc] at hst
       obtain ⟨f, hf⟩ : ∃ f, f = d * e := ⟨_, rfl⟩
       have hfi : (d : Int) * (e : Int) = (f : Int) := by rw [hf]; simp
       have hf64 : f ≤ 18446744065119617025 := by rw [hf]; exact de_lt hd32 he32
       rw [← hf] at hst
       have HST := zh hst; clear hst
       have HSU := zh hsucc; clear hsucc
       have HBK := zh hblk; clear hblk
       have HDV := zh hdv; clear hdv
       clear he hq hf
       go_wp2_with fail
       go_roundw
       case rel =>
        refine ⟨j + 1, (f + q + z) / 4294967296, by omega, by go_num, ?_, by omega, HB2.out.setCell (p := ⟨w.heap.size, i + j, none⟩) (Nat.le_refl _) _, by rw [← Nat.add_assoc i j 1]; exact HST.out.2.1, ?_⟩
        ·
         first | rfl | (congr 1; omega)
        ·
         rw [← Nat.add_assoc i j 1]
         refine (HBK.out.set (i + j) _).congr ?_
         rw [← mixD_set (z := mulZ x y i j) (by omega) HST.out.1 HST.out.2.2, ← cs32_set]
         first | rfl | (congr 2; omega)
       case measure => simp [intOf]; omega
      ·
       obtain rfl : j = n := by omega
       have hset := mul_last_set (m := m + j) (i := i) (n := j) (c := z) (by omega) HLY.out hdv hz
       have hcell := hblk.cell (cs32_get (mixD_get (j := i + j) (z := mulZ x y i j) (p := (x % 4294967296 ^ i) * y) (show i + j < m + j by omega)))
       have hfz := hblk.frozen (i + j)
       have hzm : (z : Int) % 4294967296 = z := by omega
       have HSET := zh hset; clear hset
       have HBK := zh hblk; clear hblk
       have HDV := zh hdv; clear hdv
       go_wp2_with fail
       go_roundw
       case rel =>
        refine ⟨i + 1, by omega, by go_num, HB2.out.setCell (p := ⟨w.heap.size, i + j, none⟩) (Nat.le_refl _) _, ?_⟩
        refine (HBK.out.set (i + j) _).congr ?_
        rw [← HSET.out, ← cs32_set]
       case measure => simp [intOf]; omega
    ·
     obtain rfl : i = m := by omega
     have hmod : x % 4294967296 ^ i = x := Nat.mod_eq_of_lt (by rw [HM.out]; exact lt_pow_dg x)
     have hrow : Row wo (.slice (some ⟨w.heap.size, 0, none⟩) (i + n) (i + n)) (Dn (i + n) (x * y)).length (cs32 (Dn (i + n) (x * y))) := by
      have h := HK.out
      rw [hmod] at h
      have h2 := Row.ofBlk h (m := i + n) (cap := i + n) (Nat.le_refl _) (by unfold maxLen; omega) (i + n)
      rw [List.take_of_length_le (by simp [cs32, Dn_length])] at h2
      rw [Dn_length]; exact h2
     have HRW := zh hrow; clear hrow
     have HMOD := zh hmod; clear hmod
     go_wp2_with (go_at_call 58; refine (trim_any _ _ _ HRW.out).mono ?_; rintro e w' ⟨rfl, v', rfl, hv'⟩)
     go_ret
     refine ⟨HB.out, v', rfl, ?_⟩
     have hlt2 : x * y < 4294967296 ^ (i + n) := by
      rw [Nat.pow_add]
      exact Nat.mul_lt_mul'' (by rw [HM.out]; exact lt_pow_dg x) HLY.out
     rwa [tz_Dn hlt2] at hv'
end Go.Proofs.Ytjpalbonclgflaa

/- integer.Mul. -/
namespace Go.Proofs.Ytjpalbonclgflaa
open Go.RowKit

theorem sgn_mul (na nb : Bool) (x y : Nat) : sgn (na != nb) (x * y) = sgn na x * sgn nb y := by
 cases na <;> cases nb <;> simp [sgn, Int.neg_mul, Int.mul_neg]
theorem dg_sized {s : ByteArray} {m : Nat} (hs : s.size ≤ 4 * m) : (dg (bval s.data.toList)).length ≤ m := by
 refine dg_length_le ?_
 have h1 := bval_lt s.data.toList
 have h2 : 256 ^ s.data.toList.length ≤ 256 ^ (4 * m) := Nat.pow_le_pow_right (by decide) (by simpa using hs)
 have h3 : (256 : Nat) ^ (4 * m) = 4294967296 ^ m := by rw [Nat.pow_mul]
 omega
set_option maxRecDepth 100000 in
set_option maxHeartbeats 3200000 in
theorem imul_any (na nb : Bool) (sa sb : ByteArray) (w : World) (hs : sa.size ≤ 400000000000) (ht : sb.size ≤ 400000000000) :
  Calls Try.prog 21 #[.agg #[.bool na, .string sa], .agg #[.bool nb, .string sb]] w (Ret w (IntV (ival na sa * ival nb sb))) := by
 have hs' : sa.size ≤ 1099511627776 := by omega
 have ht' : sb.size ≤ 1099511627776 := by omega
 have hla : (dg (bval sa.data.toList)).length ≤ 100000000000 := dg_sized (by omega)
 have hlb : (dg (bval sb.data.toList)).length ≤ 100000000000 := dg_sized (by omega)
 have hlen : (dg (bval sa.data.toList * bval sb.data.toList)).length ≤ 274877906944 := by
  have := dg_mul_length (bval sa.data.toList) (bval sb.data.toList); omega
 have hw2 : ¬ (w.heap.size + 1 + 1 = w.heap.size) := by omega
 have hB0 := (((Blk.new w 33 [.bool na, .string sa]).alloc (.cells #[.bool nb, .string sb] 33)).alloc (.cells #[.bool false, .string ⟨#[]⟩] 33))
 have HB0 := zh hB0; clear hB0
 have hB1 := ((Blk.new (w.alloc (.cells #[.bool na, .string sa] 33)) 33 [.bool nb, .string sb]).alloc (.cells #[.bool false, .string ⟨#[]⟩] 33))
 simp only [World.size_alloc, Nat.add_assoc, Nat.reduceAdd] at hB1
 have HB1 := zh hB1; clear hB1
 have hB2 := (Blk.new ((w.alloc (.cells #[.bool na, .string sa] 33)).alloc (.cells #[.bool nb, .string sb] 33)) 33 [.bool false, .string ⟨#[]⟩])
 simp only [World.size_alloc, Nat.add_assoc, Nat.reduceAdd] at hB2
 have HB2 := zh hB2; clear hB2
 have hmi := sgn_mul na nb (bval sa.data.toList) (bval sb.data.toList)
 have HMI := zh hmi; clear hmi
 have HLA := zh hla; clear hla
 have HLB := zh hlb; clear hlb
 have HLEN := zh hlen; clear hlen
 go_enter Try.func21, Try.ntmps21
 go_wp2_with fail
 go_region_held3 (fun w' => w'.cell? ⟨w.heap.size, 0, none⟩ = some (.bool na) ∧ w'.cell? ⟨w.heap.size, 1, none⟩ = some (.string sa) ∧ w'.cell? ⟨w.heap.size + 1, 0, none⟩ = some (.bool nb) ∧ w'.cell? ⟨w.heap.size + 1, 1, none⟩ = some (.string sb)) (go_keep) (first | (go_at_call_of 40 (Value.agg #[.bool na, .string sa]); refine (digits_any na sa _ hs').mono ?_; rintro e w1 ⟨hq1, v1, rfl, hv1⟩; have tk := HB0.out.drew.keep hq1; have x0 := tk.c 0 rfl; have x1 := tk.c 1 rfl; have A0 := zh tk; clear tk; have tk := HB1.out.drew.keep hq1; have y0 := tk.c 0 rfl; have y1 := tk.c 1 rfl; have A1 := zh tk; clear tk; have tk := HB2.out.drew.keep hq1; have z0 := tk.c 0 rfl; have z1 := tk.c 1 rfl; have A2 := zh tk; clear tk; have HV1 := zh hv1; clear hv1; have HQ1 := zh hq1; clear hq1) | (go_at_call_of 40 (Value.agg #[.bool nb, .string sb]); refine (digits_any nb sb _ ht').mono ?_; rintro e w2 ⟨hq2, v2, rfl, hv2⟩; have tk := A0.out.keep hq2; have p0 := tk.c 0 rfl; have p1 := tk.c 1 rfl; have C0 := zh tk; clear tk; have tk := A1.out.keep hq2; have q0 := tk.c 0 rfl; have q1 := tk.c 1 rfl; have C1 := zh tk; clear tk; have tk := A2.out.keep hq2; have r0 := tk.c 0 rfl; have r1 := tk.c 1 rfl; have C2 := zh tk; clear tk; have hv3 := HV1.out.below hq2 (Nat.le_refl _); have HV2 := zh hv2; clear hv2; have HV3 := zh hv3; clear hv3; have HQ2 := zh hq2; clear hq2) | (go_at_call 44; refine (multiply_any _ _ _ _ _ HV3.out HV2.out HLA.out HLB.out).mono ?_; rintro e w3 ⟨hq3, v3, rfl, hv4⟩; have tk := C0.out.keep hq3; have s0 := tk.c 0 rfl; have s1 := tk.c 1 rfl; have D0 := zh tk; clear tk; have tk := C1.out.keep hq3; have t0 := tk.c 0 rfl; have t1 := tk.c 1 rfl; have D1 := zh tk; clear tk; have tk := C2.out.keep hq3; have u0 := tk.c 0 rfl; have u1 := tk.c 1 rfl; have D2 := zh tk; clear tk; have HV4 := zh hv4; clear hv4; have HQ3 := zh hq3; clear hq3) | (go_at_call 35; refine (number_any _ _ _ _ HV4.out (dg_lt _) HLEN.out).mono ?_; rintro e w5 ⟨hq5, rfl⟩; have tk := D0.out.keep hq5; have a0 := tk.c 0 rfl; have a1 := tk.c 1 rfl; have E0 := zh tk; clear tk; have tk := D1.out.keep hq5; have b0 := tk.c 0 rfl; have b1 := tk.c 1 rfl; have E1 := zh tk; clear tk; have tk := D2.out.keep hq5; have c0 := tk.c 0 rfl; have c1 := tk.c 1 rfl; have E2 := zh tk; clear tk; have fE2 := E2.out.frozen 0; have gE2 := E2.out.frozen 1; have HQ5 := zh hq5; clear hq5))
 go_wp2
 refine bodyPost_ret (v := IntV (sgn (!na == nb) (val (dg (bval sa.data.toList * bval sb.data.toList))))) (by simp [results, Try.results21, go_sem, c0, c1]) rfl ⟨?_, ?_⟩
 ·
  have s0 := ((((Below.refl w.heap.size w).alloc (Nat.le_refl _) (.cells #[.bool na, .string sa] 33)).alloc (by simp) (.cells #[.bool nb, .string sb] 33)).alloc (by simp <;> omega) (.cells #[.bool false, .string ⟨#[]⟩] 33)).drew
  have s1 := s0.trans (HQ1.out.mono s0.size)
  have s2 := s1.trans (HQ2.out.mono s1.size)
  have s3 := s2.trans (HQ3.out.mono s2.size)
  have s5 := s3.trans (HQ5.out.mono s3.size)
  exact (s5.setCell (p := ⟨w.heap.size + 2, 0, none⟩) (Nat.le_add_right _ _) _).setCell (p := ⟨w.heap.size + 2, 1, none⟩) (Nat.le_add_right _ _) _
 ·
  rw [val_dg, show (!na == nb) = (na != nb) from by cases na <;> cases nb <;> rfl, HMI.out]; rfl
theorem imulV (x y : Int) (w : World) (hx : (imag x).size ≤ 400000000000) (hy : (imag y).size ≤ 400000000000) :
  Calls Try.prog 21 #[IntV x, IntV y] w (Ret w (IntV (x * y))) := by
 have h := imul_any (ineg x) (ineg y) (imag x) (imag y) w hx hy
 rwa [ival_canon, ival_canon] at h
end Go.Proofs.Ytjpalbonclgflaa


/- Contracts and plain laws of several functions, one after the other: Shelf, MulI, Len. -/
import Derived.Shelf.Small.Bits
import Derived.Shelf.Small.Wraps
import Derived.Shelf.Strconv.Itoa0
import Derived.Ground.Names2Prog
import Derived.Shelf.Slices.SearchI
import Derived.Test.YtjpalbonclgflaaGreatProg
import Derived.Test.YtjpalbonclgflaaGreatMul
import Derived.Test.YtjpalbonclgflaaGreatIntB
/-
 DERIVED: THE SHELF's CONTRACTS AT THIS DUMP, IN PLAIN WORDS (tools/lay-plain.mjs out of 'TryzShelf.lean', which tools/lay-shelf.mjs wrote): THE SAME DECLARATIONS UNDER THE SAME NAMES: 'import', 'namespace', 'open', 'def', 'theorem' AND NOTHING ELSE: no command of the shelf's: FOR A HAND-IN. Each laying: the table of numbers ('.._ren') and one theorem, a field a fact of the dump's own or the kernel's comparison; each contract: ONE APPLICATION.
-/
namespace Go.Proofs
open Go.Shelf
def Tryz.lays128_ren : Go.Shelf.Ren := ⟨fun | 128 => 136 | n => n, fun | 51 => 105 | 3 => 3 | 4 => 4 | 46 => 106 | 5 => 5 | 9 => 9 | n => n, fun | n => n⟩
theorem Tryz.lays128 : Go.Proofs.Lays.n128 Tryz.prog Tryz.lays128_ren := {
 mixed := by kernel_rfl
 f128 := Tryz.func136.trans (congrArg some (by kernel_rfl))
 t3 := Tryz.underlying3
 a3 := Tryz.isAgg3
 z3 := Tryz.sizeOf3
 v3 := Tryz.zeroValue3
 t4 := Tryz.underlying4
 a4 := Tryz.isAgg4
 z4 := Tryz.sizeOf4
 v4 := Tryz.zeroValue4
 t5 := Tryz.underlying5
 a5 := Tryz.isAgg5
 z5 := Tryz.sizeOf5
 v5 := Tryz.zeroValue5
 t9 := Tryz.underlying9
 a9 := Tryz.isAgg9
 z9 := Tryz.sizeOf9
 v9 := Tryz.zeroValue9
 t46 := Tryz.underlying106
 a46 := Tryz.isAgg106
 z46 := Tryz.sizeOf106
 v46 := Tryz.zeroValue106
 t51 := Tryz.underlying105
 a51 := Tryz.isAgg105
 z51 := Tryz.sizeOf105
 v51 := Tryz.zeroValue105 }
theorem Tryz.bits_Len32 (x : Int) (w : World) (h0 : 0 ≤ x) (h1 : x ≤ 4294967295) :
  Calls Tryz.prog 136 #[.int .u32 x] w fun e w' => e = .returned (.int .i64 (Lib.bitLen x.toNat)) ∧ w' = w := Any.bits_Len32 Tryz.lays128 x w h0 h1
def Tryz.lays125_ren : Go.Shelf.Ren := ⟨fun | 125 => 96 | 128 => 136 | 129 => 147 | n => n, fun | 46 => 106 | 3 => 3 | 51 => 105 | 53 => 104 | 4 => 4 | 5 => 5 | 9 => 9 | n => n, fun | n => n⟩
theorem Tryz.lays125 : Go.Proofs.Lays.n125 Tryz.prog Tryz.lays125_ren := {
 mixed := by kernel_rfl
 f125 := Tryz.func96.trans (congrArg some (by kernel_rfl))
 f128 := Tryz.func136.trans (congrArg some (by kernel_rfl))
 f129 := Tryz.func147.trans (congrArg some (by kernel_rfl))
 t3 := Tryz.underlying3
 a3 := Tryz.isAgg3
 z3 := Tryz.sizeOf3
 v3 := Tryz.zeroValue3
 t4 := Tryz.underlying4
 a4 := Tryz.isAgg4
 z4 := Tryz.sizeOf4
 v4 := Tryz.zeroValue4
 t5 := Tryz.underlying5
 a5 := Tryz.isAgg5
 z5 := Tryz.sizeOf5
 v5 := Tryz.zeroValue5
 t9 := Tryz.underlying9
 a9 := Tryz.isAgg9
 z9 := Tryz.sizeOf9
 v9 := Tryz.zeroValue9
 t46 := Tryz.underlying106
 a46 := Tryz.isAgg106
 z46 := Tryz.sizeOf106
 v46 := Tryz.zeroValue106
 t51 := Tryz.underlying105
 a51 := Tryz.isAgg105
 z51 := Tryz.sizeOf105
 v51 := Tryz.zeroValue105
 t53 := Tryz.underlying104
 a53 := Tryz.isAgg104
 z53 := Tryz.sizeOf104
 v53 := Tryz.zeroValue104 }
theorem Tryz.bits_Len (x : Int) (w : World) (h0 : 0 ≤ x) (h1 : x ≤ 18446744073709551615) :
  Calls Tryz.prog 96 #[.int .u64 x] w fun e w' => e = .returned (.int .i64 (Lib.bitLen x.toNat)) ∧ w' = w := Any.bits_Len Tryz.lays125 x w h0 h1
def Tryz.lays133_ren : Go.Shelf.Ren := ⟨fun | 133 => 187 | 128 => 136 | n => n, fun | 51 => 105 | 3 => 3 | 4 => 4 | 46 => 106 | 5 => 5 | 9 => 9 | n => n, fun | n => n⟩
theorem Tryz.lays133 : Go.Proofs.Lays.n133 Tryz.prog Tryz.lays133_ren := {
 mixed := by kernel_rfl
 f128 := Tryz.func136.trans (congrArg some (by kernel_rfl))
 f133 := Tryz.func187.trans (congrArg some (by kernel_rfl))
 t3 := Tryz.underlying3
 a3 := Tryz.isAgg3
 z3 := Tryz.sizeOf3
 v3 := Tryz.zeroValue3
 t4 := Tryz.underlying4
 a4 := Tryz.isAgg4
 z4 := Tryz.sizeOf4
 v4 := Tryz.zeroValue4
 t5 := Tryz.underlying5
 a5 := Tryz.isAgg5
 z5 := Tryz.sizeOf5
 v5 := Tryz.zeroValue5
 t9 := Tryz.underlying9
 a9 := Tryz.isAgg9
 z9 := Tryz.sizeOf9
 v9 := Tryz.zeroValue9
 t46 := Tryz.underlying106
 a46 := Tryz.isAgg106
 z46 := Tryz.sizeOf106
 v46 := Tryz.zeroValue106
 t51 := Tryz.underlying105
 a51 := Tryz.isAgg105
 z51 := Tryz.sizeOf105
 v51 := Tryz.zeroValue105 }
theorem Tryz.bits_LeadingZeros32 (x : Int) (w : World) (h0 : 0 ≤ x) (h1 : x ≤ 4294967295) :
  Calls Tryz.prog 187 #[.int .u32 x] w fun e w' => e = .returned (.int .i64 (32 - (Lib.bitLen x.toNat : Int))) ∧ w' = w := Any.bits_LeadingZeros32 Tryz.lays133 x w h0 h1
end Go.Proofs

/- integer.Mul. -/
namespace Go.Proofs.YtjpalbonclgflaaGreat
open Go.RowKit

theorem sgn_mul (na nb : Bool) (x y : Nat) : sgn (na != nb) (x * y) = sgn na x * sgn nb y := by
 cases na <;> cases nb <;> simp [sgn, Int.neg_mul, Int.mul_neg]
theorem dg_sized {s : ByteArray} {m : Nat} (hs : s.size ≤ 4 * m) : (dg (bval s.data.toList)).length ≤ m := by
 refine dg_length_le ?_
 have h1 := bval_lt s.data.toList
 have h2 : 256 ^ s.data.toList.length ≤ 256 ^ (4 * m) := Nat.pow_le_pow_right (by decide) (by simpa using hs)
 have h3 : (256 : Nat) ^ (4 * m) = 4294967296 ^ m := by rw [Nat.pow_mul]
 omega
set_option maxRecDepth 100000 in
set_option maxHeartbeats 3200000 in
theorem imul_any (na nb : Bool) (sa sb : ByteArray) (w : World) (hs : sa.size ≤ 400000000000) (ht : sb.size ≤ 400000000000) :
  Calls Tryz.prog 76 #[.agg #[.bool na, .string sa], .agg #[.bool nb, .string sb]] w (Ret w (IntV (ival na sa * ival nb sb))) := by
 have hs' : sa.size ≤ 1099511627776 := by omega
 have ht' : sb.size ≤ 1099511627776 := by omega
 have hla : (dg (bval sa.data.toList)).length ≤ 100000000000 := dg_sized (by omega)
 have hlb : (dg (bval sb.data.toList)).length ≤ 100000000000 := dg_sized (by omega)
 have hlen : (dg (bval sa.data.toList * bval sb.data.toList)).length ≤ 274877906944 := by
  have := dg_mul_length (bval sa.data.toList) (bval sb.data.toList); omega
 have hw2 : ¬ (w.heap.size + 1 + 1 = w.heap.size) := by omega
 have hB0 := (((Blk.new w 25 [.bool na, .string sa]).alloc (.cells #[.bool nb, .string sb] 25)).alloc (.cells #[.bool false, .string ⟨#[]⟩] 25))
 have HB0 := Lib.hid hB0; clear hB0
 have hB1 := ((Blk.new (w.alloc (.cells #[.bool na, .string sa] 25)) 25 [.bool nb, .string sb]).alloc (.cells #[.bool false, .string ⟨#[]⟩] 25))
 simp only [World.size_alloc, Nat.add_assoc, Nat.reduceAdd] at hB1
 have HB1 := Lib.hid hB1; clear hB1
 have hB2 := (Blk.new ((w.alloc (.cells #[.bool na, .string sa] 25)).alloc (.cells #[.bool nb, .string sb] 25)) 25 [.bool false, .string ⟨#[]⟩])
 simp only [World.size_alloc, Nat.add_assoc, Nat.reduceAdd] at hB2
 have HB2 := Lib.hid hB2; clear hB2
 have hmi := sgn_mul na nb (bval sa.data.toList) (bval sb.data.toList)
 have HMI := Lib.hid hmi; clear hmi
 have HLA := Lib.hid hla; clear hla
 have HLB := Lib.hid hlb; clear hlb
 have HLEN := Lib.hid hlen; clear hlen
 go_enter Tryz.func76, Tryz.ntmps76
 go_wp2_with fail
 go_region_held3 (fun w' => w'.cell? ⟨w.heap.size, 0, none⟩ = some (.bool na) ∧ w'.cell? ⟨w.heap.size, 1, none⟩ = some (.string sa) ∧ w'.cell? ⟨w.heap.size + 1, 0, none⟩ = some (.bool nb) ∧ w'.cell? ⟨w.heap.size + 1, 1, none⟩ = some (.string sb)) (go_keep) (first | (go_at_call_of 88 (Value.agg #[.bool na, .string sa]); refine (digits_any na sa _ hs').mono ?_; rintro e w1 ⟨hq1, v1, rfl, hv1⟩; have tk := HB0.out.drew.keep hq1; have x0 := tk.c 0 rfl; have x1 := tk.c 1 rfl; have A0 := Lib.hid tk; clear tk; have tk := HB1.out.drew.keep hq1; have y0 := tk.c 0 rfl; have y1 := tk.c 1 rfl; have A1 := Lib.hid tk; clear tk; have tk := HB2.out.drew.keep hq1; have z0 := tk.c 0 rfl; have z1 := tk.c 1 rfl; have A2 := Lib.hid tk; clear tk; have HV1 := Lib.hid hv1; clear hv1; have HQ1 := Lib.hid hq1; clear hq1) | (go_at_call_of 88 (Value.agg #[.bool nb, .string sb]); refine (digits_any nb sb _ ht').mono ?_; rintro e w2 ⟨hq2, v2, rfl, hv2⟩; have tk := A0.out.keep hq2; have p0 := tk.c 0 rfl; have p1 := tk.c 1 rfl; have C0 := Lib.hid tk; clear tk; have tk := A1.out.keep hq2; have q0 := tk.c 0 rfl; have q1 := tk.c 1 rfl; have C1 := Lib.hid tk; clear tk; have tk := A2.out.keep hq2; have r0 := tk.c 0 rfl; have r1 := tk.c 1 rfl; have C2 := Lib.hid tk; clear tk; have hv3 := HV1.out.below hq2 (Nat.le_refl _); have HV2 := Lib.hid hv2; clear hv2; have HV3 := Lib.hid hv3; clear hv3; have HQ2 := Lib.hid hq2; clear hq2) | (go_at_call 121; refine (multiply_any _ _ _ _ _ HV3.out HV2.out HLA.out HLB.out).mono ?_; rintro e w3 ⟨hq3, v3, rfl, hv4⟩; have tk := C0.out.keep hq3; have s0 := tk.c 0 rfl; have s1 := tk.c 1 rfl; have D0 := Lib.hid tk; clear tk; have tk := C1.out.keep hq3; have t0 := tk.c 0 rfl; have t1 := tk.c 1 rfl; have D1 := Lib.hid tk; clear tk; have tk := C2.out.keep hq3; have u0 := tk.c 0 rfl; have u1 := tk.c 1 rfl; have D2 := Lib.hid tk; clear tk; have HV4 := Lib.hid hv4; clear hv4; have HQ3 := Lib.hid hq3; clear hq3) | (go_at_call 90; refine (number_any _ _ _ _ HV4.out (dg_lt _) HLEN.out).mono ?_; rintro e w5 ⟨hq5, rfl⟩; have tk := D0.out.keep hq5; have a0 := tk.c 0 rfl; have a1 := tk.c 1 rfl; have E0 := Lib.hid tk; clear tk; have tk := D1.out.keep hq5; have b0 := tk.c 0 rfl; have b1 := tk.c 1 rfl; have E1 := Lib.hid tk; clear tk; have tk := D2.out.keep hq5; have c0 := tk.c 0 rfl; have c1 := tk.c 1 rfl; have E2 := Lib.hid tk; clear tk; have fE2 := E2.out.frozen 0; have gE2 := E2.out.frozen 1; have HQ5 := Lib.hid hq5; clear hq5))
 go_wp2
 refine bodyPost_ret (v := IntV (sgn (!na == nb) (val (dg (bval sa.data.toList * bval sb.data.toList))))) (by simp [results, Tryz.results76, go_sem, c0, c1]) rfl ⟨?_, ?_⟩
 ·
  have s0 := ((((Below.refl w.heap.size w).alloc (Nat.le_refl _) (.cells #[.bool na, .string sa] 25)).alloc (by simp) (.cells #[.bool nb, .string sb] 25)).alloc (by simp <;> omega) (.cells #[.bool false, .string ⟨#[]⟩] 25)).drew
  have s1 := s0.trans (HQ1.out.mono s0.size)
  have s2 := s1.trans (HQ2.out.mono s1.size)
  have s3 := s2.trans (HQ3.out.mono s2.size)
  have s5 := s3.trans (HQ5.out.mono s3.size)
  exact (s5.setCell (p := ⟨w.heap.size + 2, 0, none⟩) (Nat.le_add_right _ _) _).setCell (p := ⟨w.heap.size + 2, 1, none⟩) (Nat.le_add_right _ _) _
 ·
  rw [val_dg, show (!na == nb) = (na != nb) from by cases na <;> cases nb <;> rfl, HMI.out]; rfl
theorem imulV (x y : Int) (w : World) (hx : (imag x).size ≤ 400000000000) (hy : (imag y).size ≤ 400000000000) :
  Calls Tryz.prog 76 #[IntV x, IntV y] w (Ret w (IntV (x * y))) := by
 have h := imul_any (ineg x) (ineg y) (imag x) (imag y) w hx hy
 rwa [ival_canon, ival_canon] at h
end Go.Proofs.YtjpalbonclgflaaGreat

/- integer.length, Bits. -/
namespace Go.Proofs.YtjpalbonclgflaaGreat
open Go.RowKit

def lenB (x : Nat) : Int := if x = 0 then 0 else 32 * (((dg x).length : Int) - 1) + (Lib.bitLen (dig x ((dg x).length - 1)) : Int)
set_option maxRecDepth 100000 in
set_option maxHeartbeats 1600000 in
theorem length_any (x : Nat) (vx : Value) (w : World) (hx : Row w vx (dg x).length (cs32 (dg x))) (hb : (dg x).length ≤ 100000000000) :
  Calls Tryz.prog 89 #[vx] w (Ret w (.int .i64 (lenB x))) := by
 obtain ⟨ax, cx, rfl, hlx⟩ := hx.slice
 obtain ⟨m, hm⟩ : ∃ m, m = (dg x).length := ⟨_, rfl⟩
 rw [← hm] at hx hlx hb ⊢
 by_cases hm0 : m = 0
 ·
  subst hm0
  have hz : lenB x = 0 := by rw [lenB, if_pos (dg_nil (List.length_eq_zero_iff.1 hm.symm))]
  have HZ := Lib.hid hz; clear hz
  clear hm hx
  go_enter Tryz.func89, Tryz.ntmps89
  go_wp2_with fail
  go_ret
  exact ⟨Below.refl _ _, by rw [HZ.out]; rfl⟩
 ·
  have hmb : ((m : Int) == 0) = false := by simp; omega
  have hx0 : ¬ x = 0 := fun e => hm0 (by rw [hm, e, dg_zero]; rfl)
  have hz : lenB x = 32 * ((m : Int) - 1) + (Lib.bitLen (dig x (m - 1)) : Int) := by rw [lenB, if_neg hx0, ← hm]
  have HZ := Lib.hid hz; clear hz
  obtain ⟨k, rfl⟩ : ∃ k, m = k + 1 := ⟨m - 1, by omega⟩
  obtain ⟨bx, ox, rfl, hbx, hcx⟩ := hx.at_ (by omega)
  have c1 := hcx k _ (cs32_get (dg_get x k (by rw [← hm]; omega)))
  obtain ⟨d, hd⟩ : ∃ d, d = dig x k := ⟨_, rfl⟩
  have hd32 : d < 4294967296 := by rw [hd]; exact dig_lt _ _
  rw [← hd] at c1
  have hbl := fun w' => Tryz.bits_Len32 (d : Int) w' (by omega) (by omega)
  rw [Int.toNat_natCast] at hbl
  obtain ⟨q, hq⟩ : ∃ q, q = Lib.bitLen d := ⟨_, rfl⟩
  have hq32 : q ≤ 32 := by
   rw [hq]
   exact Lib.bitLen_le d 32 (by omega) (by omega)
  rw [← hq] at hbl
  have HBL := Lib.hid hbl; clear hbl
  have HD := Lib.hid hd; clear hd
  have HQ := Lib.hid hq; clear hq
  have HM := Lib.hid hm; clear hm
  clear hx hcx hmb hx0 hm0 hbx
  have hki : (((k + 1 : Nat) : Int) == 0) = false := by simp; omega
  have hk1 : ((k + 1 : Nat) : Int) - 1 = (k : Int) := by omega
  go_enter Tryz.func89, Tryz.ntmps89
  go_wp2_with (go_at_call 136; refine (HBL.out _).mono ?_; rintro e w' ⟨rfl, rfl⟩)
  go_ret
  exact ⟨Below.refl _ _, by rw [HZ.out, Nat.add_sub_cancel, ← HD.out, ← HQ.out]; exact ret_int (by omega)⟩
end Go.Proofs.YtjpalbonclgflaaGreat


/- Contracts and plain laws of several functions, one after the other: Shift, KnuR, KnuS, Shelf, KnuL. -/
import Derived.Lib.BitFns
import Derived.Lib.ItoaNum
import Derived.Shelf.Small.Bits
import Derived.Test.YtjpalbonclgflaaProg
import Derived.Test.YtjpalbonclgflaaPart10
import Derived.Test.YtjpalbonclgflaaPart13
/- integer.shift: on digits it multiplies by a power of 2. -/
namespace Go.Proofs.Ytjpalbonclgflaa
open Go.RowKit

def sh (X n k : Nat) : Nat := X % 4294967296 ^ k * 2 ^ n
theorem sh_zero (X n : Nat) : sh X n 0 = 0 := by simp [sh, Nat.mod_one]
theorem sh_lt (X n k : Nat) : sh X n k / 4294967296 ^ k < 2 ^ n :=
 Nat.div_lt_of_lt_mul (Nat.mul_lt_mul_of_pos_right (Nat.mod_lt _ (pos_pow k)) (Nat.pow_pos (by decide)))
theorem sh_step (X n k : Nat) : sh X n (k + 1) / 4294967296 ^ (k + 1) = (dig X k * 2 ^ n + sh X n k / 4294967296 ^ k) / 4294967296
  ∧ sh X n (k + 1) % 4294967296 ^ (k + 1) = prt k (sh X n k % 4294967296 ^ k) ((dig X k * 2 ^ n + sh X n k / 4294967296 ^ k) % 4294967296) 0 := by
 have h1 : sh X n (k + 1) = sh X n k % 4294967296 ^ k + 4294967296 ^ k * (dig X k * 2 ^ n + sh X n k / 4294967296 ^ k) := by
  have h2 := Nat.div_add_mod (sh X n k) (4294967296 ^ k)
  have h3 : sh X n (k + 1) = sh X n k + 4294967296 ^ k * (dig X k * 2 ^ n) := by
   unfold sh
   rw [mod_succ, Nat.add_mul, Nat.mul_comm (dig X k), Nat.mul_assoc]
  rw [h3, Nat.mul_add]
  omega
 have h4 := Nat.mod_lt (sh X n k) (pos_pow k)
 obtain ⟨s, hs⟩ : ∃ s, s = dig X k * 2 ^ n + sh X n k / 4294967296 ^ k := ⟨_, rfl⟩
 rw [← hs] at h1 ⊢
 obtain ⟨l, hl⟩ : ∃ l, l = sh X n k % 4294967296 ^ k := ⟨_, rfl⟩
 rw [← hl] at h1 h4 ⊢
 have h5 : sh X n (k + 1) / 4294967296 ^ k = s := by rw [h1, Nat.add_mul_div_left _ _ (pos_pow k), Nat.div_eq_of_lt h4, Nat.zero_add]
 refine ⟨by rw [Nat.pow_succ, ← Nat.div_div_eq_div_mul, h5], ?_⟩
 rw [mod_succ]
 unfold dig
 rw [h5, h1, Nat.add_mul_mod_self_left, Nat.mod_eq_of_lt h4]
 unfold prt
 rw [Nat.mul_zero, Nat.add_zero, Nat.mul_comm]
theorem or_u64n {d z n : Nat} (hd : d < 4294967296) (hn : n < 32) (hz : z < 2 ^ n) : bits BinOp.or IntKind.u64 ((d * 2 ^ n : Nat) : Int) (z : Int) = ((d * 2 ^ n + z : Nat) : Int) := by
 have hp : (2:Nat) ^ n ≤ 2 ^ 31 := Nat.pow_le_pow_right (by decide) (by omega)
 have hm : d * 2 ^ n ≤ 4294967295 * 2 ^ 31 := Nat.mul_le_mul (by omega) hp
 show IntKind.u64.wrap ((BitVec.ofInt 64 ((d * 2 ^ n : Nat) : Int) ||| BitVec.ofInt 64 (z : Int)).toNat : Int) = _
 have e0 : (BitVec.ofInt 64 ((d * 2 ^ n : Nat) : Int)).toNat = d <<< n := by
  rw [BitVec.toNat_ofInt, Nat.shiftLeft_eq]; omega
 have e1 : (BitVec.ofInt 64 (z : Int)).toNat = z := by
  rw [BitVec.toNat_ofInt]; omega
 rw [BitVec.toNat_or, e0, e1, ← Nat.shiftLeft_add_eq_or_of_lt hz, Nat.shiftLeft_eq, IntKind.wrap_u64]
 omega
def ShiftRet (X n : Nat) (w : World) (e : Ending) (w' : World) : Prop := Below w.heap.size w w' ∧ e = .returned (.slice (some ⟨w.heap.size, 0, none⟩) ((dg X).length + 1) ((dg X).length + 1)) ∧ Blk w' w.heap.size 75 (cs32 (Dn ((dg X).length + 1) (X * 2 ^ n)))

theorem prt_low (p a : Nat) : prt p a 0 0 = a := by simp [prt]
set_option maxRecDepth 100000 in
set_option maxHeartbeats 1600000 in
theorem shift_any (X n : Nat) (vx : Value) (w : World) (hx : Row w vx (dg X).length (cs32 (dg X))) (hb : (dg X).length ≤ 100000000000) (hn : n < 32) :
  Calls Try.prog 84 #[vx, .int .i64 (n : Int)] w (ShiftRet X n w) := by
 obtain ⟨ax, cx, rfl, hlx⟩ := hx.slice
 obtain ⟨m, hm⟩ : ∃ m, m = (dg X).length := ⟨_, rfl⟩
 unfold ShiftRet
 rw [← hm] at hx hlx hb ⊢
 have hmk := mk32 (m + 1) (by omega) ((m : Int) + 1) (by omega)
 have HM := zh hm; clear hm
 have HX := zh hx; clear hx
 go_enter Try.func84, Try.ntmps84
 go_wp2_with fail
 clear hmk
 go_loopw [6, 16] (fun c i wr => ∃ k : Nat, k ≤ m ∧ i = .int .i64 k ∧ c = .int .u64 ((sh X n k / 4294967296 ^ k : Nat) : Int) ∧ Below w.heap.size w wr ∧ Blk wr w.heap.size 75 (cs32 (Dn (m + 1) (sh X n k % 4294967296 ^ k)))) (fun _ i _ => m - (intOf i).toNat)
 case atStart =>
  refine ⟨0, Nat.zero_le _, rfl, by rw [sh_zero]; rfl, (Below.refl _ _).alloc (Nat.le_refl _) _, ?_⟩
  have h := Blk.zero w 75 (.int .u32 0) (m + 1)
  rw [zrow_one _ _ rfl] at h
  simpa [sh_zero, Dn_zero, cs32] using h
 case round =>
  obtain ⟨k, hk, rfl, rfl, hbel, hblk⟩ := hrel
  obtain ⟨wo, rfl⟩ : ∃ wo : World, wo = wr := ⟨_, rfl⟩
  obtain ⟨z, hz⟩ : ∃ z, z = sh X n k / 4294967296 ^ k := ⟨_, rfl⟩
  have hzl := sh_lt X n k
  have hp : (2:Nat) ^ n ≤ 2 ^ 31 := Nat.pow_le_pow_right (by decide) (by omega)
  rw [← hz] at hzl ⊢
  have HB := zh hbel; clear hbel
  by_cases hlt : k < m
  ·
   obtain ⟨bx, ox, rfl, hbx, hcx⟩ := HX.out.at_ (by omega)
   have c1 := hcx k _ (cs32_get (dg_get X k (by rw [← HM.out]; omega)))
   rw [← HB.out.cell (p := ⟨bx, ox + k, none⟩) hbx] at c1
   clear hcx hbx
   have hst := sh_step X n k
   have hset := prt_set (U := m + 1) (p := k) (a := sh X n k % 4294967296 ^ k) (c := 0) (d := (dig X k * 2 ^ n + sh X n k / 4294967296 ^ k) % 4294967296) (h := 0) (Nat.mod_lt _ (pos_pow k)) (Nat.mod_lt _ (by decide)) (by decide)
   rw [← hst.2, ← hz] at hset
   rw [← hz] at hst
   obtain ⟨d, hd⟩ : ∃ d, d = dig X k := ⟨_, rfl⟩
   have hd32 : d < 4294967296 := by rw [hd]; exact dig_lt _ _
   rw [← hd] at c1 hst hset
   have hm2 : d * 2 ^ n ≤ 4294967295 * 2 ^ 31 := Nat.mul_le_mul (by omega) hp
   have hor := or_u64n hd32 hn hzl
   obtain ⟨s, hs⟩ : ∃ s, s = d * 2 ^ n + z := ⟨_, rfl⟩
   rw [← hs] at hor hst hset
   have hs64 : s < 18446744073709551616 := by omega
   have hw : bits BinOp.or IntKind.u64 (IntKind.u64.wrap ((d : Int) * 2 ^ n)) (z : Int) = (s : Int) := by
    rw [show (d : Int) * 2 ^ n = ((d * 2 ^ n : Nat) : Int) by simp, IntKind.wrap_u64, Int.emod_eq_of_lt (by omega) (by omega)]
    exact hor
   clear hor
   have hfz := hblk.frozen k
   have hcell := hblk.cell (cs32_get (Dn_get (m + 1) (sh X n k % 4294967296 ^ k) k (by omega)))
   have hblt := hblk.lt
   have HST := zh hst; clear hst
   have HSET := zh hset; clear hset
   have HBK := zh hblk; clear hblk
   clear hz hd hs
   go_wp2_with fail
   go_roundw
   case rel =>
    refine ⟨k + 1, by omega, by go_num, ?_, HB.out.setCell (p := ⟨w.heap.size, k, none⟩) (Nat.le_refl _) _, ?_⟩
    ·
     rw [HST.out.1]; rfl
    ·
     refine (HBK.out.set k _).congr ?_
     rw [← HSET.out, ← cs32_set, prt_low]
     rfl
   case measure => simp [intOf]; omega
  ·
   obtain rfl : k = m := by omega
   have hmod : sh X n k = X * 2 ^ n := by unfold sh; rw [Nat.mod_eq_of_lt]; rw [HM.out]; exact lt_pow_dg X
   have hset := prt_set (U := k + 1) (p := k) (a := sh X n k % 4294967296 ^ k) (c := 0) (d := z) (h := 0) (Nat.mod_lt _ (pos_pow k)) (by omega) (by decide)
   rw [prt_low] at hset
   have hful : prt k (sh X n k % 4294967296 ^ k) z 0 = X * 2 ^ n := by
    unfold prt
    rw [Nat.mul_zero, Nat.add_zero, hz, Nat.add_comm, Nat.div_add_mod, hmod]
   rw [hful] at hset
   have hcell := hblk.cell (cs32_get (Dn_get (k + 1) (sh X n k % 4294967296 ^ k) k (by omega)))
   have hfz := hblk.frozen k
   have hzm : (z : Int) % 4294967296 = z := by omega
   have hblt := hblk.lt
   have HSET := zh hset; clear hset
   have HBK := zh hblk; clear hblk
   clear hz hful hmod
   go_wp2_with fail
   go_ret
   refine ⟨HB.out.setCell (p := ⟨w.heap.size, k, none⟩) (Nat.le_refl _) _, by first | rfl | simp, ?_⟩
   refine (HBK.out.set k _).congr ?_
   rw [← HSET.out, ← cs32_set]
end Go.Proofs.Ytjpalbonclgflaa

/- The upper digit of a divisor, shifted. -/
namespace Go.Proofs.Ytjpalbonclgflaa
open Go.RowKit

theorem lz_bits {d : Nat} (h0 : 0 < d) (h1 : d < 4294967296) : ∃ n : Nat, n < 32 ∧ (32 - (Lib.bitLen d : Int)) = (n : Int) ∧ 2147483648 ≤ d * 2 ^ n ∧ d * 2 ^ n + 2 ^ n ≤ 4294967296 := by
 have hb := Lib.bitLenAux_bounds 64 d (by omega) (by omega)
 have hl : Lib.bitLen d ≤ 32 := Lib.bitLen_le d 32 (by omega) (by omega)
 have hb : 1 ≤ Lib.bitLen d ∧ 2 ^ (Lib.bitLen d - 1) ≤ d ∧ d < 2 ^ Lib.bitLen d := hb
 obtain ⟨l, hl2⟩ : ∃ l, l = Lib.bitLen d := ⟨_, rfl⟩
 rw [← hl2] at hb hl ⊢
 refine ⟨32 - l, by omega, by omega, ?_, ?_⟩
 ·
  have h := Nat.mul_le_mul_right (2 ^ (32 - l)) hb.2.1
  rw [← Nat.pow_add, show l - 1 + (32 - l) = 31 by omega] at h
  exact h
 ·
  have h := Nat.mul_le_mul_right (2 ^ (32 - l)) (show d + 1 ≤ 2 ^ l from hb.2.2)
  rw [← Nat.pow_add, show l + (32 - l) = 32 by omega, Nat.add_mul, Nat.one_mul] at h
  exact h
def LzRet (d : Nat) (w : World) (e : Ending) (w' : World) : Prop := w' = w ∧ ∃ n : Nat, n < 32 ∧ 2147483648 ≤ d * 2 ^ n ∧ d * 2 ^ n + 2 ^ n ≤ 4294967296 ∧ e = .returned (.int .i64 (n : Int))
theorem top_shift {D s n : Nat} (hD : D < 4294967296 ^ (s + 2)) (h1 : 2147483648 ≤ dig D (s + 1) * 2 ^ n) (h2 : dig D (s + 1) * 2 ^ n + 2 ^ n ≤ 4294967296) :
  D * 2 ^ n < 4294967296 ^ (s + 2) ∧ 2147483648 ≤ dig (D * 2 ^ n) (s + 1) := by
 have d0 : D / 4294967296 ^ (s + 2) = 0 := Nat.div_eq_of_lt hD
 have d1 := div_step D (s + 1)
 rw [show s + 1 + 1 = s + 2 from rfl, d0] at d1
 have d2 := lt_div_up D (s + 1)
 have d3 := Nat.div_mul_le_self D (4294967296 ^ (s + 1))
 have e : D / 4294967296 ^ (s + 1) = dig D (s + 1) := by omega
 rw [e] at d2 d3
 have up : D * 2 ^ n < 4294967296 ^ (s + 2) := by
  refine Nat.lt_of_lt_of_le (Nat.mul_lt_mul_of_pos_right d2 (Nat.pow_pos (by decide))) ?_
  rw [Nat.mul_right_comm, Nat.add_mul, Nat.one_mul, Nat.pow_succ 4294967296 (s + 1), Nat.mul_comm (4294967296 ^ (s + 1))]
  exact Nat.mul_le_mul_right _ h2
 refine ⟨up, ?_⟩
 have v0 : D * 2 ^ n / 4294967296 ^ (s + 2) = 0 := Nat.div_eq_of_lt up
 have v1 := div_step (D * 2 ^ n) (s + 1)
 rw [show s + 1 + 1 = s + 2 from rfl, v0] at v1
 have lo : 2147483648 ≤ D * 2 ^ n / 4294967296 ^ (s + 1) := by
  refine (Nat.le_div_iff_mul_le (pos_pow _)).2 ?_
  refine Nat.le_trans (Nat.mul_le_mul_right _ h1) ?_
  rw [Nat.mul_right_comm]
  exact Nat.mul_le_mul_right _ d3
 omega
end Go.Proofs.Ytjpalbonclgflaa

/- The remainder of a long division is shifted back: plain. -/
namespace Go.Proofs.Ytjpalbonclgflaa

theorem b_split {n k : Nat} (h : n + k = 32) : 4294967296 = 2 ^ n * 2 ^ k := by rw [← Nat.pow_add, h]
theorem unsh_lo (R i : Nat) {n k : Nat} (h : n + k = 32) : dig (R * 2 ^ n) i / 2 ^ n = dig R i % 2 ^ k := by
 have e1 : dig (R * 2 ^ n) i / 2 ^ n = (R * 2 ^ n / 4294967296 ^ i) / 2 ^ n % 2 ^ k := by
  unfold dig
  obtain ⟨z, hz⟩ : ∃ z, z = R * 2 ^ n / 4294967296 ^ i := ⟨_, rfl⟩
  rw [← hz, b_split h, Nat.mod_mul_right_div_self]
 rw [e1, Nat.div_div_eq_div_mul, Nat.mul_comm (4294967296 ^ i), ← Nat.div_div_eq_div_mul, Nat.mul_div_cancel _ (Nat.pow_pos (by decide))]
 unfold dig
 rw [Nat.mod_mod_of_dvd]
 exact ⟨2 ^ n, by rw [Nat.mul_comm]; exact b_split h⟩
theorem unsh_hi (R i : Nat) {n k : Nat} (h : n + k = 32) : dig (R * 2 ^ n) (i + 1) * 2 ^ k % 4294967296 = dig R i / 2 ^ k * 2 ^ k := by
 have e1 : R * 2 ^ n / 4294967296 ^ (i + 1) = R / 4294967296 ^ i / 2 ^ k := by
  have e : (4294967296 : Nat) ^ (i + 1) = 2 ^ n * (4294967296 ^ i * 2 ^ k) := by
   rw [Nat.pow_succ, Nat.mul_left_comm, ← b_split h]
  rw [e, ← Nat.div_div_eq_div_mul, Nat.mul_div_cancel _ (Nat.pow_pos (by decide)), Nat.div_div_eq_div_mul]
 unfold dig
 rw [e1]
 obtain ⟨z, hz⟩ : ∃ z, z = R / 4294967296 ^ i := ⟨_, rfl⟩
 rw [← hz, Nat.mod_mul_mod]
 have e2 : z % 4294967296 / 2 ^ k = z / 2 ^ k % 2 ^ n := by
  rw [b_split h, Nat.mul_comm (2 ^ n), Nat.mod_mul_right_div_self]
 rw [e2]
 have e3 : z / 2 ^ k * 2 ^ k % 4294967296 = z / 2 ^ k * 2 ^ k % (2 ^ n * 2 ^ k) := by rw [← b_split h]
 rw [e3, Nat.mul_mod_mul_right]
theorem or_u32 {d k : Nat} (hd : d < 4294967296) : bits BinOp.or IntKind.u32 ((d % 2 ^ k : Nat) : Int) ((d / 2 ^ k * 2 ^ k : Nat) : Int) = (d : Int) := by
 have h1 : d / 2 ^ k * 2 ^ k ≤ d := Nat.div_mul_le_self _ _
 have h2 : d % 2 ^ k ≤ d := Nat.mod_le _ _
 have h3 : d % 2 ^ k < 2 ^ k := Nat.mod_lt _ (Nat.pow_pos (by decide))
 show IntKind.u32.wrap ((BitVec.ofInt 32 ((d % 2 ^ k : Nat) : Int) ||| BitVec.ofInt 32 ((d / 2 ^ k * 2 ^ k : Nat) : Int)).toNat : Int) = _
 have e0 : (BitVec.ofInt 32 ((d / 2 ^ k * 2 ^ k : Nat) : Int)).toNat = (d / 2 ^ k) <<< k := by
  rw [BitVec.toNat_ofInt, Nat.shiftLeft_eq]; omega
 have e1 : (BitVec.ofInt 32 ((d % 2 ^ k : Nat) : Int)).toNat = d % 2 ^ k := by
  rw [BitVec.toNat_ofInt]; omega
 rw [BitVec.toNat_or, e0, e1, Nat.or_comm, ← Nat.shiftLeft_add_eq_or_of_lt h3, Nat.shiftLeft_eq, Nat.mul_comm, Nat.div_add_mod, IntKind.wrap_u32]
 omega
theorem low_put {U R i : Nat} : (Dn U (R % 4294967296 ^ i)).set i (dig R i) = Dn U (R % 4294967296 ^ (i + 1)) := by
 have h := prt_set (U := U) (p := i) (a := R % 4294967296 ^ i) (c := 0) (d := dig R i) (h := 0) (Nat.mod_lt _ (pos_pow i)) (dig_lt _ _) (by decide)
 have e1 : prt i (R % 4294967296 ^ i) 0 0 = R % 4294967296 ^ i := by simp [prt]
 have e2 : prt i (R % 4294967296 ^ i) (dig R i) 0 = R % 4294967296 ^ (i + 1) := by rw [mod_succ]; simp [prt, Nat.mul_comm]
 rwa [e1, e2] at h
end Go.Proofs.Ytjpalbonclgflaa

/-
 DERIVED: THE SHELF's CONTRACTS AT THIS DUMP, IN PLAIN WORDS (tools/lay-plain.mjs out of 'TryShelf.lean', which tools/lay-shelf.mjs wrote): THE SAME DECLARATIONS UNDER THE SAME NAMES: 'import', 'namespace', 'open', 'def', 'theorem' AND NOTHING ELSE: no command of the shelf's: FOR A HAND-IN. Each laying: the table of numbers ('.._ren') and one theorem, a field a fact of the dump's own or the kernel's comparison; each contract: ONE APPLICATION.
-/
namespace Go.Proofs
open Go.Shelf
def Try.lays133_ren : Go.Shelf.Ren := ⟨fun | 133 => 83 | 128 => 85 | n => n, fun | 51 => 75 | 3 => 3 | 4 => 4 | 46 => 76 | 5 => 5 | 9 => 9 | n => n, fun | n => n⟩
theorem Try.lays133 : Go.Proofs.Lays.n133 Try.prog Try.lays133_ren := {
 mixed := by kernel_rfl
 f128 := Try.func85.trans (congrArg some (by kernel_rfl))
 f133 := Try.func83.trans (congrArg some (by kernel_rfl))
 t3 := Try.underlying3
 a3 := Try.isAgg3
 z3 := Try.sizeOf3
 v3 := Try.zeroValue3
 t4 := Try.underlying4
 a4 := Try.isAgg4
 z4 := Try.sizeOf4
 v4 := Try.zeroValue4
 t5 := Try.underlying5
 a5 := Try.isAgg5
 z5 := Try.sizeOf5
 v5 := Try.zeroValue5
 t9 := Try.underlying9
 a9 := Try.isAgg9
 z9 := Try.sizeOf9
 v9 := Try.zeroValue9
 t46 := Try.underlying76
 a46 := Try.isAgg76
 z46 := Try.sizeOf76
 v46 := Try.zeroValue76
 t51 := Try.underlying75
 a51 := Try.isAgg75
 z51 := Try.sizeOf75
 v51 := Try.zeroValue75 }
theorem Try.bits_LeadingZeros32 (x : Int) (w : World) (h0 : 0 ≤ x) (h1 : x ≤ 4294967295) :
  Calls Try.prog 83 #[.int .u32 x] w fun e w' => e = .returned (.int .i64 (32 - (Lib.bitLen x.toNat : Int))) ∧ w' = w := Any.bits_LeadingZeros32 Try.lays133 x w h0 h1
end Go.Proofs

/- bits.LeadingZeros32. -/
namespace Go.Proofs.Ytjpalbonclgflaa
open Go.RowKit

theorem lz_any (d : Nat) (h0 : 0 < d) (h1 : d < 4294967296) (w : World) :
  Calls Try.prog 83 #[.int .u32 (d : Int)] w (LzRet d w) := by
 obtain ⟨n, hn1, hn2, hn3, hn4⟩ := lz_bits h0 h1
 have h := Try.bits_LeadingZeros32 (d : Int) w (by omega) (by omega)
 rw [Int.toNat_natCast] at h
 refine h.mono ?_
 rintro e w' ⟨he, hw⟩
 subst hw
 exact ⟨rfl, n, hn1, hn3, hn4, by rw [he, hn2]⟩
end Go.Proofs.Ytjpalbonclgflaa


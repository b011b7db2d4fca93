/- Contracts and plain laws of several functions, one after the other: Shift, KnuR, KnuS, StuB. -/
import Derived.Lib.BitFns
import Derived.Lib.ItoaNum
import Derived.Test.YtjpalbonclgflaaGreatPart6
import Derived.Test.YtjpalbonclgflaaGreatPart8
import Derived.Test.YtjpalbonclgflaaGreatPart2
/- integer.shift: on digits it multiplies by a power of 2. -/
namespace Go.Proofs.YtjpalbonclgflaaGreat
open Go.RowKit

def sh (X n k : Nat) : Nat := X % 4294967296 ^ k * 2 ^ n
theorem sh_zero (X n : Nat) : sh X n 0 = 0 := by simp [sh, Nat.mod_one]
theorem sh_lt (X n k : Nat) : sh X n k / 4294967296 ^ k < 2 ^ n :=
 Nat.div_lt_of_lt_mul (Nat.mul_lt_mul_of_pos_right (Nat.mod_lt _ (pos_pow k)) (Nat.pow_pos (by decide)))
theorem sh_step (X n k : Nat) : sh X n (k + 1) / 4294967296 ^ (k + 1) = (dig X k * 2 ^ n + sh X n k / 4294967296 ^ k) / 4294967296
  ∧ sh X n (k + 1) % 4294967296 ^ (k + 1) = prt k (sh X n k % 4294967296 ^ k) ((dig X k * 2 ^ n + sh X n k / 4294967296 ^ k) % 4294967296) 0 := by
 have h1 : sh X n (k + 1) = sh X n k % 4294967296 ^ k + 4294967296 ^ k * (dig X k * 2 ^ n + sh X n k / 4294967296 ^ k) := by
  have h2 := Nat.div_add_mod (sh X n k) (4294967296 ^ k)
  have h3 : sh X n (k + 1) = sh X n k + 4294967296 ^ k * (dig X k * 2 ^ n) := by
   unfold sh
   rw [mod_succ, Nat.add_mul, Nat.mul_comm (dig X k), Nat.mul_assoc]
  rw [h3, Nat.mul_add]
  omega
 have h4 := Nat.mod_lt (sh X n k) (pos_pow k)
 obtain ⟨s, hs⟩ : ∃ s, s = dig X k * 2 ^ n + sh X n k / 4294967296 ^ k := ⟨_, rfl⟩
 rw [← hs] at h1 ⊢
 obtain ⟨l, hl⟩ : ∃ l, l = sh X n k % 4294967296 ^ k := ⟨_, rfl⟩
 rw [← hl] at h1 h4 ⊢
 have h5 : sh X n (k + 1) / 4294967296 ^ k = s := by rw [h1, Nat.add_mul_div_left _ _ (pos_pow k), Nat.div_eq_of_lt h4, Nat.zero_add]
 refine ⟨by rw [Nat.pow_succ, ← Nat.div_div_eq_div_mul, h5], ?_⟩
 rw [mod_succ]
 unfold dig
 rw [h5, h1, Nat.add_mul_mod_self_left, Nat.mod_eq_of_lt h4]
 unfold prt
 rw [Nat.mul_zero, Nat.add_zero, Nat.mul_comm]
theorem or_u64n {d z n : Nat} (hd : d < 4294967296) (hn : n < 32) (hz : z < 2 ^ n) : bits BinOp.or IntKind.u64 ((d * 2 ^ n : Nat) : Int) (z : Int) = ((d * 2 ^ n + z : Nat) : Int) := by
 have hp : (2:Nat) ^ n ≤ 2 ^ 31 := Nat.pow_le_pow_right (by decide) (by omega)
 have hm : d * 2 ^ n ≤ 4294967295 * 2 ^ 31 := Nat.mul_le_mul (by omega) hp
 show IntKind.u64.wrap ((BitVec.ofInt 64 ((d * 2 ^ n : Nat) : Int) ||| BitVec.ofInt 64 (z : Int)).toNat : Int) = _
 have e0 : (BitVec.ofInt 64 ((d * 2 ^ n : Nat) : Int)).toNat = d <<< n := by
  rw [BitVec.toNat_ofInt, Nat.shiftLeft_eq]; omega
 have e1 : (BitVec.ofInt 64 (z : Int)).toNat = z := by
  rw [BitVec.toNat_ofInt]; omega
 rw [BitVec.toNat_or, e0, e1, ← Nat.shiftLeft_add_eq_or_of_lt hz, Nat.shiftLeft_eq, IntKind.wrap_u64]
 omega
def ShiftRet (X n : Nat) (w : World) (e : Ending) (w' : World) : Prop := Below w.heap.size w w' ∧ e = .returned (.slice (some ⟨w.heap.size, 0, none⟩) ((dg X).length + 1) ((dg X).length + 1)) ∧ Blk w' w.heap.size 105 (cs32 (Dn ((dg X).length + 1) (X * 2 ^ n)))

theorem prt_low (p a : Nat) : prt p a 0 0 = a := by simp [prt]
set_option maxRecDepth 100000 in
set_option maxHeartbeats 1600000 in
theorem shift_any (X n : Nat) (vx : Value) (w : World) (hx : Row w vx (dg X).length (cs32 (dg X))) (hb : (dg X).length ≤ 100000000000) (hn : n < 32) :
  Calls Tryz.prog 188 #[vx, .int .i64 (n : Int)] w (ShiftRet X n w) := by
 obtain ⟨ax, cx, rfl, hlx⟩ := hx.slice
 obtain ⟨m, hm⟩ : ∃ m, m = (dg X).length := ⟨_, rfl⟩
 unfold ShiftRet
 rw [← hm] at hx hlx hb ⊢
 have hmk := mk32 (m + 1) (by omega) ((m : Int) + 1) (by omega)
 have HM := zh hm; clear hm
 have HX := zh hx; clear hx
 go_enter Tryz.func188, Tryz.ntmps188
 go_wp2_with fail
 clear hmk
 go_loopw [6, 16] (fun c i wr => ∃ k : Nat, k ≤ m ∧ i = .int .i64 k ∧ c = .int .u64 ((sh X n k / 4294967296 ^ k : Nat) : Int) ∧ Below w.heap.size w wr ∧ Blk wr w.heap.size 105 (cs32 (Dn (m + 1) (sh X n k % 4294967296 ^ k)))) (fun _ i _ => m - (intOf i).toNat)
 case atStart =>
  refine ⟨0, Nat.zero_le _, rfl, by rw [sh_zero]; rfl, (Below.refl _ _).alloc (Nat.le_refl _) _, ?_⟩
  have h := Blk.zero w 105 (.int .u32 0) (m + 1)
  rw [zrow_one _ _ rfl] at h
  simpa [sh_zero, Dn_zero, cs32] using h
 case round =>
  obtain ⟨k, hk, rfl, rfl, hbel, hblk⟩ := hrel
  obtain ⟨wo, rfl⟩ : ∃ wo : World, wo = wr := ⟨_, rfl⟩
  obtain ⟨z, hz⟩ : ∃ z, z = sh X n k / 4294967296 ^ k := ⟨_, rfl⟩
  have hzl := sh_lt X n k
  have hp : (2:Nat) ^ n ≤ 2 ^ 31 := Nat.pow_le_pow_right (by decide) (by omega)
  rw [← hz] at hzl ⊢
  have HB := zh hbel; clear hbel
  by_cases hlt : k < m
  ·
   obtain ⟨bx, ox, rfl, hbx, hcx⟩ := HX.out.at_ (by omega)
   have c1 := hcx k _ (cs32_get (dg_get X k (by rw [← HM.out]; omega)))
   rw [← HB.out.cell (p := ⟨bx, ox + k, none⟩) hbx] at c1
   clear hcx hbx
   have hst := sh_step X n k
   have hset := prt_set (U := m + 1) (p := k) (a := sh X n k % 4294967296 ^ k) (c := 0) (d := (dig X k * 2 ^ n + sh X n k / 4294967296 ^ k) % 4294967296) (h := 0) (Nat.mod_lt _ (pos_pow k)) (Nat.mod_lt _ (by decide)) (by decide)
   rw [← hst.2, ← hz] at hset
   rw [← hz] at hst
   obtain ⟨d, hd⟩ : ∃ d, d = dig X k := ⟨_, rfl⟩
   have hd32 : d < 4294967296 := by rw [hd]; exact dig_lt _ _
   rw [← hd] at c1 hst hset
   have hm2 : d * 2 ^ n ≤ 4294967295 * 2 ^ 31 := Nat.mul_le_mul (by omega) hp
   have hor := or_u64n hd32 hn hzl
   obtain ⟨s, hs⟩ : ∃ s, s = d * 2 ^ n + z := ⟨_, rfl⟩
   rw [← hs] at hor hst hset
   have hs64 : s < 18446744073709551616 := by omega
   have hw : bits BinOp.or IntKind.u64 (IntKind.u64.wrap ((d : Int) * 2 ^ n)) (z : Int) = (s : Int) := by
    rw [show (d : Int) * 2 ^ n = ((d * 2 ^ n : Nat) : Int) by simp, IntKind.wrap_u64, Int.emod_eq_of_lt (by omega) (by omega)]
    exact hor
   clear hor
   have hfz := hblk.frozen k
   have hcell := hblk.cell (cs32_get (Dn_get (m + 1) (sh X n k % 4294967296 ^ k) k (by omega)))
   have hblt := hblk.lt
   have HST := zh hst; clear hst
   have HSET := zh hset; clear hset
   have HBK := zh hblk; clear hblk
   clear hz hd hs
   go_wp2_with fail
   go_roundw
   case rel =>
    refine ⟨k + 1, by omega, by go_num, ?_, HB.out.setCell (p := ⟨w.heap.size, k, none⟩) (Nat.le_refl _) _, ?_⟩
    ·
     rw [HST.out.1]; rfl
    ·
     refine (HBK.out.set k _).congr ?_
     rw [← HSET.out, ← cs32_set, prt_low]
     rfl
   case measure => simp [intOf]; omega
  ·
   obtain rfl : k = m := by omega
   have hmod : sh X n k = X * 2 ^ n := by unfold sh; rw [Nat.mod_eq_of_lt]; rw [HM.out]; exact lt_pow_dg X
   have hset := prt_set (U := k + 1) (p := k) (a := sh X n k % 4294967296 ^ k) (c := 0) (d := z) (h := 0) (Nat.mod_lt _ (pos_pow k)) (by omega) (by decide)
   rw [prt_low] at hset
   have hful : prt k (sh X n k % 4294967296 ^ k) z 0 = X * 2 ^ n := by
    unfold prt
    rw [Nat.mul_zero, Nat.add_zero, hz, Nat.add_comm, Nat.div_add_mod, hmod]
   rw [hful] at hset
   have hcell := hblk.cell (cs32_get (Dn_get (k + 1) (sh X n k % 4294967296 ^ k) k (by omega)))
   have hfz := hblk.frozen k
   have hzm : (z : Int) % 4294967296 = z := by omega
   have hblt := hblk.lt
   have HSET := zh hset; clear hset
   have HBK := zh hblk; clear hblk
   clear hz hful hmod
   go_wp2_with fail
   go_ret
   refine ⟨HB.out.setCell (p := ⟨w.heap.size, k, none⟩) (Nat.le_refl _) _, by first | rfl | simp, ?_⟩
   refine (HBK.out.set k _).congr ?_
   rw [← HSET.out, ← cs32_set]
end Go.Proofs.YtjpalbonclgflaaGreat

/- The upper digit of a divisor, shifted. -/
namespace Go.Proofs.YtjpalbonclgflaaGreat
open Go.RowKit

theorem lz_bits {d : Nat} (h0 : 0 < d) (h1 : d < 4294967296) : ∃ n : Nat, n < 32 ∧ (32 - (Lib.bitLen d : Int)) = (n : Int) ∧ 2147483648 ≤ d * 2 ^ n ∧ d * 2 ^ n + 2 ^ n ≤ 4294967296 := by
 have hb := Lib.bitLenAux_bounds 64 d (by omega) (by omega)
 have hl : Lib.bitLen d ≤ 32 := Lib.bitLen_le d 32 (by omega) (by omega)
 have hb : 1 ≤ Lib.bitLen d ∧ 2 ^ (Lib.bitLen d - 1) ≤ d ∧ d < 2 ^ Lib.bitLen d := hb
 obtain ⟨l, hl2⟩ : ∃ l, l = Lib.bitLen d := ⟨_, rfl⟩
 rw [← hl2] at hb hl ⊢
 refine ⟨32 - l, by omega, by omega, ?_, ?_⟩
 ·
  have h := Nat.mul_le_mul_right (2 ^ (32 - l)) hb.2.1
  rw [← Nat.pow_add, show l - 1 + (32 - l) = 31 by omega] at h
  exact h
 ·
  have h := Nat.mul_le_mul_right (2 ^ (32 - l)) (show d + 1 ≤ 2 ^ l from hb.2.2)
  rw [← Nat.pow_add, show l + (32 - l) = 32 by omega, Nat.add_mul, Nat.one_mul] at h
  exact h
def LzRet (d : Nat) (w : World) (e : Ending) (w' : World) : Prop := w' = w ∧ ∃ n : Nat, n < 32 ∧ 2147483648 ≤ d * 2 ^ n ∧ d * 2 ^ n + 2 ^ n ≤ 4294967296 ∧ e = .returned (.int .i64 (n : Int))
theorem top_shift {D s n : Nat} (hD : D < 4294967296 ^ (s + 2)) (h1 : 2147483648 ≤ dig D (s + 1) * 2 ^ n) (h2 : dig D (s + 1) * 2 ^ n + 2 ^ n ≤ 4294967296) :
  D * 2 ^ n < 4294967296 ^ (s + 2) ∧ 2147483648 ≤ dig (D * 2 ^ n) (s + 1) := by
 have d0 : D / 4294967296 ^ (s + 2) = 0 := Nat.div_eq_of_lt hD
 have d1 := div_step D (s + 1)
 rw [show s + 1 + 1 = s + 2 from rfl, d0] at d1
 have d2 := lt_div_up D (s + 1)
 have d3 := Nat.div_mul_le_self D (4294967296 ^ (s + 1))
 have e : D / 4294967296 ^ (s + 1) = dig D (s + 1) := by omega
 rw [e] at d2 d3
 have up : D * 2 ^ n < 4294967296 ^ (s + 2) := by
  refine Nat.lt_of_lt_of_le (Nat.mul_lt_mul_of_pos_right d2 (Nat.pow_pos (by decide))) ?_
  rw [Nat.mul_right_comm, Nat.add_mul, Nat.one_mul, Nat.pow_succ 4294967296 (s + 1), Nat.mul_comm (4294967296 ^ (s + 1))]
  exact Nat.mul_le_mul_right _ h2
 refine ⟨up, ?_⟩
 have v0 : D * 2 ^ n / 4294967296 ^ (s + 2) = 0 := Nat.div_eq_of_lt up
 have v1 := div_step (D * 2 ^ n) (s + 1)
 rw [show s + 1 + 1 = s + 2 from rfl, v0] at v1
 have lo : 2147483648 ≤ D * 2 ^ n / 4294967296 ^ (s + 1) := by
  refine (Nat.le_div_iff_mul_le (pos_pow _)).2 ?_
  refine Nat.le_trans (Nat.mul_le_mul_right _ h1) ?_
  rw [Nat.mul_right_comm]
  exact Nat.mul_le_mul_right _ d3
 omega
end Go.Proofs.YtjpalbonclgflaaGreat

/- The remainder of a long division is shifted back: plain. -/
namespace Go.Proofs.YtjpalbonclgflaaGreat

theorem b_split {n k : Nat} (h : n + k = 32) : 4294967296 = 2 ^ n * 2 ^ k := by rw [← Nat.pow_add, h]
theorem unsh_lo (R i : Nat) {n k : Nat} (h : n + k = 32) : dig (R * 2 ^ n) i / 2 ^ n = dig R i % 2 ^ k := by
 have e1 : dig (R * 2 ^ n) i / 2 ^ n = (R * 2 ^ n / 4294967296 ^ i) / 2 ^ n % 2 ^ k := by
  unfold dig
  obtain ⟨z, hz⟩ : ∃ z, z = R * 2 ^ n / 4294967296 ^ i := ⟨_, rfl⟩
  rw [← hz, b_split h, Nat.mod_mul_right_div_self]
 rw [e1, Nat.div_div_eq_div_mul, Nat.mul_comm (4294967296 ^ i), ← Nat.div_div_eq_div_mul, Nat.mul_div_cancel _ (Nat.pow_pos (by decide))]
 unfold dig
 rw [Nat.mod_mod_of_dvd]
 exact ⟨2 ^ n, by rw [Nat.mul_comm]; exact b_split h⟩
theorem unsh_hi (R i : Nat) {n k : Nat} (h : n + k = 32) : dig (R * 2 ^ n) (i + 1) * 2 ^ k % 4294967296 = dig R i / 2 ^ k * 2 ^ k := by
 have e1 : R * 2 ^ n / 4294967296 ^ (i + 1) = R / 4294967296 ^ i / 2 ^ k := by
  have e : (4294967296 : Nat) ^ (i + 1) = 2 ^ n * (4294967296 ^ i * 2 ^ k) := by
   rw [Nat.pow_succ, Nat.mul_left_comm, ← b_split h]
  rw [e, ← Nat.div_div_eq_div_mul, Nat.mul_div_cancel _ (Nat.pow_pos (by decide)), Nat.div_div_eq_div_mul]
 unfold dig
 rw [e1]
 obtain ⟨z, hz⟩ : ∃ z, z = R / 4294967296 ^ i := ⟨_, rfl⟩
 rw [← hz, Nat.mod_mul_mod]
 have e2 : z % 4294967296 / 2 ^ k = z / 2 ^ k % 2 ^ n := by
  rw [b_split h, Nat.mul_comm (2 ^ n), Nat.mod_mul_right_div_self]
 rw [e2]
 have e3 : z / 2 ^ k * 2 ^ k % 4294967296 = z / 2 ^ k * 2 ^ k % (2 ^ n * 2 ^ k) := by rw [← b_split h]
 rw [e3, Nat.mul_mod_mul_right]
theorem or_u32 {d k : Nat} (hd : d < 4294967296) : bits BinOp.or IntKind.u32 ((d % 2 ^ k : Nat) : Int) ((d / 2 ^ k * 2 ^ k : Nat) : Int) = (d : Int) := by
 have h1 : d / 2 ^ k * 2 ^ k ≤ d := Nat.div_mul_le_self _ _
 have h2 : d % 2 ^ k ≤ d := Nat.mod_le _ _
 have h3 : d % 2 ^ k < 2 ^ k := Nat.mod_lt _ (Nat.pow_pos (by decide))
 show IntKind.u32.wrap ((BitVec.ofInt 32 ((d % 2 ^ k : Nat) : Int) ||| BitVec.ofInt 32 ((d / 2 ^ k * 2 ^ k : Nat) : Int)).toNat : Int) = _
 have e0 : (BitVec.ofInt 32 ((d / 2 ^ k * 2 ^ k : Nat) : Int)).toNat = (d / 2 ^ k) <<< k := by
  rw [BitVec.toNat_ofInt, Nat.shiftLeft_eq]; omega
 have e1 : (BitVec.ofInt 32 ((d % 2 ^ k : Nat) : Int)).toNat = d % 2 ^ k := by
  rw [BitVec.toNat_ofInt]; omega
 rw [BitVec.toNat_or, e0, e1, Nat.or_comm, ← Nat.shiftLeft_add_eq_or_of_lt h3, Nat.shiftLeft_eq, Nat.mul_comm, Nat.div_add_mod, IntKind.wrap_u32]
 omega
theorem low_put {U R i : Nat} : (Dn U (R % 4294967296 ^ i)).set i (dig R i) = Dn U (R % 4294967296 ^ (i + 1)) := by
 have h := prt_set (U := U) (p := i) (a := R % 4294967296 ^ i) (c := 0) (d := dig R i) (h := 0) (Nat.mod_lt _ (pos_pow i)) (dig_lt _ _) (by decide)
 have e1 : prt i (R % 4294967296 ^ i) 0 0 = R % 4294967296 ^ i := by simp [prt]
 have e2 : prt i (R % 4294967296 ^ i) (dig R i) 0 = R % 4294967296 ^ (i + 1) := by rw [mod_succ]; simp [prt, Nat.mul_comm]
 rwa [e1, e2] at h
end Go.Proofs.YtjpalbonclgflaaGreat

/- Sturm's theorem over the rational numbers, told by small cells: plain. -/
namespace Go.Proofs.YtjpalbonclgflaaGreat
namespace T
theorem tri (x y : Rat) : x < y ∨ x = y ∨ y < x := by grind
def sg (x : Rat) : Int := if x < 0 then -1 else if x = 0 then 0 else 1
theorem sg_neg {x : Rat} (h : x < 0) : sg x = -1 := if_pos h
theorem sg_pos {x : Rat} (h : 0 < x) : sg x = 1 := by unfold sg; grind
theorem sg_zero : sg 0 = 0 := by unfold sg; grind
theorem sg_mul_pos {c x : Rat} (h : 0 < c) : sg (c * x) = sg x := by
 rcases tri x 0 with h1 | h1 | h1
 ·
  have := Rat.mul_pos h (show 0 < -x by grind)
  rw [sg_neg h1, sg_neg (by grind)]
 ·
  rw [h1, Rat.mul_zero]
 ·
  rw [sg_pos h1, sg_pos (Rat.mul_pos h h1)]
def varS : Int → List Int → Nat
 | _, [] => 0
 | a, s :: l => if s = 0 then varS a l else (if a ≠ 0 ∧ s ≠ a then 1 else 0) + varS s l
def sgs (x : Rat) (l : List (Rat → Rat)) : List Int := l.map fun f => sg (f x)
def Pos (f : Rat → Rat) : Prop := ∀ R, ∃ e, 0 < e ∧ ∀ x, In R x → e ≤ ab (f x)
def Rel (f g h : Rat → Rat) : Prop := ∃ (q : Rat → Rat) (a b : Rat), P q ∧ 0 < a ∧ 0 < b ∧ ∀ x, a * f x = q x * g x - b * h x
inductive Ch : (Rat → Rat) → List (Rat → Rat) → Prop
 | one {f : Rat → Rat} : P f → Pos f → Ch f []
 | two {f g : Rat → Rat} : P f → Ch g [] → Ch f [g]
 | more {f g h : Rat → Rat} {l : List (Rat → Rat)} : P f → Rel f g h → Ch g (h :: l) → Ch f (g :: h :: l)
theorem half_pos {x : Rat} (h : 0 < x) : 0 < x / 2 := by grind
theorem div_pos {x y : Rat} (h : 0 < x) (k : 0 < y) : 0 < x / y := by
 rw [Rat.div_def]; exact Rat.mul_pos h (Rat.inv_pos.2 k)
theorem div_mul_le {x y z : Rat} (hz : 0 < z) (h : y ≤ x / z) : y * z ≤ x := by
 have h1 := Rat.mul_le_mul_of_nonneg_right h (Rat.le_of_lt hz)
 have e : x / z * z = x := Rat.div_mul_cancel (by grind)
 rwa [e] at h1
theorem keep_sign {R L d n : Rat} {f : Rat → Rat} (hL : Lip R f L) (hd : d * (L + 1) ≤ n / 2) (hn : 0 < n) {x y : Rat} (hx : In R x) (hy : In R y) (h : ab (y - x) ≤ d) (hb : n ≤ ab (f x)) :
  sg (f y) = sg (f x) ∧ n / 2 ≤ ab (f y) ∧ 0 < f x * f y := by
 have h1 := hL.2 x y hx hy
 have h2 : ab (y - x) * L ≤ d * (L + 1) := mul_le h (by grind) hL.1 (by have := ab_nonneg (y - x); grind)
 have h3 := le_ab (f y - f x)
 have h4 := neg_le_ab (f y - f x)
 have h5 : L * ab (y - x) ≤ n / 2 := by grind
 rcases @Rat.le_total 0 (f x) with h0 | h0
 ·
  rw [ab_pos h0] at hb
  have : 0 < f y := by grind
  refine ⟨by rw [sg_pos this, sg_pos (by grind)], by rw [ab_pos (by grind)]; grind, Rat.mul_pos (by grind) this⟩
 ·
  rw [ab_npos h0] at hb
  have : f y < 0 := by grind
  have h7 := Rat.mul_pos (show 0 < - f x by grind) (show 0 < - f y by grind)
  refine ⟨by rw [sg_neg this, sg_neg (by grind)], by rw [ab_npos (by grind)]; grind, by grind⟩
theorem P.keep {f : Rat → Rat} (h : P f) (R : Rat) {n : Rat} (hn : 0 < n) : ∃ d, 0 < d ∧ ∀ x y, In R x → In R y → ab (y - x) ≤ d → n ≤ ab (f x) → sg (f y) = sg (f x) ∧ n / 2 ≤ ab (f y) ∧ 0 < f x * f y := by
 obtain ⟨L, hL⟩ := h.lip R
 have hL1 : 0 < L + 1 := by have := hL.1; grind
 refine ⟨n / 2 / (L + 1), div_pos (half_pos hn) hL1, fun x y hx hy h1 h2 => keep_sign hL ?_ hn hx hy h1 h2⟩
 exact div_mul_le hL1 Rat.le_refl
theorem sg_ne {x n : Rat} (hn : 0 < n) (h : n ≤ ab x) : sg x ≠ 0 := by
 unfold ab at h
 unfold sg
 split at h
 ·
  split
  ·
   simp
  ·
   split
   ·
    grind
   ·
    simp
 ·
  split
  ·
   simp
  ·
   grind
def Big (f : Rat → Rat) (l : List (Rat → Rat)) : Prop := ∀ R n, 0 < n → ∃ d, 0 < d ∧ ∀ x y, In R x → In R y → ab (y - x) ≤ d → n ≤ ab (f x) → sg (f y) = sg (f x) ∧ varS (sg (f y)) (sgs y l) = varS (sg (f x)) (sgs x l)
theorem sg_cases (x : Rat) : sg x = -1 ∨ sg x = 0 ∨ sg x = 1 := by
 unfold sg; split
 ·
  exact .inl rfl
 ·
  split
  ·
   exact .inr (.inl rfl)
  ·
   exact .inr (.inr rfl)
theorem varS_skip {s t : Int} (l : List Int) (hs : s = -1 ∨ s = 1) (ht : t = -1 ∨ t = 0 ∨ t = 1) : varS s (t :: -s :: l) = 1 + varS (-s) l := by
 rcases hs with rfl | rfl <;> rcases ht with rfl | rfl | rfl <;> simp [varS]
theorem min_pos {x y : Rat} (h : 0 < x) (k : 0 < y) : ∃ z, 0 < z ∧ z ≤ x ∧ z ≤ y := by
 rcases @Rat.le_total x y with h1 | h1
 ·
  exact ⟨x, h, Rat.le_refl, h1⟩
 ·
  exact ⟨y, k, h1, Rat.le_refl⟩
theorem rel_opp {R Q a b n : Rat} {f g h q : Rat → Rat} (hQ : Bd R q Q) (ha : 0 < a) (hb : 0 < b) (hr : ∀ x, a * f x = q x * g x - b * h x) (hn : 0 < n) {x : Rat} (hx : In R x) (hf : n ≤ ab (f x)) (hg : ab (g x) * (Q + 1) ≤ a * n / 2) :
  sg (h x) = - sg (f x) ∧ a * n / 2 / b ≤ ab (h x) := by
 have h1 := hr x
 have h2 : ab (q x * g x) ≤ ab (g x) * (Q + 1) := by
  rw [ab_mul, Rat.mul_comm (ab (q x))]
  exact mul_le Rat.le_refl (by have := hQ.2 x hx; grind) (ab_nonneg _) (ab_nonneg _)
 have h3 := le_ab (q x * g x)
 have h4 := neg_le_ab (q x * g x)
 have han := Rat.mul_pos ha hn
 have hbe : b * (a * n / 2 / b) = a * n / 2 := by rw [Rat.mul_comm]; exact Rat.div_mul_cancel (by grind)
 have hcan : ∀ y, a * n / 2 ≤ b * y → a * n / 2 / b ≤ y := fun y hy => by
  rw [← hbe] at hy
  exact Rat.le_of_mul_le_mul_left hy hb
 rcases @Rat.le_total 0 (f x) with h0 | h0
 ·
  rw [ab_pos h0] at hf
  have h5 : a * n ≤ a * f x := Rat.mul_le_mul_of_nonneg_left hf (Rat.le_of_lt ha)
  have h6 : a * n / 2 ≤ b * (- h x) := by grind
  have h7 := hcan _ h6
  have h8 := div_pos (half_pos han) hb
  rw [sg_pos (show 0 < f x by grind), sg_neg (show h x < 0 by grind)]
  exact ⟨rfl, Rat.le_trans h7 (neg_le_ab _)⟩
 ·
  rw [ab_npos h0] at hf
  have h5 : a * n ≤ a * (- f x) := Rat.mul_le_mul_of_nonneg_left hf (Rat.le_of_lt ha)
  have h6 : a * n / 2 ≤ b * h x := by grind
  have h7 := hcan _ h6
  have h8 := div_pos (half_pos han) hb
  rw [sg_neg (show f x < 0 by grind), sg_pos (show 0 < h x by grind)]
  exact ⟨rfl, Rat.le_trans h7 (le_ab _)⟩
theorem big_cons {f g : Rat → Rat} {l : List (Rat → Rat)} {x y : Rat} (hs : sg (f y) = sg (f x)) (h1 : sg (g y) = sg (g x) ∧ varS (sg (g y)) (sgs y l) = varS (sg (g x)) (sgs x l)) (h2 : sg (g x) ≠ 0) :
  varS (sg (f y)) (sgs y (g :: l)) = varS (sg (f x)) (sgs x (g :: l)) := by
 show varS _ (sg (g y) :: sgs y l) = varS _ (sg (g x) :: sgs x l)
 rw [varS, varS, if_neg (by rw [h1.1]; exact h2), if_neg h2, h1.2, hs, h1.1]
def Tl : List (Rat → Rat) → Prop
 | [] => True
 | g :: l => Big g l
theorem Ch.big {f : Rat → Rat} {l : List (Rat → Rat)} (h : Ch f l) : P f ∧ Big f l ∧ Tl l := by
 induction h with
 | one hp _ =>
  refine ⟨hp, fun R n hn => ?_, trivial⟩
  obtain ⟨d, d0, hd⟩ := hp.keep R hn
  exact ⟨d, d0, fun x y hx hy h1 h2 => ⟨(hd x y hx hy h1 h2).1, rfl⟩⟩
 | two hp hg ih =>
  rename_i f g
  refine ⟨hp, fun R n hn => ?_, ih.2.1⟩
  obtain ⟨d, d0, hd⟩ := hp.keep R hn
  cases hg with
  | one _ hpos =>
   obtain ⟨e, e0, he⟩ := hpos R
   obtain ⟨d2, d20, hd2⟩ := ih.2.1 R e e0
   obtain ⟨z, z0, z1, z2⟩ := min_pos d0 d20
   refine ⟨z, z0, fun x y hx hy h1 h2 => ?_⟩
   have k1 := (hd x y hx hy (by grind) h2).1
   refine ⟨k1, big_cons k1 (hd2 x y hx hy (by grind) (he x hx)) (sg_ne e0 (he x hx))⟩
 | more hp hr hg ih =>
  rename_i f g h l
  refine ⟨hp, fun R n hn => ?_, ih.2.1⟩
  obtain ⟨d, d0, hd⟩ := hp.keep R hn
  obtain ⟨q, a, b, hq, ha, hb, hrel⟩ := hr
  obtain ⟨Q, hQ⟩ := hq.bd R
  have hQ1 : 0 < Q + 1 := by have := hQ.1; grind
  have han := half_pos (Rat.mul_pos ha hn)
  have hm : 0 < a * n / 2 / (Q + 1) := div_pos han hQ1
  have hm2 : 0 < a * n / 2 / b := div_pos han hb
  obtain ⟨d1, d10, hd1⟩ := ih.2.1 R _ hm
  obtain ⟨d2, d20, hd2⟩ := ih.2.2 R _ hm2
  obtain ⟨z, z0, z1, z2⟩ := min_pos d0 d10
  obtain ⟨z', z0', z1', z2'⟩ := min_pos z0 d20
  have hm3 := half_pos hm
  obtain ⟨Lg, hLg⟩ := ih.1.lip R
  have hL1 : 0 < Lg + 1 := by have := hLg.1; grind
  have hn2 := half_pos hn
  have hm' : 0 < a * (n / 2) / 2 / (Q + 1) := div_pos (half_pos (Rat.mul_pos ha hn2)) hQ1
  have hdg := div_pos hm hL1
  obtain ⟨d3, d30, hd3⟩ := ih.2.1 R _ (half_pos hm')
  obtain ⟨d4, d40, hd4⟩ := ih.2.2 R _ (div_pos (half_pos (Rat.mul_pos ha hn2)) hb)
  obtain ⟨u, u0, u1, u2⟩ := min_pos d30 d40
  obtain ⟨v, v0, v1, v2⟩ := min_pos u0 d0
  obtain ⟨s, s0, s1, s2⟩ := min_pos v0 (div_pos (half_pos hm') hL1)
  refine ⟨s, s0, fun x y hx hy h1 h2 => ?_⟩
  have k1 := hd x y hx hy (by grind) h2
  refine ⟨k1.1, ?_⟩
  rcases @Rat.le_total (a * (n / 2) / 2 / (Q + 1) / 2) (ab (g x)) with c | c
  ·
   exact big_cons k1.1 (hd3 x y hx hy (by grind) c) (sg_ne (half_pos hm') c)
  ·
   have e1 : ab (g x) ≤ a * (n / 2) / 2 / (Q + 1) := by grind
   have e2 : ab (g y) ≤ a * (n / 2) / 2 / (Q + 1) := by
    have t1 := hLg.2 x y hx hy
    have t2 := ab_add (g x) (g y - g x)
    have t3 : g x + (g y - g x) = g y := by grind
    rw [t3] at t2
    have t4 : ab (y - x) * (Lg + 1) ≤ a * (n / 2) / 2 / (Q + 1) / 2 := div_mul_le hL1 (by grind)
    have t5 := ab_nonneg (y - x)
    grind
   have o1 := rel_opp hQ ha hb hrel hn2 hx (by grind) (div_mul_le hQ1 e1)
   have o2 := rel_opp hQ ha hb hrel hn2 hy (by exact k1.2.1) (div_mul_le hQ1 e2)
   have k4 := hd4 x y hx hy (by grind) o1.2
   have hs : ∀ z m, 0 < m → m ≤ ab (f z) → sg (f z) = -1 ∨ sg (f z) = 1 := fun z m m0 hz => by
    rcases sg_cases (f z) with h | h | h
    ·
     exact .inl h
    ·
     exact absurd h (sg_ne m0 hz)
    ·
     exact .inr h
   show varS _ (sg (g y) :: sg (h y) :: sgs y l) = varS _ (sg (g x) :: sg (h x) :: sgs x l)
   rw [o1.1, o2.1, varS_skip _ (hs y _ hn2 k1.2.1) (sg_cases _), varS_skip _ (hs x _ hn h2) (sg_cases _), ← o1.1, ← o2.1, k4.2]
def cell (f : Rat → Rat) (x y : Rat) : Int := if f x ≠ 0 ∧ f x * f y ≤ 0 then 1 else 0
theorem cell_zero {f : Rat → Rat} {x y : Rat} (h : 0 < f x * f y) : cell f x y = 0 := by
 unfold cell; rw [if_neg]; intro h2; grind
def V (l : List (Rat → Rat)) (x : Rat) : Nat := varS 0 (sgs x l)
def Loc (N : Rat → Rat → Int) (f : Rat → Rat) : Prop := ∀ R, ∃ d, 0 < d ∧ ∀ x y, In R x → In R y → x ≤ y → y - x ≤ d → N x y = cell f x y
def Cop (f g : Rat → Rat) : Prop := ∀ R, ∃ e, 0 < e ∧ ∀ x, In R x → e ≤ ab (f x) + ab (g x)
theorem loc_one {f : Rat → Rat} (hp : P f) (h : Pos f) : Loc (fun x y => (V [f] x : Int) - (V [f] y : Int)) f := fun R => by
 obtain ⟨e, e0, he⟩ := h R
 obtain ⟨d, d0, hd⟩ := hp.keep R e0
 refine ⟨d, d0, fun x y hx hy h1 h2 => ?_⟩
 have k := hd x y hx hy (by rw [ab_pos (by grind)]; exact h2) (he x hx)
 rw [cell_zero k.2.2]
 show ((varS 0 [sg (f x)] : Nat) : Int) - (varS 0 [sg (f y)] : Nat) = 0
 rw [k.1]; omega
theorem cell_pos {f : Rat → Rat} {x y : Rat} (h : f x ≤ f y) : cell f x y = (if f x < 0 then 1 else 0) - (if f y < 0 then 1 else 0) := by
 unfold cell
 rcases tri (f x) 0 with a | a | a
 ·
  rcases tri (f y) 0 with b | b | b
  ·
   have := Rat.mul_pos (show 0 < - f x by grind) (show 0 < - f y by grind)
   rw [if_neg (by grind), if_pos a, if_pos b]; rfl
  ·
   rw [b, Rat.mul_zero, if_pos ⟨by grind, Rat.le_refl⟩, if_pos a, if_neg (by grind)]; rfl
  ·
   have := Rat.mul_pos (show 0 < - f x by grind) b
   rw [if_pos ⟨by grind, by grind⟩, if_pos a, if_neg (by grind)]; rfl
 ·
  rw [if_neg (by grind), if_neg (by grind), if_neg (by grind)]; rfl
 ·
  have := Rat.mul_pos a (show 0 < f y by grind)
  rw [if_neg (by grind), if_neg (by grind), if_neg (by grind)]; rfl
theorem cell_neg {f : Rat → Rat} {x y : Rat} (h : f y ≤ f x) : cell f x y = (if 0 < f x then 1 else 0) - (if 0 < f y then 1 else 0) := by
 have h2 := cell_pos (f := fun x => - f x) (x := x) (y := y) (by grind)
 have e1 : cell (fun x => - f x) x y = cell f x y := by
  unfold cell
  have e2 : ∀ z : Rat, (- z = 0) ↔ z = 0 := by intro z; grind
  have e3 : - f x * - f y = f x * f y := by grind
  simp only [ne_eq, e2, e3]
 rw [← e1, h2]
 have e4 : ∀ z : Rat, (- z < 0) ↔ 0 < z := by intro z; grind
 simp only [e4]
theorem rise {R C e d k : Rat} {f f1 f' : Rat → Rat} (hC : Dv R f f' C) (hk : 0 < k) (hf : ∀ x, f' x = k * f1 x) (he : 0 < e) (hd : d * (C + 1) ≤ k * e / 2) {x y : Rat} (hx : In R x) (hy : In R y) (h1 : x < y) (h2 : y - x ≤ d) (hb : e ≤ ab (f1 x)) :
  (0 < f1 x ∧ f x < f y) ∨ (f1 x < 0 ∧ f y < f x) := by
 have c1 := hC.2 x y hx hy
 have e0 : ab (y - x) = y - x := ab_pos (by grind)
 rw [e0, hf x] at c1
 have hyx : 0 < y - x := by grind
 have c2 := le_ab (f y - f x - (y - x) * (k * f1 x))
 have c3 := neg_le_ab (f y - f x - (y - x) * (k * f1 x))
 have hke := Rat.mul_pos hk he
 have c4 : (y - x) * (C + 1) ≤ k * e / 2 := Rat.le_trans (Rat.mul_le_mul_of_nonneg_right h2 (by have := hC.1; grind)) hd
 have c5 : (y - x) * ((y - x) * (C + 1)) ≤ (y - x) * (k * e / 2) := Rat.mul_le_mul_of_nonneg_left c4 (Rat.le_of_lt hyx)
 have c6 := Rat.mul_pos hyx hke
 have c7 := Rat.mul_pos hyx hyx
 rcases @Rat.le_total 0 (f1 x) with h0 | h0
 ·
  rw [ab_pos h0] at hb
  have c8 : (y - x) * (k * e) ≤ (y - x) * (k * f1 x) := Rat.mul_le_mul_of_nonneg_left (Rat.mul_le_mul_of_nonneg_left hb (Rat.le_of_lt hk)) (Rat.le_of_lt hyx)
  exact .inl ⟨by grind, by grind⟩
 ·
  rw [ab_npos h0] at hb
  have c8 : (y - x) * (k * e) ≤ (y - x) * (k * - f1 x) := Rat.mul_le_mul_of_nonneg_left (Rat.mul_le_mul_of_nonneg_left hb (Rat.le_of_lt hk)) (Rat.le_of_lt hyx)
  exact .inr ⟨by grind, by grind⟩
theorem varS_one {s : Int} (l : List Int) (hs : s ≠ 0) : varS 0 (s :: l) = varS s l := by
 rw [varS, if_neg hs]; simp
theorem varS_two {s t : Int} (l : List Int) (ht : t ≠ 0) : varS 0 (s :: t :: l) = (if s ≠ 0 ∧ t ≠ s then 1 else 0) + varS t l := by
 simp only [varS, if_neg ht]
 by_cases hs : s = 0
 ·
  subst hs; simp
 ·
  simp [hs]
theorem loc_more {f f1 f' : Rat → Rat} {l : List (Rat → Rat)} {k : Rat} (hc : Ch f (f1 :: l)) (hD : D f f') (hk : 0 < k) (hf : ∀ x, f' x = k * f1 x) (hcop : Cop f f1) :
  Loc (fun x y => (V (f :: f1 :: l) x : Int) - (V (f :: f1 :: l) y : Int)) f := fun R => by
 obtain ⟨e, e0, he⟩ := hcop R
 obtain ⟨hp, hB, hB1⟩ := hc.big
 obtain ⟨C, hC⟩ := hD.dv R
 have hC1 : 0 < C + 1 := by have := hC.1; grind
 have e2 := half_pos e0
 obtain ⟨d0, d00, hd0⟩ := hp.keep R e2
 obtain ⟨d1, d10, hd1⟩ := hB R _ e2
 obtain ⟨d2, d20, hd2⟩ := hB1 R _ e2
 have hd3 := div_pos (half_pos (Rat.mul_pos hk e2)) hC1
 obtain ⟨u, u0, u1, u2⟩ := min_pos d00 d10
 obtain ⟨v, v0, v1, v2⟩ := min_pos u0 d20
 obtain ⟨s, s0, s1, s2⟩ := min_pos v0 hd3
 refine ⟨s, s0, fun x y hx hy h1 h2 => ?_⟩
 have hab : ab (y - x) = y - x := ab_pos (by grind)
 show ((varS 0 (sg (f x) :: sg (f1 x) :: sgs x l) : Nat) : Int) - (varS 0 (sg (f y) :: sg (f1 y) :: sgs y l) : Nat) = _
 rcases @Rat.le_total (e / 2) (ab (f x)) with c | c
 ·
  have k1 := hd0 x y hx hy (by grind) c
  have k2 := hd1 x y hx hy (by grind) c
  have n1 := sg_ne e2 c
  rw [cell_zero k1.2.2, varS_one _ n1, varS_one _ (by rw [k1.1]; exact n1)]
  have k3 : varS (sg (f y)) (sg (f1 y) :: sgs y l) = varS (sg (f x)) (sg (f1 x) :: sgs x l) := k2.2
  rw [k3]; omega
 ·
  have c1 : e / 2 ≤ ab (f1 x) := by have := he x hx; grind
  have k2 := hd2 x y hx hy (by grind) c1
  have n1 := sg_ne e2 c1
  rw [varS_two _ n1, varS_two _ (by rw [k2.1]; exact n1), k2.2, k2.1]
  by_cases hxy : x = y
  ·
   subst hxy
   have : cell f x x = 0 := by
    unfold cell; rw [if_neg]; rintro ⟨a1, a2⟩
    rcases tri (f x) 0 with a | a | a
    ·
     have := Rat.mul_pos (show 0 < - f x by grind) (show 0 < - f x by grind); grind
    ·
     exact a1 a
    ·
     have := Rat.mul_pos a a; grind
   rw [this]; omega
  ·
   have hlt : x < y := by grind
   rcases rise hC hk hf e2 (div_mul_le hC1 Rat.le_refl) hx hy hlt (by grind) c1 with ⟨r1, r2⟩ | ⟨r1, r2⟩
   ·
    rw [cell_pos (Rat.le_of_lt r2), sg_pos r1]
    have hv : ∀ z : Rat, (if sg z ≠ 0 ∧ (1 : Int) ≠ sg z then 1 else 0 : Nat) = if z < 0 then 1 else 0 := fun z => by
     rcases tri z 0 with a | a | a
     ·
      rw [sg_neg a, if_pos (by decide), if_pos a]
     ·
      rw [a, sg_zero, if_neg (by simp), if_neg (by grind)]
     ·
      rw [sg_pos a, if_neg (by simp), if_neg (by grind)]
    rw [hv, hv]
    split <;> split <;> omega
   ·
    rw [cell_neg (Rat.le_of_lt r2), sg_neg r1]
    have hv : ∀ z : Rat, (if sg z ≠ 0 ∧ (-1 : Int) ≠ sg z then 1 else 0 : Nat) = if 0 < z then 1 else 0 := fun z => by
     rcases tri z 0 with a | a | a
     ·
      rw [sg_neg a, if_neg (by simp), if_neg (by grind)]
     ·
      rw [a, sg_zero, if_neg (by simp), if_neg (by grind)]
     ·
      rw [sg_pos a, if_pos (by decide), if_pos a]
    rw [hv, hv]
    split <;> split <;> omega
end T
end Go.Proofs.YtjpalbonclgflaaGreat


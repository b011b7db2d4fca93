/- Contracts and plain laws of several functions, one after the other: Shelf, Len, NBits. -/
import Derived.Shelf.Small.Bits
import Derived.Shelf.Strconv.Itoa0
import Derived.Ground.Names2Prog
import Derived.Shelf.Slices.SearchI
import Derived.Test.YthpgeeaccmgbkaaProg
import Derived.Test.YthpgeeaccmgbkaaMulI
import Derived.Test.YthpgeeaccmgbkaaIntB
import Derived.Test.YthpgeeaccmgbkaaPart15
/-
  DERIVED: THE SHELF's CONTRACTS AT THIS DUMP, IN PLAIN WORDS (tools/lay-plain.mjs out of 'TryShelf.lean', which tools/lay-shelf.mjs wrote): THE SAME DECLARATIONS UNDER THE SAME NAMES: 'import', 'namespace', 'open', 'def', 'theorem' AND NOTHING ELSE: no command of the shelf's: FOR A HAND-IN. Each laying: the table of numbers ('.._ren') and one theorem, a field a fact of the dump's own or the kernel's comparison; each contract: ONE APPLICATION.
-/
namespace Go.Proofs
open Go.Shelf
def Try.lays128_ren : Go.Shelf.Ren := ⟨fun | 128 => 90 | n => n, fun | 51 => 59 | 3 => 3 | 4 => 4 | 46 => 60 | 5 => 5 | 9 => 9 | n => n, fun | n => n⟩
theorem Try.lays128 : Go.Proofs.Lays.n128 Try.prog Try.lays128_ren := {
  mixed := by kernel_rfl
  f128 := Try.func90.trans (congrArg some (by kernel_rfl))
  t3 := Try.underlying3
  a3 := Try.isAgg3
  z3 := Try.sizeOf3
  v3 := Try.zeroValue3
  t4 := Try.underlying4
  a4 := Try.isAgg4
  z4 := Try.sizeOf4
  v4 := Try.zeroValue4
  t5 := Try.underlying5
  a5 := Try.isAgg5
  z5 := Try.sizeOf5
  v5 := Try.zeroValue5
  t9 := Try.underlying9
  a9 := Try.isAgg9
  z9 := Try.sizeOf9
  v9 := Try.zeroValue9
  t46 := Try.underlying60
  a46 := Try.isAgg60
  z46 := Try.sizeOf60
  v46 := Try.zeroValue60
  t51 := Try.underlying59
  a51 := Try.isAgg59
  z51 := Try.sizeOf59
  v51 := Try.zeroValue59 }
/-- bits.Len32: "Len32 returns the minimum number of bits required to represent x; the result is 0 for x == 0.": IT RETURNS 'Lib.bitLen x'; the world is as it was. ('h0', 'h1': x is a uint32.) (LAID: no walk: one application.) -/
theorem Try.bits_Len32 (x : Int) (w : World) (h0 : 0 ≤ x) (h1 : x ≤ 4294967295) :
    Calls Try.prog 90 #[.int .u32 x] w fun e w' => e = .returned (.int .i64 (Lib.bitLen x.toNat)) ∧ w' = w := Any.bits_Len32 Try.lays128 x w h0 h1
def Try.lays125_ren : Go.Shelf.Ren := ⟨fun | 125 => 93 | 128 => 90 | 129 => 108 | n => n, fun | 46 => 60 | 3 => 3 | 51 => 59 | 53 => 57 | 4 => 4 | 5 => 5 | 9 => 9 | n => n, fun | n => n⟩
theorem Try.lays125 : Go.Proofs.Lays.n125 Try.prog Try.lays125_ren := {
  mixed := by kernel_rfl
  f125 := Try.func93.trans (congrArg some (by kernel_rfl))
  f128 := Try.func90.trans (congrArg some (by kernel_rfl))
  f129 := Try.func108.trans (congrArg some (by kernel_rfl))
  t3 := Try.underlying3
  a3 := Try.isAgg3
  z3 := Try.sizeOf3
  v3 := Try.zeroValue3
  t4 := Try.underlying4
  a4 := Try.isAgg4
  z4 := Try.sizeOf4
  v4 := Try.zeroValue4
  t5 := Try.underlying5
  a5 := Try.isAgg5
  z5 := Try.sizeOf5
  v5 := Try.zeroValue5
  t9 := Try.underlying9
  a9 := Try.isAgg9
  z9 := Try.sizeOf9
  v9 := Try.zeroValue9
  t46 := Try.underlying60
  a46 := Try.isAgg60
  z46 := Try.sizeOf60
  v46 := Try.zeroValue60
  t51 := Try.underlying59
  a51 := Try.isAgg59
  z51 := Try.sizeOf59
  v51 := Try.zeroValue59
  t53 := Try.underlying57
  a53 := Try.isAgg57
  z53 := Try.sizeOf57
  v53 := Try.zeroValue57 }
/-- bits.Len: "Len returns the minimum number of bits required to represent x; the result is 0 for x == 0.": IT RETURNS 'Lib.bitLen x'; the world is as it was. (A uint has 64 bits in the model.) ITS CALLEE bits.Len64 IS MET BY ITS OWN CONTRACT OFF THE SHELF (lay that first). (LAID: no walk: one application.) -/
theorem Try.bits_Len (x : Int) (w : World) (h0 : 0 ≤ x) (h1 : x ≤ 18446744073709551615) :
    Calls Try.prog 93 #[.int .u64 x] w fun e w' => e = .returned (.int .i64 (Lib.bitLen x.toNat)) ∧ w' = w := Any.bits_Len Try.lays125 x w h0 h1
def Try.lays133_ren : Go.Shelf.Ren := ⟨fun | 133 => 81 | 128 => 90 | n => n, fun | 51 => 59 | 3 => 3 | 4 => 4 | 46 => 60 | 5 => 5 | 9 => 9 | n => n, fun | n => n⟩
theorem Try.lays133 : Go.Proofs.Lays.n133 Try.prog Try.lays133_ren := {
  mixed := by kernel_rfl
  f128 := Try.func90.trans (congrArg some (by kernel_rfl))
  f133 := Try.func81.trans (congrArg some (by kernel_rfl))
  t3 := Try.underlying3
  a3 := Try.isAgg3
  z3 := Try.sizeOf3
  v3 := Try.zeroValue3
  t4 := Try.underlying4
  a4 := Try.isAgg4
  z4 := Try.sizeOf4
  v4 := Try.zeroValue4
  t5 := Try.underlying5
  a5 := Try.isAgg5
  z5 := Try.sizeOf5
  v5 := Try.zeroValue5
  t9 := Try.underlying9
  a9 := Try.isAgg9
  z9 := Try.sizeOf9
  v9 := Try.zeroValue9
  t46 := Try.underlying60
  a46 := Try.isAgg60
  z46 := Try.sizeOf60
  v46 := Try.zeroValue60
  t51 := Try.underlying59
  a51 := Try.isAgg59
  z51 := Try.sizeOf59
  v51 := Try.zeroValue59 }
/-- bits.LeadingZeros32: "LeadingZeros32 returns the number of leading zero bits in x; the result is 32 for x == 0.": IT RETURNS '32 - Lib.bitLen x'; the world is as it was. ITS CALLEE bits.Len32 IS MET BY ITS OWN CONTRACT OFF THE SHELF (lay that first): entered in place it sends the kernel out of memory. (LAID: no walk: one application.) -/
theorem Try.bits_LeadingZeros32 (x : Int) (w : World) (h0 : 0 ≤ x) (h1 : x ≤ 4294967295) :
    Calls Try.prog 81 #[.int .u32 x] w fun e w' => e = .returned (.int .i64 (32 - (Lib.bitLen x.toNat : Int))) ∧ w' = w := Any.bits_LeadingZeros32 Try.lays133 x w h0 h1
def Try.lays129_ren : Go.Shelf.Ren := ⟨fun | 129 => 108 | n => n, fun | 53 => 57 | 3 => 3 | 4 => 4 | 46 => 60 | 5 => 5 | 9 => 9 | n => n, fun | n => n⟩
theorem Try.lays129 : Go.Proofs.Lays.n129 Try.prog Try.lays129_ren := {
  mixed := by kernel_rfl
  f129 := Try.func108.trans (congrArg some (by kernel_rfl))
  t3 := Try.underlying3
  a3 := Try.isAgg3
  z3 := Try.sizeOf3
  v3 := Try.zeroValue3
  t4 := Try.underlying4
  a4 := Try.isAgg4
  z4 := Try.sizeOf4
  v4 := Try.zeroValue4
  t5 := Try.underlying5
  a5 := Try.isAgg5
  z5 := Try.sizeOf5
  v5 := Try.zeroValue5
  t9 := Try.underlying9
  a9 := Try.isAgg9
  z9 := Try.sizeOf9
  v9 := Try.zeroValue9
  t46 := Try.underlying60
  a46 := Try.isAgg60
  z46 := Try.sizeOf60
  v46 := Try.zeroValue60
  t53 := Try.underlying57
  a53 := Try.isAgg57
  z53 := Try.sizeOf57
  v53 := Try.zeroValue57 }
/-- bits.Len64: "Len64 returns the minimum number of bits required to represent x; the result is 0 for x == 0.": IT RETURNS 'Lib.bitLen x'; the world is as it was. ('h0', 'h1': x is a uint64.) (LAID: no walk: one application.) -/
theorem Try.bits_Len64 (x : Int) (w : World) (h0 : 0 ≤ x) (h1 : x ≤ 18446744073709551615) :
    Calls Try.prog 108 #[.int .u64 x] w fun e w' => e = .returned (.int .i64 (Lib.bitLen x.toNat)) ∧ w' = w := Any.bits_Len64 Try.lays129 x w h0 h1
def Try.laysNm237_ren : Go.Shelf.Ren := ⟨fun | 37 => 109 | n => n, fun | 3 => 3 | 4 => 4 | n => n, fun | n => n⟩
theorem Try.laysNm237 : Go.Proofs.Lays2.n37 Try.prog Try.laysNm237_ren := {
  mixed := by kernel_rfl
  f37 := Try.func109.trans (congrArg some (by kernel_rfl))
  t3 := Try.underlying3
  a3 := Try.isAgg3
  z3 := Try.sizeOf3
  v3 := Try.zeroValue3
  t4 := Try.underlying4
  a4 := Try.isAgg4
  z4 := Try.sizeOf4
  v4 := Try.zeroValue4 }
open Go.RowKit Go.Lib in
/-- cmp.isNaN[int]: 'x != x': false. (LAID: no walk: one application.) -/
theorem Try.cmp_isNaN_int2 (x : Int) (w : World) :
    Calls Try.prog 109 #[.int .i64 x] w fun e w' => e = .returned (.bool false) ∧ w' = w := Any.cmp_isNaN_int2 Try.laysNm237 x w
end Go.Proofs

/- integer.length, Bits. -/
namespace Go.Proofs.Ythpgeeaccmgbkaa
open Go.RowKit

/-- The bits of a number. -/
def lenB (x : Nat) : Int := if x = 0 then 0 else 32 * (((dg x).length : Int) - 1) + (Lib.bitLen (dig x ((dg x).length - 1)) : Int)
set_option maxRecDepth 100000 in
set_option maxHeartbeats 1600000 in
/-- integer.length. -/
theorem length_any (x : Nat) (vx : Value) (w : World) (hx : Row w vx (dg x).length (cs32 (dg x))) (hb : (dg x).length ≤ 100000000000) :
    Calls Try.prog 72 #[vx] w (Ret w (.int .i64 (lenB x))) := by
  obtain ⟨ax, cx, rfl, hlx⟩ := hx.slice
  obtain ⟨m, hm⟩ : ∃ m, m = (dg x).length := ⟨_, rfl⟩
  rw [← hm] at hx hlx hb ⊢
  by_cases hm0 : m = 0
  · subst hm0
    have hz : lenB x = 0 := by rw [lenB, if_pos (dg_nil (List.length_eq_zero_iff.1 hm.symm))]
    have HZ := Lib.hid hz; clear hz
    clear hm hx
    go_enter Try.func72, Try.ntmps72
    go_wp2_with fail
    go_ret
    exact ⟨Below.refl _ _, by rw [HZ.out]; rfl⟩
  · have hmb : ((m : Int) == 0) = false := by simp; omega
    have hx0 : ¬ x = 0 := fun e => hm0 (by rw [hm, e, dg_zero]; rfl)
    have hz : lenB x = 32 * ((m : Int) - 1) + (Lib.bitLen (dig x (m - 1)) : Int) := by rw [lenB, if_neg hx0, ← hm]
    have HZ := Lib.hid hz; clear hz
    obtain ⟨k, rfl⟩ : ∃ k, m = k + 1 := ⟨m - 1, by omega⟩
    obtain ⟨bx, ox, rfl, hbx, hcx⟩ := hx.at_ (by omega)
    have c1 := hcx k _ (cs32_get (dg_get x k (by rw [← hm]; omega)))
    obtain ⟨d, hd⟩ : ∃ d, d = dig x k := ⟨_, rfl⟩
    have hd32 : d < 4294967296 := by rw [hd]; exact dig_lt _ _
    rw [← hd] at c1
    have hbl := fun w' => Try.bits_Len32 (d : Int) w' (by omega) (by omega)
    rw [Int.toNat_natCast] at hbl
    obtain ⟨q, hq⟩ : ∃ q, q = Lib.bitLen d := ⟨_, rfl⟩
    have hq32 : q ≤ 32 := by
      rw [hq]
      exact Lib.bitLen_le d 32 (by omega) (by omega)
    rw [← hq] at hbl
    have HBL := Lib.hid hbl; clear hbl
    have HD := Lib.hid hd; clear hd
    have HQ := Lib.hid hq; clear hq
    have HM := Lib.hid hm; clear hm
    clear hx hcx hmb hx0 hm0 hbx
    have hki : (((k + 1 : Nat) : Int) == 0) = false := by simp; omega
    have hk1 : ((k + 1 : Nat) : Int) - 1 = (k : Int) := by omega
    go_enter Try.func72, Try.ntmps72
    go_wp2_with (go_at_call 90; refine (HBL.out _).mono ?_; rintro e w' ⟨rfl, rfl⟩)
    go_ret
    exact ⟨Below.refl _ _, by rw [HZ.out, Nat.add_sub_cancel, ← HD.out, ← HQ.out]; exact ret_int (by omega)⟩
end Go.Proofs.Ythpgeeaccmgbkaa

/- integer.Bits at small numbers. -/
namespace Go.Proofs.Ythpgeeaccmgbkaa
open Go.RowKit

def BitsRet (w : World) (e : Ending) (w' : World) : Prop := Below w.heap.size w w' ∧ ∃ q : Nat, q ≤ 8 ∧ e = .returned (.int .i64 (q : Int))
theorem lenB_small {x : Nat} (h : x < 256) : ∃ q : Nat, q ≤ 8 ∧ lenB x = (q : Int) := by
  unfold lenB
  by_cases h0 : x = 0
  · exact ⟨0, by omega, by rw [if_pos h0]; rfl⟩
  · have hd : dg x = [x] := by rw [dg_pos (by omega), Nat.mod_eq_of_lt (by omega), Nat.div_eq_of_lt (by omega), dg_zero]
    rw [if_neg h0, hd]
    have h1 : dig x ([x].length - 1) < 2 ^ 8 := by
      have e : dig x 0 = x := by simp [dig]; omega
      show dig x 0 < _
      rw [e]; omega
    obtain ⟨d, hdd⟩ : ∃ d, d = dig x ([x].length - 1) := ⟨_, rfl⟩
    rw [← hdd] at h1 ⊢
    exact ⟨Lib.bitLen d, Lib.bitLen_le d 8 (by omega) (by omega), by simp⟩
set_option maxRecDepth 100000 in
set_option maxHeartbeats 3200000 in
theorem nbits_any (z : Int) (w : World) (hz : z.natAbs < 256) : Calls Try.prog 53 #[IntV z] w (BitsRet w) := by
  have hs : (imag z).size ≤ 1099511627776 := by
    rw [imag_size]
    have := bb_length_le (x := z.natAbs) (m := 1) (by omega)
    omega
  have hdx := fun w' => digits_any (ineg z) (imag z) w' hs
  rw [imag_list, bval_bb] at hdx
  obtain ⟨x, hx⟩ : ∃ x, x = z.natAbs := ⟨_, rfl⟩
  rw [← hx] at hdx hz
  obtain ⟨q, hq8, hq⟩ := lenB_small hz
  have hdl : (dg x).length ≤ 100000000000 := by
    have := dg_length_le (x := x) (m := 1) (by omega)
    omega
  have hlen := fun vx w' h => length_any x vx w' h hdl
  rw [hq] at hlen
  show Calls Try.prog 53 #[.agg #[.bool (ineg z), .string (imag z)]] w _
  obtain ⟨b, hb⟩ : ∃ b, b = ineg z := ⟨_, rfl⟩
  obtain ⟨s, hs2⟩ : ∃ s, s = imag z := ⟨_, rfl⟩
  rw [← hb, ← hs2]
  rw [← hb, ← hs2] at hdx
  have s0 := (Below.refl w.heap.size w).alloc (Nat.le_refl _) (.cells #[.bool b, .string s] 28)
  have S0 := Lib.hid s0; clear s0
  have HDX := Lib.hid hdx; clear hdx
  have HLEN := Lib.hid hlen; clear hlen
  clear hs hz hq hx hb hs2 hdl
  go_enter Try.func53, Try.ntmps53
  go_wp2_with fail
  go_at_call 35
  refine (HDX.out _).mono ?_
  rintro e w1 ⟨hq1, v1, rfl, hv1⟩
  have hl1 := HLEN.out v1 w1 hv1
  have s1 := S0.out.trans (hq1.mono S0.out.size)
  have S1 := Lib.hid s1; clear s1
  have HL1 := Lib.hid hl1; clear hl1
  clear hq1 hv1
  go_wp2_with fail
  go_at_call 72
  refine HL1.out.mono ?_
  rintro e w2 ⟨hq2, rfl⟩
  have s2 := S1.out.trans (hq2.mono S1.out.size)
  have S2 := Lib.hid s2; clear s2
  clear hq2
  go_wp2_with fail
  go_ret
  exact ⟨S2.out, q, hq8, rfl⟩
end Go.Proofs.Ythpgeeaccmgbkaa


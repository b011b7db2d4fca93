/- Plain arithmetic without the program: bytes into digits to the base 2^32 and back. -/
import Derived.Test.YtadibbbaegbljaaNat
import Derived.Laws.BitsAllLaws
namespace Go.Proofs.Ytadibbbaegbljaa

theorem pow256 (k : Nat) : 256 ^ k = 4294967296 ^ (k / 4) * 256 ^ (k % 4) := by
  have : (4294967296 : Nat) = 256 ^ 4 := by decide
  rw [this, ← Nat.pow_mul, ← Nat.pow_add]
  congr 1; omega
theorem pow2_256 (r : Nat) : 2 ^ (8 * r) = 256 ^ r := by rw [Nat.pow_mul]
theorem pow256_lt {r : Nat} (h : r < 4) : 256 ^ (r + 1) ≤ 4294967296 := by
  have : 256 ^ (r + 1) ≤ 256 ^ 4 := Nat.pow_le_pow_right (by decide) (by omega)
  have e : 256 ^ 4 = 4294967296 := by decide
  omega

theorem dig_set {X X' m q new : Nat} (h1 : new = dig X' q) (h2 : ∀ i, i ≠ q → dig X' i = dig X i) : (Dn m X).set q new = Dn m X' := by
  refine eq_Dn (by simp [Dn_length]) fun i hi => ?_
  by_cases e : i = q
  · subst e; rw [List.getElem?_set_self (by rw [Dn_length]; exact hi), h1]
  · rw [List.getElem?_set_ne (fun h => e h.symm), Dn_get _ _ _ hi, h2 i e]

/-- One byte more, at place k from the end. -/
theorem byte_in {X k c : Nat} (hX : X < 256 ^ k) (hc : c < 256) :
    dig X (k / 4) ||| (c % 4294967296 * 2 ^ (8 * (k % 4)) % 4294967296) = dig (c * 256 ^ k + X) (k / 4) ∧ ∀ i, i ≠ k / 4 → dig (c * 256 ^ k + X) i = dig X i := by
  have hp := pos_pow (k / 4)
  have hr := pow256_lt (r := k % 4) (by omega)
  rw [Nat.pow_succ] at hr
  have hX' : X < 4294967296 ^ (k / 4) * 256 ^ (k % 4) := by rw [← pow256]; exact hX
  have hq : X / 4294967296 ^ (k / 4) < 256 ^ (k % 4) := (Nat.div_lt_iff_lt_mul hp).2 (by rw [Nat.mul_comm]; exact hX')
  have hcr : c * 256 ^ (k % 4) ≤ 255 * 256 ^ (k % 4) := Nat.mul_le_mul_right _ (by omega)
  have hdiv : (c * 256 ^ k + X) / 4294967296 ^ (k / 4) = c * 256 ^ (k % 4) + X / 4294967296 ^ (k / 4) := by
    rw [pow256 k, show c * (4294967296 ^ (k / 4) * 256 ^ (k % 4)) = 4294967296 ^ (k / 4) * (c * 256 ^ (k % 4)) by rw [Nat.mul_left_comm], Nat.mul_add_div hp]
  constructor
  · unfold dig
    rw [hdiv, Nat.mod_eq_of_lt (show X / 4294967296 ^ (k / 4) < 4294967296 by omega), Nat.mod_eq_of_lt (show c < 4294967296 by omega), pow2_256,
      Nat.mod_eq_of_lt (show c * 256 ^ (k % 4) < 4294967296 by omega), Nat.mod_eq_of_lt (show c * 256 ^ (k % 4) + X / 4294967296 ^ (k / 4) < 4294967296 by omega)]
    have h := Nat.shiftLeft_add_eq_or_of_lt (b := X / 4294967296 ^ (k / 4)) (i := 8 * (k % 4)) (by rw [pow2_256]; exact hq) c
    rw [Nat.shiftLeft_eq, pow2_256] at h
    rw [h, Nat.or_comm]
  · intro i hi
    unfold dig
    rcases Nat.lt_or_gt_of_ne hi with hlt | hgt
    · have e : 256 ^ k = 4294967296 ^ i * (4294967296 * (4294967296 ^ (k / 4 - i - 1) * 256 ^ (k % 4))) := by
        have e1 : 4294967296 ^ (k / 4) = 4294967296 ^ i * (4294967296 * 4294967296 ^ (k / 4 - i - 1)) := by
          rw [Nat.mul_comm 4294967296, ← Nat.pow_succ, ← Nat.pow_add]; congr 1; omega
        rw [pow256 k, e1]
        simp only [Nat.mul_assoc]
      rw [e, Nat.mul_left_comm c, Nat.mul_add_div (pos_pow i), Nat.mul_left_comm c, Nat.mul_add_mod]
    · have hle : 4294967296 ^ (k / 4 + 1) ≤ 4294967296 ^ i := Nat.pow_le_pow_right (by decide) hgt
      rw [Nat.pow_succ] at hle
      have h1 : 256 ^ k * 256 ≤ 4294967296 ^ (k / 4) * 4294967296 := by
        rw [pow256 k, Nat.mul_assoc]; exact Nat.mul_le_mul_left _ hr
      have h2 : c * 256 ^ k ≤ 255 * 256 ^ k := Nat.mul_le_mul_right _ (by omega)
      rw [Nat.div_eq_of_lt (by omega), Nat.div_eq_of_lt (by omega)]

/-- One byte more, from above: the byte at place q of the digit at place j. -/
theorem byte_out (x j q : Nat) (hq : q < 4) : x / 4294967296 ^ j / 256 ^ q = 256 * (x / 4294967296 ^ j / 256 ^ (q + 1)) + dig x j / 2 ^ (8 * q) % 256 := by
  unfold dig
  have h : x / 4294967296 ^ j % 4294967296 / 2 ^ (8 * q) % 256 = x / 4294967296 ^ j / 256 ^ q % 256 := by
    generalize x / 4294967296 ^ j = z
    have e : (4294967296 : Nat) = 256 ^ q * (256 * 256 ^ (3 - q)) := by
      rw [← Nat.pow_succ', ← Nat.pow_add, show q + (3 - q + 1) = 4 by omega]
    rw [pow2_256]
    conv => lhs; rw [e]
    rw [Nat.mod_mul_right_div_self, Nat.mod_mul_right_mod]
  rw [h, Nat.pow_succ, ← Nat.div_div_eq_div_mul]
  omega
theorem bval_drop (l : List UInt8) (k : Nat) (h : k < l.length) : bval (l.drop (l.length - (k + 1))) = (l[l.length - 1 - k]'(by omega)).toNat * 256 ^ k + bval (l.drop (l.length - k)) := by
  rw [List.drop_eq_getElem_cons (by omega), bval]
  have e1 : l.length - (k + 1) + 1 = l.length - k := by omega
  have e2 : l.length - (k + 1) = l.length - 1 - k := by omega
  simp only [e1, List.length_drop]
  have e3 : l.length - (l.length - k) = k := by omega
  rw [e3]
  congr 3
  simp [e2]
theorem bval_drop_lt (l : List UInt8) (k : Nat) : bval (l.drop (l.length - k)) < 256 ^ k := by
  have h := bval_lt (l.drop (l.length - k))
  have h2 : 256 ^ (l.drop (l.length - k)).length ≤ 256 ^ k := Nat.pow_le_pow_right (by decide) (by simp; omega)
  omega
/-- The new digit in the walk's own spelling. -/
theorem or_cell {d c r : Nat} (hd : d < 4294967296) : bits BinOp.or IntKind.u32 (d : Int) ((c : Int) % 4294967296 * 2 ^ (8 * r) % 4294967296) = ((d ||| (c % 4294967296 * 2 ^ (8 * r) % 4294967296) : Nat) : Int) := by
  have e : ((c : Int) % 4294967296 * 2 ^ (8 * r) % 4294967296) = ((c % 4294967296 * 2 ^ (8 * r) % 4294967296 : Nat) : Int) := by
    simp only [Int.natCast_emod, Int.natCast_mul, Int.natCast_pow]; rfl
  rw [e]
  exact u32_or_nat _ _ hd (Nat.mod_lt _ (by decide))

/-! ### Comparing, adding, subtracting digit by digit -/

/-- As a comparison tells it. -/
def cmpN (x y : Nat) : Int := if x < y then -1 else if x = y then 0 else 1
theorem cmpN_lt {x y : Nat} (h : x < y) : cmpN x y = -1 := by simp [cmpN, h]
theorem cmpN_gt {x y : Nat} (h : y < x) : cmpN x y = 1 := by unfold cmpN; rw [if_neg (by omega), if_neg (by omega)]
theorem cmpN_eq (x : Nat) : cmpN x x = 0 := by simp [cmpN]
theorem lt_of_len {x y : Nat} (h : (dg x).length < (dg y).length) : x < y := by
  have h1 := lt_pow_dg x
  have h2 : 0 < y := by
    rcases Nat.eq_zero_or_pos y with e | e
    · subst e; rw [dg_zero] at h; simp at h
    · exact e
  have h3 := pow_le_dg y h2
  have h4 : 4294967296 ^ (dg x).length ≤ 4294967296 ^ ((dg y).length - 1) := Nat.pow_le_pow_right (by decide) (by omega)
  omega
theorem div_step (x j : Nat) : x / 4294967296 ^ j = 4294967296 * (x / 4294967296 ^ (j + 1)) + dig x j := by
  unfold dig
  rw [Nat.pow_succ, ← Nat.div_div_eq_div_mul]; omega
theorem lt_of_div {x y j : Nat} (h : x / 4294967296 ^ (j + 1) = y / 4294967296 ^ (j + 1)) (hd : dig x j < dig y j) : x < y := by
  have h1 := div_step x j
  have h2 := div_step y j
  rcases Nat.lt_or_ge x y with h3 | h3
  · exact h3
  · have := Nat.div_le_div_right (c := 4294967296 ^ j) h3
    omega
/-- The carry in front of place k. -/
def carry (x y k : Nat) : Nat := (x + y) / 4294967296 ^ k - x / 4294967296 ^ k - y / 4294967296 ^ k
theorem carry_div (x y k : Nat) : (x + y) / 4294967296 ^ k = x / 4294967296 ^ k + y / 4294967296 ^ k + carry x y k ∧ carry x y k ≤ 1 := by
  unfold carry
  have := Nat.add_div (a := x) (b := y) (pos_pow k)
  split at this <;> omega
theorem carry_zero (x y : Nat) : carry x y 0 = 0 := by simp [carry]
theorem add_step (x y k : Nat) : (dig x k + carry x y k + dig y k) % 4294967296 = dig (x + y) k ∧ (dig x k + carry x y k + dig y k) / 4294967296 = carry x y (k + 1) := by
  have h0 := carry_div x y k
  have h1 := carry_div x y (k + 1)
  simp only [Nat.pow_succ, ← Nat.div_div_eq_div_mul] at h1
  unfold dig
  omega
/-- The borrow in front of place k. -/
def borrow (x y k : Nat) : Nat := x / 4294967296 ^ k - y / 4294967296 ^ k - (x - y) / 4294967296 ^ k
theorem borrow_div {x y : Nat} (h : y ≤ x) (k : Nat) : x / 4294967296 ^ k = y / 4294967296 ^ k + (x - y) / 4294967296 ^ k + borrow x y k ∧ borrow x y k ≤ 1 := by
  have h1 := carry_div y (x - y) k
  rw [show y + (x - y) = x by omega] at h1
  unfold borrow
  omega
theorem borrow_zero {x y : Nat} (h : y ≤ x) : borrow x y 0 = 0 := by simp [borrow]
theorem sub_step {x y : Nat} (h : y ≤ x) (k : Nat) : (if dig x k < borrow x y k + dig y k then dig x k + 4294967296 - borrow x y k - dig y k else dig x k - borrow x y k - dig y k) = dig (x - y) k ∧
    (if dig x k < borrow x y k + dig y k then 1 else 0) = borrow x y (k + 1) := by
  have h0 := borrow_div h k
  have h1 := borrow_div h (k + 1)
  simp only [Nat.pow_succ, ← Nat.div_div_eq_div_mul] at h1
  unfold dig
  split <;> omega
end Go.Proofs.Ytadibbbaegbljaa

/- Contracts and plain laws of several functions, one after the other: NatB, NatC. -/
import Derived.Laws.BitsAllLaws
import Derived.Test.YtalipfnbpnkgnaaGreatPart9
/- Plain arithmetic without the program: bytes into digits to the base 2^32 and back. -/
namespace Go.Proofs.YtalipfnbpnkgnaaGreat

theorem pow256 (k : Nat) : 256 ^ k = 4294967296 ^ (k / 4) * 256 ^ (k % 4) := by
  have : (4294967296 : Nat) = 256 ^ 4 := by decide
  rw [this, ← Nat.pow_mul, ← Nat.pow_add]
  congr 1; omega
theorem pow2_256 (r : Nat) : 2 ^ (8 * r) = 256 ^ r := by rw [Nat.pow_mul]
theorem pow256_lt {r : Nat} (h : r < 4) : 256 ^ (r + 1) ≤ 4294967296 := by
  have : 256 ^ (r + 1) ≤ 256 ^ 4 := Nat.pow_le_pow_right (by decide) (by omega)
  have e : 256 ^ 4 = 4294967296 := by decide
  omega

theorem dig_set {X X' m q new : Nat} (h1 : new = dig X' q) (h2 : ∀ i, i ≠ q → dig X' i = dig X i) : (Dn m X).set q new = Dn m X' := by
  refine eq_Dn (by simp [Dn_length]) fun i hi => ?_
  by_cases e : i = q
  · subst e; rw [List.getElem?_set_self (by rw [Dn_length]; exact hi), h1]
  · rw [List.getElem?_set_ne (fun h => e h.symm), Dn_get _ _ _ hi, h2 i e]

/-- One byte more, at place k from the end. -/
theorem byte_in {X k c : Nat} (hX : X < 256 ^ k) (hc : c < 256) :
    dig X (k / 4) ||| (c % 4294967296 * 2 ^ (8 * (k % 4)) % 4294967296) = dig (c * 256 ^ k + X) (k / 4) ∧ ∀ i, i ≠ k / 4 → dig (c * 256 ^ k + X) i = dig X i := by
  have hp := pos_pow (k / 4)
  have hr := pow256_lt (r := k % 4) (by omega)
  rw [Nat.pow_succ] at hr
  have hX' : X < 4294967296 ^ (k / 4) * 256 ^ (k % 4) := by rw [← pow256]; exact hX
  have hq : X / 4294967296 ^ (k / 4) < 256 ^ (k % 4) := (Nat.div_lt_iff_lt_mul hp).2 (by rw [Nat.mul_comm]; exact hX')
  have hcr : c * 256 ^ (k % 4) ≤ 255 * 256 ^ (k % 4) := Nat.mul_le_mul_right _ (by omega)
  have hdiv : (c * 256 ^ k + X) / 4294967296 ^ (k / 4) = c * 256 ^ (k % 4) + X / 4294967296 ^ (k / 4) := by
    rw [pow256 k, show c * (4294967296 ^ (k / 4) * 256 ^ (k % 4)) = 4294967296 ^ (k / 4) * (c * 256 ^ (k % 4)) by rw [Nat.mul_left_comm], Nat.mul_add_div hp]
  constructor
  · unfold dig
    rw [hdiv, Nat.mod_eq_of_lt (show X / 4294967296 ^ (k / 4) < 4294967296 by omega), Nat.mod_eq_of_lt (show c < 4294967296 by omega), pow2_256,
      Nat.mod_eq_of_lt (show c * 256 ^ (k % 4) < 4294967296 by omega), Nat.mod_eq_of_lt (show c * 256 ^ (k % 4) + X / 4294967296 ^ (k / 4) < 4294967296 by omega)]
    have h := Nat.shiftLeft_add_eq_or_of_lt (b := X / 4294967296 ^ (k / 4)) (i := 8 * (k % 4)) (by rw [pow2_256]; exact hq) c
    rw [Nat.shiftLeft_eq, pow2_256] at h
    rw [h, Nat.or_comm]
  · intro i hi
    unfold dig
    rcases Nat.lt_or_gt_of_ne hi with hlt | hgt
    · have e : 256 ^ k = 4294967296 ^ i * (4294967296 * (4294967296 ^ (k / 4 - i - 1) * 256 ^ (k % 4))) := by
        have e1 : 4294967296 ^ (k / 4) = 4294967296 ^ i * (4294967296 * 4294967296 ^ (k / 4 - i - 1)) := by
          rw [Nat.mul_comm 4294967296, ← Nat.pow_succ, ← Nat.pow_add]; congr 1; omega
        rw [pow256 k, e1]
        simp only [Nat.mul_assoc]
      rw [e, Nat.mul_left_comm c, Nat.mul_add_div (pos_pow i), Nat.mul_left_comm c, Nat.mul_add_mod]
    · have hle : 4294967296 ^ (k / 4 + 1) ≤ 4294967296 ^ i := Nat.pow_le_pow_right (by decide) hgt
      rw [Nat.pow_succ] at hle
      have h1 : 256 ^ k * 256 ≤ 4294967296 ^ (k / 4) * 4294967296 := by
        rw [pow256 k, Nat.mul_assoc]; exact Nat.mul_le_mul_left _ hr
      have h2 : c * 256 ^ k ≤ 255 * 256 ^ k := Nat.mul_le_mul_right _ (by omega)
      rw [Nat.div_eq_of_lt (by omega), Nat.div_eq_of_lt (by omega)]

/-- One byte more, from above: the byte at place q of the digit at place j. -/
theorem byte_out (x j q : Nat) (hq : q < 4) : x / 4294967296 ^ j / 256 ^ q = 256 * (x / 4294967296 ^ j / 256 ^ (q + 1)) + dig x j / 2 ^ (8 * q) % 256 := by
  unfold dig
  have h : x / 4294967296 ^ j % 4294967296 / 2 ^ (8 * q) % 256 = x / 4294967296 ^ j / 256 ^ q % 256 := by
    generalize x / 4294967296 ^ j = z
    have e : (4294967296 : Nat) = 256 ^ q * (256 * 256 ^ (3 - q)) := by
      rw [← Nat.pow_succ', ← Nat.pow_add, show q + (3 - q + 1) = 4 by omega]
    rw [pow2_256]
    conv => lhs; rw [e]
    rw [Nat.mod_mul_right_div_self, Nat.mod_mul_right_mod]
  rw [h, Nat.pow_succ, ← Nat.div_div_eq_div_mul]
  omega
theorem bval_drop (l : List UInt8) (k : Nat) (h : k < l.length) : bval (l.drop (l.length - (k + 1))) = (l[l.length - 1 - k]'(by omega)).toNat * 256 ^ k + bval (l.drop (l.length - k)) := by
  rw [List.drop_eq_getElem_cons (by omega), bval]
  have e1 : l.length - (k + 1) + 1 = l.length - k := by omega
  have e2 : l.length - (k + 1) = l.length - 1 - k := by omega
  simp only [e1, List.length_drop]
  have e3 : l.length - (l.length - k) = k := by omega
  rw [e3]
  congr 3
  simp [e2]
theorem bval_drop_lt (l : List UInt8) (k : Nat) : bval (l.drop (l.length - k)) < 256 ^ k := by
  have h := bval_lt (l.drop (l.length - k))
  have h2 : 256 ^ (l.drop (l.length - k)).length ≤ 256 ^ k := Nat.pow_le_pow_right (by decide) (by simp; omega)
  omega
/-- The new digit in the walk's own spelling. -/
theorem or_cell {d c r : Nat} (hd : d < 4294967296) : bits BinOp.or IntKind.u32 (d : Int) ((c : Int) % 4294967296 * 2 ^ (8 * r) % 4294967296) = ((d ||| (c % 4294967296 * 2 ^ (8 * r) % 4294967296) : Nat) : Int) := by
  have e : ((c : Int) % 4294967296 * 2 ^ (8 * r) % 4294967296) = ((c % 4294967296 * 2 ^ (8 * r) % 4294967296 : Nat) : Int) := by
    simp only [Int.natCast_emod, Int.natCast_mul, Int.natCast_pow]; rfl
  rw [e]
  exact u32_or_nat _ _ hd (Nat.mod_lt _ (by decide))

/-! ### Comparing, adding, subtracting digit by digit -/

/-- As a comparison tells it. -/
def cmpN (x y : Nat) : Int := if x < y then -1 else if x = y then 0 else 1
theorem cmpN_lt {x y : Nat} (h : x < y) : cmpN x y = -1 := by simp [cmpN, h]
theorem cmpN_gt {x y : Nat} (h : y < x) : cmpN x y = 1 := by unfold cmpN; rw [if_neg (by omega), if_neg (by omega)]
theorem cmpN_eq (x : Nat) : cmpN x x = 0 := by simp [cmpN]
theorem lt_of_len {x y : Nat} (h : (dg x).length < (dg y).length) : x < y := by
  have h1 := lt_pow_dg x
  have h2 : 0 < y := by
    rcases Nat.eq_zero_or_pos y with e | e
    · subst e; rw [dg_zero] at h; simp at h
    · exact e
  have h3 := pow_le_dg y h2
  have h4 : 4294967296 ^ (dg x).length ≤ 4294967296 ^ ((dg y).length - 1) := Nat.pow_le_pow_right (by decide) (by omega)
  omega
theorem div_step (x j : Nat) : x / 4294967296 ^ j = 4294967296 * (x / 4294967296 ^ (j + 1)) + dig x j := by
  unfold dig
  rw [Nat.pow_succ, ← Nat.div_div_eq_div_mul]; omega
theorem lt_of_div {x y j : Nat} (h : x / 4294967296 ^ (j + 1) = y / 4294967296 ^ (j + 1)) (hd : dig x j < dig y j) : x < y := by
  have h1 := div_step x j
  have h2 := div_step y j
  rcases Nat.lt_or_ge x y with h3 | h3
  · exact h3
  · have := Nat.div_le_div_right (c := 4294967296 ^ j) h3
    omega
/-- The carry in front of place k. -/
def carry (x y k : Nat) : Nat := (x + y) / 4294967296 ^ k - x / 4294967296 ^ k - y / 4294967296 ^ k
theorem carry_div (x y k : Nat) : (x + y) / 4294967296 ^ k = x / 4294967296 ^ k + y / 4294967296 ^ k + carry x y k ∧ carry x y k ≤ 1 := by
  unfold carry
  have := Nat.add_div (a := x) (b := y) (pos_pow k)
  split at this <;> omega
theorem carry_zero (x y : Nat) : carry x y 0 = 0 := by simp [carry]
theorem add_step (x y k : Nat) : (dig x k + carry x y k + dig y k) % 4294967296 = dig (x + y) k ∧ (dig x k + carry x y k + dig y k) / 4294967296 = carry x y (k + 1) := by
  have h0 := carry_div x y k
  have h1 := carry_div x y (k + 1)
  simp only [Nat.pow_succ, ← Nat.div_div_eq_div_mul] at h1
  unfold dig
  omega
/-- The borrow in front of place k. -/
def borrow (x y k : Nat) : Nat := x / 4294967296 ^ k - y / 4294967296 ^ k - (x - y) / 4294967296 ^ k
theorem borrow_div {x y : Nat} (h : y ≤ x) (k : Nat) : x / 4294967296 ^ k = y / 4294967296 ^ k + (x - y) / 4294967296 ^ k + borrow x y k ∧ borrow x y k ≤ 1 := by
  have h1 := carry_div y (x - y) k
  rw [show y + (x - y) = x by omega] at h1
  unfold borrow
  omega
theorem borrow_zero {x y : Nat} (h : y ≤ x) : borrow x y 0 = 0 := by simp [borrow]
theorem sub_step {x y : Nat} (h : y ≤ x) (k : Nat) : (if dig x k < borrow x y k + dig y k then dig x k + 4294967296 - borrow x y k - dig y k else dig x k - borrow x y k - dig y k) = dig (x - y) k ∧
    (if dig x k < borrow x y k + dig y k then 1 else 0) = borrow x y (k + 1) := by
  have h0 := borrow_div h k
  have h1 := borrow_div h (k + 1)
  simp only [Nat.pow_succ, ← Nat.div_div_eq_div_mul] at h1
  unfold dig
  split <;> omega
end Go.Proofs.YtalipfnbpnkgnaaGreat

/- Plain arithmetic without the program: digits to the base 256, the most significant one first, as the reference implementation computes with them. -/
namespace Go.Proofs.YtalipfnbpnkgnaaGreat

theorem pos256 (k : Nat) : 0 < 256 ^ k := Nat.pow_pos (by decide)
/-- Bytes without zeros ahead are those of their value. -/
theorem bb_bval_aux (l : List UInt8) : ∀ n, l.length = n → (∀ c t, l = c :: t → c ≠ 0) → bb (bval l) = l := by
  intro n
  induction n generalizing l with
  | zero =>
    intro h _
    have : l = [] := List.length_eq_zero_iff.1 h
    subst this; simp [bval, bb_zero]
  | succ n ih =>
    intro h hh
    obtain ⟨k, c, rfl⟩ : ∃ k c, l = k ++ [c] := by
      have hne : l ≠ [] := by intro e; subst e; simp at h
      exact ⟨l.dropLast, l.getLast hne, (List.dropLast_concat_getLast hne).symm⟩
    have hk : bb (bval k) = k := ih k (by simpa using h) (by
      intro c' t e
      subst e
      exact hh c' (t ++ [c]) rfl)
    have hc : c.toNat < 256 := UInt8.toNat_lt c
    rw [bval_snoc, bb_step _ _ hc, hk]
    · simp
    · cases k with
      | nil =>
        right
        have := hh c [] rfl
        rcases Nat.eq_zero_or_pos c.toNat with e | e
        · exact absurd (by rw [← UInt8.ofNat_toNat (x := c), e]; rfl) this
        · exact e
      | cons c' t =>
        left
        apply bb_pos_of
        rw [hk]; simp
theorem bb_bval {l : List UInt8} (h : ∀ c t, l = c :: t → c ≠ 0) : bb (bval l) = l := bb_bval_aux l _ rfl h
theorem bval_zero (t : List UInt8) : bval (0 :: t) = bval t := by simp [bval]
/-- The byte at place k, from the end. -/
def byt (x k : Nat) : Nat := x / 256 ^ k % 256
theorem byt_lt (x k : Nat) : byt x k < 256 := Nat.mod_lt _ (by decide)
theorem div_step8 (x j : Nat) : x / 256 ^ j = 256 * (x / 256 ^ (j + 1)) + byt x j := by
  unfold byt
  rw [Nat.pow_succ, ← Nat.div_div_eq_div_mul]; omega
theorem byt_get (l : List UInt8) (k : Nat) (h : k < l.length) : (l[l.length - 1 - k]'(by omega)).toNat = byt (bval l) k := by
  induction l with
  | nil => simp at h
  | cons c t ih =>
    simp only [List.length_cons] at h ⊢
    unfold byt
    by_cases e : k = t.length
    · subst e
      have h1 := bval_lt t
      simp only [Nat.add_sub_cancel, Nat.sub_self, List.getElem_cons_zero, bval]
      rw [Nat.mul_comm, Nat.mul_add_div (pos256 _), Nat.div_eq_of_lt h1]
      have := UInt8.toNat_lt c
      omega
    · have h2 : t.length + 1 - 1 - k = (t.length - 1 - k) + 1 := by omega
      have h3 := ih (by omega)
      simp only [h2, List.getElem_cons_succ]
      rw [h3, byt, bval]
      have e1 : 256 ^ t.length = 256 ^ k * (256 * 256 ^ (t.length - k - 1)) := by
        rw [← Nat.pow_succ', ← Nat.pow_add]; congr 1; omega
      rw [e1, Nat.mul_left_comm, Nat.mul_add_div (pos256 k), Nat.mul_left_comm, Nat.mul_add_mod]
theorem byt_beyond (l : List UInt8) (k : Nat) (h : l.length ≤ k) : byt (bval l) k = 0 := by
  have h1 := bval_lt l
  have h2 : 256 ^ l.length ≤ 256 ^ k := Nat.pow_le_pow_right (by decide) h
  rw [byt, Nat.div_eq_of_lt (by omega)]
/-- The lowest k bytes, the most significant one first. -/
def be : Nat → Nat → List UInt8
  | 0, _ => []
  | k + 1, x => UInt8.ofNat (byt x k) :: be k x
theorem be_length (k x : Nat) : (be k x).length = k := by induction k with
  | zero => rfl
  | succ k ih => simp [be, ih]
theorem bval_be (k x : Nat) : bval (be k x) = x % 256 ^ k := by
  induction k with
  | zero => simp [be, bval, Nat.mod_one]
  | succ k ih =>
    rw [be, bval, be_length, ih]
    have h1 : (UInt8.ofNat (byt x k)).toNat = byt x k := by
      have := byt_lt x k
      simp; omega
    rw [h1, Nat.pow_succ, Nat.mod_mul]
    unfold byt
    rw [Nat.mul_comm (256 ^ k), Nat.add_comm]
theorem be_of_lt {k x : Nat} (h : x < 256 ^ k) : bval (be k x) = x := by rw [bval_be, Nat.mod_eq_of_lt h]
theorem be_bb {k x : Nat} (h : x < 256 ^ (k + 1)) (h2 : 0 < x / 256 ^ k) : be (k + 1) x = bb x := by
  have h1 := be_of_lt h
  have h3 : bb (bval (be (k + 1) x)) = be (k + 1) x := by
    apply bb_bval
    intro c t e
    rw [be, List.cons.injEq] at e
    intro hc
    rw [← e.1] at hc
    have h4 : (UInt8.ofNat (byt x k)).toNat = 0 := by rw [hc]; rfl
    have h5 : (UInt8.ofNat (byt x k)).toNat = byt x k := by
      have := byt_lt x k
      simp; omega
    rw [h5, byt, Nat.mod_eq_of_lt ((Nat.div_lt_iff_lt_mul (pos256 k)).2 (by rw [Nat.pow_succ, Nat.mul_comm] at h; exact h))] at h4
    omega
  rw [← h3, h1]

/-- The carry in front of place k. -/
def carry8 (x y k : Nat) : Nat := (x + y) / 256 ^ k - x / 256 ^ k - y / 256 ^ k
theorem carry8_div (x y k : Nat) : (x + y) / 256 ^ k = x / 256 ^ k + y / 256 ^ k + carry8 x y k ∧ carry8 x y k ≤ 1 := by
  unfold carry8
  have := Nat.add_div (a := x) (b := y) (pos256 k)
  split at this <;> omega
theorem carry8_zero (x y : Nat) : carry8 x y 0 = 0 := by simp [carry8]
theorem add_step8 (x y k : Nat) : (carry8 x y k + byt x k + byt y k) % 256 = byt (x + y) k ∧ (carry8 x y k + byt x k + byt y k) / 256 = carry8 x y (k + 1) := by
  have h0 := carry8_div x y k
  have h1 := carry8_div x y (k + 1)
  simp only [Nat.pow_succ, ← Nat.div_div_eq_div_mul] at h1
  unfold byt
  omega
/-- The borrow in front of place k. -/
def borrow8 (x y k : Nat) : Nat := x / 256 ^ k - y / 256 ^ k - (x - y) / 256 ^ k
theorem borrow8_div {x y : Nat} (h : y ≤ x) (k : Nat) : x / 256 ^ k = y / 256 ^ k + (x - y) / 256 ^ k + borrow8 x y k ∧ borrow8 x y k ≤ 1 := by
  have h1 := carry8_div y (x - y) k
  rw [show y + (x - y) = x by omega] at h1
  unfold borrow8
  omega
theorem borrow8_zero {x y : Nat} : borrow8 x y 0 = 0 ∨ x < y := by simp [borrow8]
theorem sub_step8 {x y : Nat} (h : y ≤ x) (k : Nat) : (if byt x k < borrow8 x y k + byt y k then byt x k + 256 - borrow8 x y k - byt y k else byt x k - borrow8 x y k - byt y k) = byt (x - y) k ∧
    (if byt x k < borrow8 x y k + byt y k then 1 else 0) = borrow8 x y (k + 1) := by
  have h0 := borrow8_div h k
  have h1 := borrow8_div h (k + 1)
  simp only [Nat.pow_succ, ← Nat.div_div_eq_div_mul] at h1
  unfold byt
  split <;> omega
theorem bb_len_lt {x y : Nat} (h : (bb x).length < (bb y).length) : x < y := by
  have h1 := lt_pow_bb x
  rcases Nat.lt_or_ge x y with h2 | h2
  · exact h2
  · have := bb_length_le (x := y) (m := (bb x).length) (by omega)
    omega
/-- Of two words of the same length the one that is less as text is the lesser number. -/
theorem less_bval : ∀ (a b : List UInt8), a.length = b.length → (Op.bytesLess a b = decide (bval a < bval b))
  | [], [], _ => by simp [Op.bytesLess]
  | [], _ :: _, h => by simp at h
  | _ :: _, [], h => by simp at h
  | c :: x, d :: y, h => by
    have hl : x.length = y.length := by simpa using h
    have ih := less_bval x y hl
    have h1 := bval_lt x
    have h2 := bval_lt y
    rw [Op.bytesLess, ih, bval, bval, hl]
    rw [hl] at h1
    rcases Nat.lt_trichotomy c.toNat d.toNat with hc | hc | hc
    · have e1 : c < d := UInt8.lt_iff_toNat_lt.2 hc
      have : (c.toNat + 1) * 256 ^ y.length ≤ d.toNat * 256 ^ y.length := Nat.mul_le_mul_right _ hc
      rw [Nat.add_mul] at this
      simp only [e1, decide_true, Bool.true_or]
      symm; rw [decide_eq_true_iff]; omega
    · have e1 : c = d := UInt8.toNat_inj.1 hc
      subst e1
      simp
    · have e1 : ¬ c < d := fun e => by have := UInt8.lt_iff_toNat_lt.1 e; omega
      have e2 : (c == d) = false := by
        rw [beq_eq_false_iff_ne]; intro e; subst e; omega
      have : (d.toNat + 1) * 256 ^ y.length ≤ c.toNat * 256 ^ y.length := Nat.mul_le_mul_right _ hc
      rw [Nat.add_mul] at this
      simp only [e1, e2, decide_false, Bool.false_and, Bool.or_false]
      symm; rw [decide_eq_false_iff_not]; omega
end Go.Proofs.YtalipfnbpnkgnaaGreat


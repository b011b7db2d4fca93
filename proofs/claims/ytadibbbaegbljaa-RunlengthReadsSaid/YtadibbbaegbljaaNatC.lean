/- Plain arithmetic without the program: digits to the base 256, the most significant one first, as the reference implementation computes with them. -/
import Derived.Test.YtadibbbaegbljaaNatB
namespace Go.Proofs.Ytadibbbaegbljaa

theorem pos256 (k : Nat) : 0 < 256 ^ k := Nat.pow_pos (by decide)
/-- Bytes without zeros ahead are those of their value. -/
theorem bb_bval_aux (l : List UInt8) : ∀ n, l.length = n → (∀ c t, l = c :: t → c ≠ 0) → bb (bval l) = l := by
  intro n
  induction n generalizing l with
  | zero =>
    intro h _
    have : l = [] := List.length_eq_zero_iff.1 h
    subst this; simp [bval, bb_zero]
  | succ n ih =>
    intro h hh
    obtain ⟨k, c, rfl⟩ : ∃ k c, l = k ++ [c] := by
      have hne : l ≠ [] := by intro e; subst e; simp at h
      exact ⟨l.dropLast, l.getLast hne, (List.dropLast_concat_getLast hne).symm⟩
    have hk : bb (bval k) = k := ih k (by simpa using h) (by
      intro c' t e
      subst e
      exact hh c' (t ++ [c]) rfl)
    have hc : c.toNat < 256 := UInt8.toNat_lt c
    rw [bval_snoc, bb_step _ _ hc, hk]
    · simp
    · cases k with
      | nil =>
        right
        have := hh c [] rfl
        rcases Nat.eq_zero_or_pos c.toNat with e | e
        · exact absurd (by rw [← UInt8.ofNat_toNat (x := c), e]; rfl) this
        · exact e
      | cons c' t =>
        left
        apply bb_pos_of
        rw [hk]; simp
theorem bb_bval {l : List UInt8} (h : ∀ c t, l = c :: t → c ≠ 0) : bb (bval l) = l := bb_bval_aux l _ rfl h
theorem bval_zero (t : List UInt8) : bval (0 :: t) = bval t := by simp [bval]
/-- The byte at place k, from the end. -/
def byt (x k : Nat) : Nat := x / 256 ^ k % 256
theorem byt_lt (x k : Nat) : byt x k < 256 := Nat.mod_lt _ (by decide)
theorem div_step8 (x j : Nat) : x / 256 ^ j = 256 * (x / 256 ^ (j + 1)) + byt x j := by
  unfold byt
  rw [Nat.pow_succ, ← Nat.div_div_eq_div_mul]; omega
theorem byt_get (l : List UInt8) (k : Nat) (h : k < l.length) : (l[l.length - 1 - k]'(by omega)).toNat = byt (bval l) k := by
  induction l with
  | nil => simp at h
  | cons c t ih =>
    simp only [List.length_cons] at h ⊢
    unfold byt
    by_cases e : k = t.length
    · subst e
      have h1 := bval_lt t
      simp only [Nat.add_sub_cancel, Nat.sub_self, List.getElem_cons_zero, bval]
      rw [Nat.mul_comm, Nat.mul_add_div (pos256 _), Nat.div_eq_of_lt h1]
      have := UInt8.toNat_lt c
      omega
    · have h2 : t.length + 1 - 1 - k = (t.length - 1 - k) + 1 := by omega
      have h3 := ih (by omega)
      simp only [h2, List.getElem_cons_succ]
      rw [h3, byt, bval]
      have e1 : 256 ^ t.length = 256 ^ k * (256 * 256 ^ (t.length - k - 1)) := by
        rw [← Nat.pow_succ', ← Nat.pow_add]; congr 1; omega
      rw [e1, Nat.mul_left_comm, Nat.mul_add_div (pos256 k), Nat.mul_left_comm, Nat.mul_add_mod]
theorem byt_beyond (l : List UInt8) (k : Nat) (h : l.length ≤ k) : byt (bval l) k = 0 := by
  have h1 := bval_lt l
  have h2 : 256 ^ l.length ≤ 256 ^ k := Nat.pow_le_pow_right (by decide) h
  rw [byt, Nat.div_eq_of_lt (by omega)]
/-- The lowest k bytes, the most significant one first. -/
def be : Nat → Nat → List UInt8
  | 0, _ => []
  | k + 1, x => UInt8.ofNat (byt x k) :: be k x
theorem be_length (k x : Nat) : (be k x).length = k := by induction k with
  | zero => rfl
  | succ k ih => simp [be, ih]
theorem bval_be (k x : Nat) : bval (be k x) = x % 256 ^ k := by
  induction k with
  | zero => simp [be, bval, Nat.mod_one]
  | succ k ih =>
    rw [be, bval, be_length, ih]
    have h1 : (UInt8.ofNat (byt x k)).toNat = byt x k := by
      have := byt_lt x k
      simp; omega
    rw [h1, Nat.pow_succ, Nat.mod_mul]
    unfold byt
    rw [Nat.mul_comm (256 ^ k), Nat.add_comm]
theorem be_of_lt {k x : Nat} (h : x < 256 ^ k) : bval (be k x) = x := by rw [bval_be, Nat.mod_eq_of_lt h]
theorem be_bb {k x : Nat} (h : x < 256 ^ (k + 1)) (h2 : 0 < x / 256 ^ k) : be (k + 1) x = bb x := by
  have h1 := be_of_lt h
  have h3 : bb (bval (be (k + 1) x)) = be (k + 1) x := by
    apply bb_bval
    intro c t e
    rw [be, List.cons.injEq] at e
    intro hc
    rw [← e.1] at hc
    have h4 : (UInt8.ofNat (byt x k)).toNat = 0 := by rw [hc]; rfl
    have h5 : (UInt8.ofNat (byt x k)).toNat = byt x k := by
      have := byt_lt x k
      simp; omega
    rw [h5, byt, Nat.mod_eq_of_lt ((Nat.div_lt_iff_lt_mul (pos256 k)).2 (by rw [Nat.pow_succ, Nat.mul_comm] at h; exact h))] at h4
    omega
  rw [← h3, h1]

/-- The carry in front of place k. -/
def carry8 (x y k : Nat) : Nat := (x + y) / 256 ^ k - x / 256 ^ k - y / 256 ^ k
theorem carry8_div (x y k : Nat) : (x + y) / 256 ^ k = x / 256 ^ k + y / 256 ^ k + carry8 x y k ∧ carry8 x y k ≤ 1 := by
  unfold carry8
  have := Nat.add_div (a := x) (b := y) (pos256 k)
  split at this <;> omega
theorem carry8_zero (x y : Nat) : carry8 x y 0 = 0 := by simp [carry8]
theorem add_step8 (x y k : Nat) : (carry8 x y k + byt x k + byt y k) % 256 = byt (x + y) k ∧ (carry8 x y k + byt x k + byt y k) / 256 = carry8 x y (k + 1) := by
  have h0 := carry8_div x y k
  have h1 := carry8_div x y (k + 1)
  simp only [Nat.pow_succ, ← Nat.div_div_eq_div_mul] at h1
  unfold byt
  omega
/-- The borrow in front of place k. -/
def borrow8 (x y k : Nat) : Nat := x / 256 ^ k - y / 256 ^ k - (x - y) / 256 ^ k
theorem borrow8_div {x y : Nat} (h : y ≤ x) (k : Nat) : x / 256 ^ k = y / 256 ^ k + (x - y) / 256 ^ k + borrow8 x y k ∧ borrow8 x y k ≤ 1 := by
  have h1 := carry8_div y (x - y) k
  rw [show y + (x - y) = x by omega] at h1
  unfold borrow8
  omega
theorem borrow8_zero {x y : Nat} : borrow8 x y 0 = 0 ∨ x < y := by simp [borrow8]
theorem sub_step8 {x y : Nat} (h : y ≤ x) (k : Nat) : (if byt x k < borrow8 x y k + byt y k then byt x k + 256 - borrow8 x y k - byt y k else byt x k - borrow8 x y k - byt y k) = byt (x - y) k ∧
    (if byt x k < borrow8 x y k + byt y k then 1 else 0) = borrow8 x y (k + 1) := by
  have h0 := borrow8_div h k
  have h1 := borrow8_div h (k + 1)
  simp only [Nat.pow_succ, ← Nat.div_div_eq_div_mul] at h1
  unfold byt
  split <;> omega
theorem bb_len_lt {x y : Nat} (h : (bb x).length < (bb y).length) : x < y := by
  have h1 := lt_pow_bb x
  rcases Nat.lt_or_ge x y with h2 | h2
  · exact h2
  · have := bb_length_le (x := y) (m := (bb x).length) (by omega)
    omega
/-- Of two words of the same length the one that is less as text is the lesser number. -/
theorem less_bval : ∀ (a b : List UInt8), a.length = b.length → (Op.bytesLess a b = decide (bval a < bval b))
  | [], [], _ => by simp [Op.bytesLess]
  | [], _ :: _, h => by simp at h
  | _ :: _, [], h => by simp at h
  | c :: x, d :: y, h => by
    have hl : x.length = y.length := by simpa using h
    have ih := less_bval x y hl
    have h1 := bval_lt x
    have h2 := bval_lt y
    rw [Op.bytesLess, ih, bval, bval, hl]
    rw [hl] at h1
    rcases Nat.lt_trichotomy c.toNat d.toNat with hc | hc | hc
    · have e1 : c < d := UInt8.lt_iff_toNat_lt.2 hc
      have : (c.toNat + 1) * 256 ^ y.length ≤ d.toNat * 256 ^ y.length := Nat.mul_le_mul_right _ hc
      rw [Nat.add_mul] at this
      simp only [e1, decide_true, Bool.true_or]
      symm; rw [decide_eq_true_iff]; omega
    · have e1 : c = d := UInt8.toNat_inj.1 hc
      subst e1
      simp
    · have e1 : ¬ c < d := fun e => by have := UInt8.lt_iff_toNat_lt.1 e; omega
      have e2 : (c == d) = false := by
        rw [beq_eq_false_iff_ne]; intro e; subst e; omega
      have : (d.toNat + 1) * 256 ^ y.length ≤ c.toNat * 256 ^ y.length := Nat.mul_le_mul_right _ hc
      rw [Nat.add_mul] at this
      simp only [e1, e2, decide_false, Bool.false_and, Bool.or_false]
      symm; rw [decide_eq_false_iff_not]; omega
end Go.Proofs.Ytadibbbaegbljaa

/- Contracts and plain laws of several functions, one after the other: Nat, NatB, NatM, KnuP, KnuQ. -/
import Derived.Lib.Hide
import Derived.Laws.BitsAllLaws
/- Plain arithmetic without the program: digits to the base 2^32 (least first) and to the base 256 (most significant first). -/
namespace Go.Proofs.Ytjpalbonclgflaa

def dig (x i : Nat) : Nat := x / 4294967296 ^ i % 4294967296
theorem dig_lt (x i : Nat) : dig x i < 4294967296 := Nat.mod_lt _ (by decide)
def Dn : Nat → Nat → List Nat
  | 0, _ => []
  | m + 1, x => x % 4294967296 :: Dn m (x / 4294967296)
def dg (x : Nat) : List Nat := if h : x = 0 then [] else (x % 4294967296) :: dg (x / 4294967296)
termination_by x
decreasing_by omega
def val : List Nat → Nat
  | [] => 0
  | d :: t => d + 4294967296 * val t
def tz : List Nat → List Nat
  | [] => []
  | d :: t => if d = 0 ∧ tz t = [] then [] else d :: tz t

theorem dg_zero : dg 0 = [] := by rw [dg]; simp
theorem dg_pos {x : Nat} (h : 0 < x) : dg x = (x % 4294967296) :: dg (x / 4294967296) := by rw [dg, dif_neg (by omega)]
theorem dg_nil {x : Nat} (h : dg x = []) : x = 0 := by
  rw [dg] at h
  split at h
  · assumption
  · cases h
theorem val_dg (x : Nat) : val (dg x) = x := by
  induction x using Nat.strongRecOn with
  | _ x ih =>
    by_cases h : x = 0
    · subst h; rw [dg_zero]; rfl
    · rw [dg_pos (by omega), val, ih _ (by omega)]; omega
theorem dg_lt (x : Nat) : ∀ d ∈ dg x, d < 4294967296 := by
  induction x using Nat.strongRecOn with
  | _ x ih =>
    by_cases h : x = 0
    · subst h; rw [dg_zero]; simp
    · rw [dg_pos (by omega)]
      intro d hd
      rcases List.mem_cons.1 hd with rfl | hd
      · omega
      · exact ih _ (by omega) d hd
theorem dig_zero (x : Nat) : dig x 0 = x % 4294967296 := by simp [dig]
theorem dig_succ (x i : Nat) : dig x (i + 1) = dig (x / 4294967296) i := by
  unfold dig; rw [Nat.pow_succ, Nat.mul_comm, Nat.div_div_eq_div_mul]
theorem dig_of_zero (i : Nat) : dig 0 i = 0 := by simp [dig]

theorem Dn_length (m x : Nat) : (Dn m x).length = m := by
  induction m generalizing x with
  | zero => rfl
  | succ m ih => simp [Dn, ih]
theorem Dn_get (m x i : Nat) (h : i < m) : (Dn m x)[i]? = some (dig x i) := by
  induction m generalizing x i with
  | zero => omega
  | succ m ih =>
    cases i with
    | zero => simp [Dn, dig_zero]
    | succ i => simp only [Dn, List.getElem?_cons_succ]; rw [ih _ _ (by omega), dig_succ]
theorem dg_get (x i : Nat) (h : i < (dg x).length) : (dg x)[i]? = some (dig x i) := by
  induction i generalizing x with
  | zero =>
    by_cases hx : x = 0
    · subst hx; rw [dg_zero] at h; simp at h
    · rw [dg_pos (by omega)]; simp [dig_zero]
  | succ i ih =>
    by_cases hx : x = 0
    · subst hx; rw [dg_zero] at h; simp at h
    · rw [dg_pos (by omega)] at h ⊢
      simp only [List.getElem?_cons_succ]
      rw [ih _ (by simpa using h), dig_succ]
theorem dig_beyond (x i : Nat) (h : (dg x).length ≤ i) : dig x i = 0 := by
  induction i generalizing x with
  | zero =>
    have : x = 0 := dg_nil (List.length_eq_zero_iff.1 (by omega))
    subst this; exact dig_of_zero 0
  | succ i ih =>
    by_cases hx : x = 0
    · subst hx; exact dig_of_zero _
    · rw [dg_pos (by omega)] at h
      rw [dig_succ]; exact ih _ (by simpa using h)
theorem pos_pow (i : Nat) : 0 < 4294967296 ^ i := Nat.pow_pos (by decide)
theorem lt_pow_dg (x : Nat) : x < 4294967296 ^ (dg x).length := by
  induction x using Nat.strongRecOn with
  | _ x ih =>
    by_cases h : x = 0
    · subst h; rw [dg_zero]; decide
    · rw [dg_pos (by omega)]
      have := ih (x / 4294967296) (by omega)
      simp only [List.length_cons, Nat.pow_succ]
      omega
theorem pow_le_dg (x : Nat) (h : 0 < x) : 4294967296 ^ ((dg x).length - 1) ≤ x := by
  induction x using Nat.strongRecOn with
  | _ x ih =>
    rw [dg_pos h]
    simp only [List.length_cons, Nat.add_sub_cancel]
    by_cases hq : x / 4294967296 = 0
    · rw [hq, dg_zero]; simp; omega
    · have h1 := ih (x / 4294967296) (by omega) (by omega)
      have h2 : 0 < (dg (x / 4294967296)).length := by
        rw [dg_pos (by omega)]; simp
      have e : (dg (x / 4294967296)).length = (dg (x / 4294967296)).length - 1 + 1 := by omega
      rw [e, Nat.pow_succ]
      omega
theorem dg_length_le {x m : Nat} (h : x < 4294967296 ^ m) : (dg x).length ≤ m := by
  by_cases hx : 0 < x
  · have h1 := pow_le_dg x hx
    have h2 : 4294967296 ^ ((dg x).length - 1) < 4294967296 ^ m := by omega
    have := (Nat.pow_lt_pow_iff_right (a := 4294967296) (by decide)).1 h2
    omega
  · have : x = 0 := by omega
    subst this; rw [dg_zero]; simp
theorem tz_lt {l : List Nat} (h : ∀ d ∈ l, d < 4294967296) : dg (val l) = tz l := by
  induction l with
  | nil => simp [val, tz, dg_zero]
  | cons d t ih =>
    have hd : d < 4294967296 := h d (by simp)
    have ht := ih (fun e he => h e (by simp [he]))
    rw [val, tz]
    by_cases h0 : d = 0 ∧ tz t = []
    · rw [if_pos h0]
      have hv : val t = 0 := dg_nil (ht.trans h0.2)
      rw [hv, h0.1]; exact dg_zero
    · rw [if_neg h0]
      have hp : 0 < d + 4294967296 * val t := by
        by_cases hd0 : d = 0
        · have : val t ≠ 0 := fun e => h0 ⟨hd0, by rw [← ht, e, dg_zero]⟩
          omega
        · omega
      rw [dg_pos hp]
      have e1 : (d + 4294967296 * val t) % 4294967296 = d := by omega
      have e2 : (d + 4294967296 * val t) / 4294967296 = val t := by omega
      rw [e1, e2, ht]
theorem tz_length (l : List Nat) : (tz l).length ≤ l.length := by
  induction l with
  | nil => simp [tz]
  | cons d t ih => rw [tz]; split <;> simp <;> omega
theorem tz_snoc_zero (l : List Nat) : tz (l ++ [0]) = tz l := by
  induction l with
  | nil => simp [tz]
  | cons d t ih => simp only [List.cons_append, tz, ih]
theorem tz_snoc_pos (l : List Nat) (d : Nat) (h : d ≠ 0) : tz (l ++ [d]) = l ++ [d] := by
  induction l with
  | nil => simp [tz, h]
  | cons e t ih => simp [tz, ih]
theorem Dn_lt (m x : Nat) : ∀ d ∈ Dn m x, d < 4294967296 := by
  induction m generalizing x with
  | zero => simp [Dn]
  | succ m ih =>
    intro d hd
    rcases List.mem_cons.1 hd with rfl | hd
    · omega
    · exact ih _ d hd
theorem val_Dn (m x : Nat) : val (Dn m x) = x % 4294967296 ^ m := by
  induction m generalizing x with
  | zero => simp [Dn, val, Nat.mod_one]
  | succ m ih =>
    simp only [Dn, val]
    rw [ih, Nat.pow_succ, Nat.mul_comm (4294967296 ^ m), Nat.mod_mul]
theorem tz_Dn {m x : Nat} (h : x < 4294967296 ^ m) : tz (Dn m x) = dg x := by
  rw [← tz_lt (Dn_lt m x), val_Dn, Nat.mod_eq_of_lt h]
theorem eq_Dn {l : List Nat} {m x : Nat} (hl : l.length = m) (h : ∀ i, i < m → l[i]? = some (dig x i)) : l = Dn m x := by
  apply List.ext_getElem?
  intro i
  by_cases hi : i < m
  · rw [h i hi, Dn_get _ _ _ hi]
  · rw [List.getElem?_eq_none (by omega), List.getElem?_eq_none (by rw [Dn_length]; omega)]
theorem Dn_zero (m : Nat) : Dn m 0 = List.replicate m 0 := by
  induction m with
  | zero => rfl
  | succ m ih => simp [Dn, ih, List.replicate_succ]

/-! ### Bytes, the most significant one first -/

def bval : List UInt8 → Nat
  | [] => 0
  | c :: t => c.toNat * 256 ^ t.length + bval t
theorem bval_lt (l : List UInt8) : bval l < 256 ^ l.length := by
  induction l with
  | nil => simp [bval]
  | cons c t ih =>
    have : c.toNat < 256 := UInt8.toNat_lt c
    simp only [bval, List.length_cons, Nat.pow_succ]
    have : c.toNat * 256 ^ t.length ≤ 255 * 256 ^ t.length := Nat.mul_le_mul_right _ (by omega)
    omega
theorem bval_snoc (l : List UInt8) (c : UInt8) : bval (l ++ [c]) = 256 * bval l + c.toNat := by
  induction l with
  | nil => simp [bval]
  | cons d t ih =>
    simp only [List.cons_append, bval, ih, List.length_append, List.length_cons, List.length_nil, Nat.zero_add, Nat.pow_succ]
    rw [Nat.mul_add, ← Nat.add_assoc]
    congr 2
    rw [Nat.mul_comm (256 ^ t.length), ← Nat.mul_assoc, ← Nat.mul_assoc, Nat.mul_comm 256]
def bb (x : Nat) : List UInt8 := if h : x = 0 then [] else bb (x / 256) ++ [UInt8.ofNat (x % 256)]
termination_by x
decreasing_by omega
theorem bb_zero : bb 0 = [] := by rw [bb]; simp
theorem bb_pos {x : Nat} (h : 0 < x) : bb x = bb (x / 256) ++ [UInt8.ofNat (x % 256)] := by rw [bb, dif_neg (by omega)]
theorem bb_step (y c : Nat) (hc : c < 256) (h : 0 < y ∨ 0 < c) : bb (256 * y + c) = bb y ++ [UInt8.ofNat c] := by
  rw [bb_pos (by omega)]
  have e1 : (256 * y + c) / 256 = y := by omega
  have e2 : (256 * y + c) % 256 = c := by omega
  rw [e1, e2]
theorem bval_bb (x : Nat) : bval (bb x) = x := by
  induction x using Nat.strongRecOn with
  | _ x ih =>
    by_cases h : x = 0
    · subst h; rw [bb_zero]; rfl
    · rw [bb_pos (by omega), bval_snoc, ih _ (by omega)]
      have : (UInt8.ofNat (x % 256)).toNat = x % 256 := by simp
      rw [this]; omega
theorem bb_inj {x y : Nat} (h : bb x = bb y) : x = y := by rw [← bval_bb x, ← bval_bb y, h]
theorem bb_nil {x : Nat} (h : bb x = []) : x = 0 := bb_inj (h.trans bb_zero.symm)
theorem bb_pos_of {x : Nat} (h : (bb x).length ≠ 0) : 0 < x := by
  rcases Nat.eq_zero_or_pos x with e | e
  · subst e; rw [bb_zero] at h; exact absurd rfl h
  · exact e
theorem bb_length_le {x m : Nat} (h : x < 256 ^ m) : (bb x).length ≤ m := by
  induction m generalizing x with
  | zero =>
    have : x = 0 := by simpa using h
    subst this; simp [bb_zero]
  | succ m ih =>
    by_cases hx : x = 0
    · subst hx; simp [bb_zero]
    · rw [bb_pos (by omega)]
      have := ih (x := x / 256) (by rw [Nat.pow_succ] at h; omega)
      simp; omega
end Go.Proofs.Ytjpalbonclgflaa

/- Plain arithmetic without the program: bytes into digits to the base 2^32 and back. -/
namespace Go.Proofs.Ytjpalbonclgflaa

theorem pow256 (k : Nat) : 256 ^ k = 4294967296 ^ (k / 4) * 256 ^ (k % 4) := by
  have : (4294967296 : Nat) = 256 ^ 4 := by decide
  rw [this, ← Nat.pow_mul, ← Nat.pow_add]
  congr 1; omega
theorem pow2_256 (r : Nat) : 2 ^ (8 * r) = 256 ^ r := by rw [Nat.pow_mul]
theorem pow256_lt {r : Nat} (h : r < 4) : 256 ^ (r + 1) ≤ 4294967296 := by
  have : 256 ^ (r + 1) ≤ 256 ^ 4 := Nat.pow_le_pow_right (by decide) (by omega)
  have e : 256 ^ 4 = 4294967296 := by decide
  omega

theorem dig_set {X X' m q new : Nat} (h1 : new = dig X' q) (h2 : ∀ i, i ≠ q → dig X' i = dig X i) : (Dn m X).set q new = Dn m X' := by
  refine eq_Dn (by simp [Dn_length]) fun i hi => ?_
  by_cases e : i = q
  · subst e; rw [List.getElem?_set_self (by rw [Dn_length]; exact hi), h1]
  · rw [List.getElem?_set_ne (fun h => e h.symm), Dn_get _ _ _ hi, h2 i e]

theorem byte_in {X k c : Nat} (hX : X < 256 ^ k) (hc : c < 256) :
    dig X (k / 4) ||| (c % 4294967296 * 2 ^ (8 * (k % 4)) % 4294967296) = dig (c * 256 ^ k + X) (k / 4) ∧ ∀ i, i ≠ k / 4 → dig (c * 256 ^ k + X) i = dig X i := by
  have hp := pos_pow (k / 4)
  have hr := pow256_lt (r := k % 4) (by omega)
  rw [Nat.pow_succ] at hr
  have hX' : X < 4294967296 ^ (k / 4) * 256 ^ (k % 4) := by rw [← pow256]; exact hX
  have hq : X / 4294967296 ^ (k / 4) < 256 ^ (k % 4) := (Nat.div_lt_iff_lt_mul hp).2 (by rw [Nat.mul_comm]; exact hX')
  have hcr : c * 256 ^ (k % 4) ≤ 255 * 256 ^ (k % 4) := Nat.mul_le_mul_right _ (by omega)
  have hdiv : (c * 256 ^ k + X) / 4294967296 ^ (k / 4) = c * 256 ^ (k % 4) + X / 4294967296 ^ (k / 4) := by
    rw [pow256 k, show c * (4294967296 ^ (k / 4) * 256 ^ (k % 4)) = 4294967296 ^ (k / 4) * (c * 256 ^ (k % 4)) by rw [Nat.mul_left_comm], Nat.mul_add_div hp]
  constructor
  · unfold dig
    rw [hdiv, Nat.mod_eq_of_lt (show X / 4294967296 ^ (k / 4) < 4294967296 by omega), Nat.mod_eq_of_lt (show c < 4294967296 by omega), pow2_256,
      Nat.mod_eq_of_lt (show c * 256 ^ (k % 4) < 4294967296 by omega), Nat.mod_eq_of_lt (show c * 256 ^ (k % 4) + X / 4294967296 ^ (k / 4) < 4294967296 by omega)]
    have h := Nat.shiftLeft_add_eq_or_of_lt (b := X / 4294967296 ^ (k / 4)) (i := 8 * (k % 4)) (by rw [pow2_256]; exact hq) c
    rw [Nat.shiftLeft_eq, pow2_256] at h
    rw [h, Nat.or_comm]
  · intro i hi
    unfold dig
    rcases Nat.lt_or_gt_of_ne hi with hlt | hgt
    · have e : 256 ^ k = 4294967296 ^ i * (4294967296 * (4294967296 ^ (k / 4 - i - 1) * 256 ^ (k % 4))) := by
        have e1 : 4294967296 ^ (k / 4) = 4294967296 ^ i * (4294967296 * 4294967296 ^ (k / 4 - i - 1)) := by
          rw [Nat.mul_comm 4294967296, ← Nat.pow_succ, ← Nat.pow_add]; congr 1; omega
        rw [pow256 k, e1]
        simp only [Nat.mul_assoc]
      rw [e, Nat.mul_left_comm c, Nat.mul_add_div (pos_pow i), Nat.mul_left_comm c, Nat.mul_add_mod]
    · have hle : 4294967296 ^ (k / 4 + 1) ≤ 4294967296 ^ i := Nat.pow_le_pow_right (by decide) hgt
      rw [Nat.pow_succ] at hle
      have h1 : 256 ^ k * 256 ≤ 4294967296 ^ (k / 4) * 4294967296 := by
        rw [pow256 k, Nat.mul_assoc]; exact Nat.mul_le_mul_left _ hr
      have h2 : c * 256 ^ k ≤ 255 * 256 ^ k := Nat.mul_le_mul_right _ (by omega)
      rw [Nat.div_eq_of_lt (by omega), Nat.div_eq_of_lt (by omega)]

theorem byte_out (x j q : Nat) (hq : q < 4) : x / 4294967296 ^ j / 256 ^ q = 256 * (x / 4294967296 ^ j / 256 ^ (q + 1)) + dig x j / 2 ^ (8 * q) % 256 := by
  unfold dig
  have h : x / 4294967296 ^ j % 4294967296 / 2 ^ (8 * q) % 256 = x / 4294967296 ^ j / 256 ^ q % 256 := by
    generalize x / 4294967296 ^ j = z
    have e : (4294967296 : Nat) = 256 ^ q * (256 * 256 ^ (3 - q)) := by
      rw [← Nat.pow_succ', ← Nat.pow_add, show q + (3 - q + 1) = 4 by omega]
    rw [pow2_256]
    conv => lhs; rw [e]
    rw [Nat.mod_mul_right_div_self, Nat.mod_mul_right_mod]
  rw [h, Nat.pow_succ, ← Nat.div_div_eq_div_mul]
  omega
theorem bval_drop (l : List UInt8) (k : Nat) (h : k < l.length) : bval (l.drop (l.length - (k + 1))) = (l[l.length - 1 - k]'(by omega)).toNat * 256 ^ k + bval (l.drop (l.length - k)) := by
  rw [List.drop_eq_getElem_cons (by omega), bval]
  have e1 : l.length - (k + 1) + 1 = l.length - k := by omega
  have e2 : l.length - (k + 1) = l.length - 1 - k := by omega
  simp only [e1, List.length_drop]
  have e3 : l.length - (l.length - k) = k := by omega
  rw [e3]
  congr 3
  simp [e2]
theorem bval_drop_lt (l : List UInt8) (k : Nat) : bval (l.drop (l.length - k)) < 256 ^ k := by
  have h := bval_lt (l.drop (l.length - k))
  have h2 : 256 ^ (l.drop (l.length - k)).length ≤ 256 ^ k := Nat.pow_le_pow_right (by decide) (by simp; omega)
  omega
theorem or_cell {d c r : Nat} (hd : d < 4294967296) : bits BinOp.or IntKind.u32 (d : Int) ((c : Int) % 4294967296 * 2 ^ (8 * r) % 4294967296) = ((d ||| (c % 4294967296 * 2 ^ (8 * r) % 4294967296) : Nat) : Int) := by
  have e : ((c : Int) % 4294967296 * 2 ^ (8 * r) % 4294967296) = ((c % 4294967296 * 2 ^ (8 * r) % 4294967296 : Nat) : Int) := by
    simp only [Int.natCast_emod, Int.natCast_mul, Int.natCast_pow]; rfl
  rw [e]
  exact u32_or_nat _ _ hd (Nat.mod_lt _ (by decide))

/-! ### Comparing, adding, subtracting digit by digit -/

def cmpN (x y : Nat) : Int := if x < y then -1 else if x = y then 0 else 1
theorem cmpN_lt {x y : Nat} (h : x < y) : cmpN x y = -1 := by simp [cmpN, h]
theorem cmpN_gt {x y : Nat} (h : y < x) : cmpN x y = 1 := by unfold cmpN; rw [if_neg (by omega), if_neg (by omega)]
theorem cmpN_eq (x : Nat) : cmpN x x = 0 := by simp [cmpN]
theorem lt_of_len {x y : Nat} (h : (dg x).length < (dg y).length) : x < y := by
  have h1 := lt_pow_dg x
  have h2 : 0 < y := by
    rcases Nat.eq_zero_or_pos y with e | e
    · subst e; rw [dg_zero] at h; simp at h
    · exact e
  have h3 := pow_le_dg y h2
  have h4 : 4294967296 ^ (dg x).length ≤ 4294967296 ^ ((dg y).length - 1) := Nat.pow_le_pow_right (by decide) (by omega)
  omega
theorem div_step (x j : Nat) : x / 4294967296 ^ j = 4294967296 * (x / 4294967296 ^ (j + 1)) + dig x j := by
  unfold dig
  rw [Nat.pow_succ, ← Nat.div_div_eq_div_mul]; omega
theorem lt_of_div {x y j : Nat} (h : x / 4294967296 ^ (j + 1) = y / 4294967296 ^ (j + 1)) (hd : dig x j < dig y j) : x < y := by
  have h1 := div_step x j
  have h2 := div_step y j
  rcases Nat.lt_or_ge x y with h3 | h3
  · exact h3
  · have := Nat.div_le_div_right (c := 4294967296 ^ j) h3
    omega
def carry (x y k : Nat) : Nat := (x + y) / 4294967296 ^ k - x / 4294967296 ^ k - y / 4294967296 ^ k
theorem carry_div (x y k : Nat) : (x + y) / 4294967296 ^ k = x / 4294967296 ^ k + y / 4294967296 ^ k + carry x y k ∧ carry x y k ≤ 1 := by
  unfold carry
  have := Nat.add_div (a := x) (b := y) (pos_pow k)
  split at this <;> omega
theorem carry_zero (x y : Nat) : carry x y 0 = 0 := by simp [carry]
theorem add_step (x y k : Nat) : (dig x k + carry x y k + dig y k) % 4294967296 = dig (x + y) k ∧ (dig x k + carry x y k + dig y k) / 4294967296 = carry x y (k + 1) := by
  have h0 := carry_div x y k
  have h1 := carry_div x y (k + 1)
  simp only [Nat.pow_succ, ← Nat.div_div_eq_div_mul] at h1
  unfold dig
  omega
def borrow (x y k : Nat) : Nat := x / 4294967296 ^ k - y / 4294967296 ^ k - (x - y) / 4294967296 ^ k
theorem borrow_div {x y : Nat} (h : y ≤ x) (k : Nat) : x / 4294967296 ^ k = y / 4294967296 ^ k + (x - y) / 4294967296 ^ k + borrow x y k ∧ borrow x y k ≤ 1 := by
  have h1 := carry_div y (x - y) k
  rw [show y + (x - y) = x by omega] at h1
  unfold borrow
  omega
theorem borrow_zero {x y : Nat} (h : y ≤ x) : borrow x y 0 = 0 := by simp [borrow]
theorem sub_step {x y : Nat} (h : y ≤ x) (k : Nat) : (if dig x k < borrow x y k + dig y k then dig x k + 4294967296 - borrow x y k - dig y k else dig x k - borrow x y k - dig y k) = dig (x - y) k ∧
    (if dig x k < borrow x y k + dig y k then 1 else 0) = borrow x y (k + 1) := by
  have h0 := borrow_div h k
  have h1 := borrow_div h (k + 1)
  simp only [Nat.pow_succ, ← Nat.div_div_eq_div_mul] at h1
  unfold dig
  split <;> omega
end Go.Proofs.Ytjpalbonclgflaa

/- Plain arithmetic of multiplication, digit by digit. -/
namespace Go.Proofs.Ytjpalbonclgflaa

def mixD (m j z p : Nat) : List Nat := (List.range m).map fun i => if i < j then dig z i else dig p i
theorem mixD_length (m j z p : Nat) : (mixD m j z p).length = m := by simp [mixD]
theorem mixD_get {m j z p i : Nat} (h : i < m) : (mixD m j z p)[i]? = some (if i < j then dig z i else dig p i) := by simp [mixD, h]
theorem mixD_same (m j z : Nat) : mixD m j z z = Dn m z := eq_Dn (mixD_length _ _ _ _) fun i hi => by rw [mixD_get hi]; split <;> rfl
theorem mixD_set {m j z z' p new : Nat} (h : j < m) (h1 : new = dig z' j) (h2 : ∀ i, i < j → dig z' i = dig z i) : (mixD m j z p).set j new = mixD m (j + 1) z' p := by
  apply List.ext_getElem?
  intro i
  by_cases hi : i < m
  · rw [mixD_get hi]
    by_cases e : i = j
    · subst e; rw [List.getElem?_set_self (by rw [mixD_length]; exact hi), if_pos (by omega), h1]
    · rw [List.getElem?_set_ne (fun h => e h.symm), mixD_get hi]
      by_cases hlt : i < j
      · rw [if_pos hlt, if_pos (by omega), h2 i hlt]
      · rw [if_neg hlt, if_neg (by omega)]
  · rw [List.getElem?_eq_none (by rw [List.length_set, mixD_length]; omega), List.getElem?_eq_none (by rw [mixD_length]; omega)]
theorem mul_step {Z P c de q : Nat} (h : Z / 4294967296 ^ q = P / 4294967296 ^ q + c) :
    (de + dig P q + c) % 4294967296 = dig (Z + de * 4294967296 ^ q) q ∧ (Z + de * 4294967296 ^ q) / 4294967296 ^ (q + 1) = P / 4294967296 ^ (q + 1) + (de + dig P q + c) / 4294967296 ∧
    ∀ i, i < q → dig (Z + de * 4294967296 ^ q) i = dig Z i := by
  have hp := pos_pow q
  have h1 : (Z + de * 4294967296 ^ q) / 4294967296 ^ q = P / 4294967296 ^ q + c + de := by rw [Nat.add_mul_div_right _ _ hp, h]
  refine ⟨?_, ?_, ?_⟩
  · unfold dig; rw [h1]; omega
  · rw [Nat.pow_succ, ← Nat.div_div_eq_div_mul, ← Nat.div_div_eq_div_mul, h1]; unfold dig; omega
  · intro i hi
    unfold dig
    have e : 4294967296 ^ q = 4294967296 ^ i * (4294967296 * 4294967296 ^ (q - i - 1)) := by
      rw [← Nat.pow_succ', ← Nat.pow_add]; congr 1; omega
    rw [e, Nat.mul_left_comm de, Nat.add_mul_div_left _ _ (pos_pow i), Nat.mul_left_comm de, Nat.add_mul_mod_self_left]
theorem mod_succ (x i : Nat) : x % 4294967296 ^ (i + 1) = x % 4294967296 ^ i + dig x i * 4294967296 ^ i := by
  unfold dig
  rw [Nat.pow_succ, Nat.mod_mul, Nat.mul_comm (4294967296 ^ i)]
theorem de_lt {d e : Nat} (hd : d < 4294967296) (he : e < 4294967296) : d * e ≤ 18446744065119617025 := Nat.mul_le_mul (show d ≤ 4294967295 by omega) (show e ≤ 4294967295 by omega)
def mulZ (x y i k : Nat) : Nat := (x % 4294967296 ^ i) * y + dig x i * (y % 4294967296 ^ k) * 4294967296 ^ i
theorem mulZ_zero (x y i : Nat) : mulZ x y i 0 = (x % 4294967296 ^ i) * y := by simp [mulZ, Nat.mod_one]
theorem mulZ_succ (x y i k : Nat) : mulZ x y i (k + 1) = mulZ x y i k + (dig x i * dig y k) * 4294967296 ^ (i + k) := by
  unfold mulZ
  rw [mod_succ y k, Nat.mul_add, Nat.add_mul, Nat.add_assoc, Nat.pow_add, Nat.mul_assoc (dig x i) (dig y k)]
  congr 2
  rw [Nat.mul_comm (4294967296 ^ i)]
  simp only [Nat.mul_assoc]
theorem mulZ_full (x y i n : Nat) (h : y < 4294967296 ^ n) : mulZ x y i n = (x % 4294967296 ^ (i + 1)) * y := by
  unfold mulZ
  rw [Nat.mod_eq_of_lt h, mod_succ, Nat.add_mul]
  congr 1
  rw [Nat.mul_assoc, Nat.mul_assoc, Nat.mul_comm y]
theorem mulP_lt (x y i n : Nat) (h : y < 4294967296 ^ n) : (x % 4294967296 ^ i) * y < 4294967296 ^ (i + n) := by
  rw [Nat.pow_add]
  have h1 : x % 4294967296 ^ i < 4294967296 ^ i := Nat.mod_lt _ (pos_pow i)
  exact Nat.mul_lt_mul'' h1 h
theorem mul_last {x y i n c : Nat} (h : y < 4294967296 ^ n) (hz : mulZ x y i n / 4294967296 ^ (i + n) = (x % 4294967296 ^ i) * y / 4294967296 ^ (i + n) + c) (hc : c < 4294967296) :
    c = dig ((x % 4294967296 ^ (i + 1)) * y) (i + n) ∧ ∀ j, i + n < j → dig ((x % 4294967296 ^ (i + 1)) * y) j = 0 := by
  rw [Nat.div_eq_of_lt (mulP_lt x y i n h), Nat.zero_add, mulZ_full _ _ _ _ h] at hz
  constructor
  · unfold dig; rw [hz, Nat.mod_eq_of_lt hc]
  · intro j hj
    have h1 := mulP_lt x y (i + 1) n h
    have h2 : 4294967296 ^ (i + 1 + n) ≤ 4294967296 ^ j := Nat.pow_le_pow_right (by decide) (by omega)
    unfold dig
    rw [Nat.div_eq_of_lt (by omega)]
theorem mul_last_set {m x y i n c : Nat} (hm : i + n < m) (h : y < 4294967296 ^ n) (hz : mulZ x y i n / 4294967296 ^ (i + n) = (x % 4294967296 ^ i) * y / 4294967296 ^ (i + n) + c) (hc : c < 4294967296) :
    (mixD m (i + n) (mulZ x y i n) ((x % 4294967296 ^ i) * y)).set (i + n) c = Dn m ((x % 4294967296 ^ (i + 1)) * y) := by
  obtain ⟨h1, h2⟩ := mul_last h hz hc
  rw [mixD_set (z' := (x % 4294967296 ^ (i + 1)) * y) hm h1 (fun j _ => by rw [mulZ_full _ _ _ _ h])]
  refine eq_Dn (mixD_length _ _ _ _) fun j hj => ?_
  rw [mixD_get hj]
  split
  · rfl
  · rename_i hn
    rw [h2 j (by omega)]
    have h1 := mulP_lt x y i n h
    have h3 : 4294967296 ^ (i + n) ≤ 4294967296 ^ j := Nat.pow_le_pow_right (by decide) (by omega)
    unfold dig
    rw [Nat.div_eq_of_lt (by omega)]
theorem dg_mul_length (x y : Nat) : (dg (x * y)).length ≤ (dg x).length + (dg y).length := by
  refine dg_length_le ?_
  rw [Nat.pow_add]
  exact Nat.mul_lt_mul'' (lt_pow_dg x) (lt_pow_dg y)
end Go.Proofs.Ytjpalbonclgflaa

/- Long division on digits: the plain part. -/
namespace Go.Proofs.Ytjpalbonclgflaa

theorem dig_lo {a p q : Nat} (e : Nat) (h : q < p) : dig (a + 4294967296 ^ p * e) q = dig a q := by
  obtain ⟨r, rfl⟩ : ∃ r, p = q + (r + 1) := ⟨p - q - 1, by omega⟩
  unfold dig
  rw [Nat.pow_add, Nat.mul_assoc, Nat.add_mul_div_left _ _ (pos_pow q), Nat.pow_succ, Nat.mul_right_comm, Nat.mul_comm _ 4294967296, Nat.add_mul_mod_self_left]
theorem dig_hi {a p : Nat} (e r : Nat) (ha : a < 4294967296 ^ p) : dig (a + 4294967296 ^ p * e) (p + r) = dig e r := by
  unfold dig
  rw [Nat.pow_add, ← Nat.div_div_eq_div_mul, Nat.add_mul_div_left _ _ (pos_pow p), Nat.div_eq_of_lt ha, Nat.zero_add]
def prt (p a c h : Nat) : Nat := a + 4294967296 ^ p * (c + 4294967296 * h)
theorem prt_at {p a c h : Nat} (ha : a < 4294967296 ^ p) (hc : c < 4294967296) : dig (prt p a c h) p = c := by
  have := dig_hi (c + 4294967296 * h) 0 ha
  rw [Nat.add_zero] at this
  unfold prt
  rw [this, dig_zero, Nat.add_mul_mod_self_left, Nat.mod_eq_of_lt hc]
theorem prt_set {U p a c d h : Nat} (ha : a < 4294967296 ^ p) (hd : d < 4294967296) (hc : c < 4294967296) : (Dn U (prt p a c h)).set p d = Dn U (prt p a d h) := by
  refine dig_set (prt_at ha hd).symm (fun i hi => ?_)
  rcases Nat.lt_or_ge i p with h1 | h1
  · unfold prt; rw [dig_lo _ h1, dig_lo _ h1]
  · obtain ⟨r, rfl⟩ : ∃ r, i = p + (r + 1) := ⟨i - p - 1, by omega⟩
    unfold prt
    rw [dig_hi _ _ ha, dig_hi _ _ ha, dig_succ, dig_succ, Nat.add_mul_div_left _ _ (by decide), Nat.add_mul_div_left _ _ (by decide), Nat.div_eq_of_lt hd, Nat.div_eq_of_lt hc]
/-! ### The guess -/
structure Gs (T V top vh g r : Nat) : Prop where
  sum : g * vh + r = top
  up : T / V ≤ g

structure Gd (T V top vh vl u s : Nat) : Prop where
  vh0 : 2147483648 ≤ vh
  vh1 : vh < 4294967296
  vl1 : vl < 4294967296
  u1 : u < 4294967296
  vlo : (vh * 4294967296 + vl) * 4294967296 ^ s ≤ V
  vup : V < (vh * 4294967296 + vl + 1) * 4294967296 ^ s
  tlo : (top * 4294967296 + u) * 4294967296 ^ s ≤ T
  tup : T < (top * 4294967296 + u + 1) * 4294967296 ^ s
  lt : T < V * 4294967296

variable {T V top vh vl u s g r : Nat}
theorem Gd.vpos (h : Gd T V top vh vl u s) : 0 < V := Nat.lt_of_lt_of_le (Nat.mul_pos (by have := h.vh0; omega) (pos_pow s)) h.vlo
theorem Gd.quo (h : Gd T V top vh vl u s) : T / V < 4294967296 := Nat.div_lt_of_lt_mul h.lt
theorem Gd.top_le (h : Gd T V top vh vl u s) : top ≤ vh * 4294967296 + vl := by
  have h1 := Nat.lt_of_le_of_lt h.tlo (Nat.lt_trans h.lt (Nat.mul_lt_mul_of_pos_right h.vup (by decide)))
  rw [Nat.mul_right_comm] at h1
  have := Nat.lt_of_mul_lt_mul_right h1
  omega
theorem Gd.start (h : Gd T V top vh vl u s) : Gs T V top vh (top / vh) (top % vh) := by
  have hv := h.vpos
  refine ⟨by rw [Nat.mul_comm]; exact Nat.div_add_mod _ _, ?_⟩
  refine (Nat.le_div_iff_mul_le (by have := h.vh0; omega)).2 ?_
  have h1 : T / V * V ≤ T := Nat.div_mul_le_self _ _
  have h2 : T / V * ((vh * 4294967296) * 4294967296 ^ s) ≤ T / V * V := Nat.mul_le_mul_left _ (Nat.le_trans (Nat.mul_le_mul_right _ (by omega)) h.vlo)
  have h3 := Nat.lt_of_le_of_lt (Nat.le_trans h2 h1) h.tup
  have h4 : T / V * ((vh * 4294967296) * 4294967296 ^ s) = (T / V * vh * 4294967296) * 4294967296 ^ s := by
    simp only [Nat.mul_assoc]
  rw [h4] at h3
  have := Nat.lt_of_mul_lt_mul_right h3
  have := h.u1
  omega
theorem Gd.first (h : Gd T V top vh vl u s) : top / vh ≤ 4294967297 ∧ (top / vh = 4294967297 → top % vh + vh < 4294967296) := by
  have h1 := h.top_le
  have h2 := Nat.div_add_mod top vh
  have h3 := Nat.mod_lt top (show vh > 0 by have := h.vh0; omega)
  have h4 := h.vh0
  have h5 := h.vl1
  constructor
  · have : top / vh < 4294967298 := Nat.div_lt_of_lt_mul (by omega)
    omega
  · intro he
    rw [he] at h2
    omega
theorem Gd.less (h : Gd T V top vh vl u s) (k : Gs T V top vh g r) (ht : 4294967296 ≤ g ∨ r * 4294967296 + u < g * vl) : 0 < g ∧ Gs T V top vh (g - 1) (r + vh) := by
  have hq := h.quo
  have hk := k.up
  have hlt : T / V < g := by
    rcases ht with h1 | h1
    · omega
    · refine (Nat.div_lt_iff_lt_mul h.vpos).2 ?_
      refine Nat.lt_of_lt_of_le h.tup ?_
      refine Nat.le_trans ?_ (Nat.mul_le_mul_left g h.vlo)
      rw [← Nat.mul_assoc]
      refine Nat.mul_le_mul_right _ ?_
      rw [Nat.mul_add, ← Nat.mul_assoc]
      have := k.sum
      omega
  have hg0 : 0 < g := Nat.lt_of_le_of_lt (Nat.zero_le _) hlt
  refine ⟨hg0, ?_, Nat.le_sub_one_of_lt hlt⟩
  clear hlt hq hk
  obtain ⟨e, rfl⟩ : ∃ e, g = e + 1 := ⟨g - 1, by omega⟩
  have := k.sum
  rw [Nat.add_mul] at this
  simp
  omega
theorem Gd.done (h : Gd T V top vh vl u s) (k : Gs T V top vh g r) (hg : g < 4294967296) (ht : g * vl ≤ r * 4294967296 + u) : g = T / V ∨ g = T / V + 1 := by
  have hv := h.vpos
  have hk := k.up
  have h1 : g * ((vh * 4294967296 + vl) * 4294967296 ^ s) ≤ T := by
    refine Nat.le_trans ?_ h.tlo
    rw [← Nat.mul_assoc]
    refine Nat.mul_le_mul_right _ ?_
    rw [Nat.mul_add, ← Nat.mul_assoc]
    have := k.sum
    omega
  have h2 : g * V ≤ T + g * 4294967296 ^ s := by
    have h3 := Nat.mul_le_mul_left g (Nat.le_of_lt h.vup)
    rw [Nat.add_mul, Nat.one_mul, Nat.mul_add] at h3
    omega
  have h3 : g * 4294967296 ^ s < V := by
    refine Nat.lt_of_lt_of_le (Nat.mul_lt_mul_of_pos_right hg (pos_pow s)) (Nat.le_trans (Nat.mul_le_mul_right _ ?_) h.vlo)
    have := h.vh0
    omega
  have h4 : g * V < T + V := by omega
  have h5 : g < T / V + 2 := by
    have h6 := Nat.div_add_mod T V
    have h7 := Nat.mod_lt T hv
    have h8 : g * V < (T / V + 2) * V := by rw [Nat.add_mul, Nat.mul_comm (T / V)]; omega
    exact Nat.lt_of_mul_lt_mul_right h8
  omega
theorem Gd.brk (h : Gd T V top vh vl u s) (hg : g < 4294967296) (hr : 4294967296 ≤ r) : g * vl ≤ r * 4294967296 + u := by
  have h1 := h.vl1
  have h2 : g * vl ≤ 4294967296 * 4294967296 := Nat.mul_le_mul (by omega) (by omega)
  omega
end Go.Proofs.Ytjpalbonclgflaa

/- Long division on digits: the steps of its loops, plain. -/
namespace Go.Proofs.Ytjpalbonclgflaa

theorem pow_add2 (j i : Nat) : 4294967296 ^ j * 4294967296 ^ i = (4294967296 : Nat) ^ (i + j) := by rw [Nat.add_comm, Nat.pow_add]
theorem u_prt (lo L S i j : Nat) : lo + 4294967296 ^ j * (L + 4294967296 ^ i * (S / 4294967296 ^ i)) = prt (i + j) (lo + 4294967296 ^ j * L) (dig S i) (S / 4294967296 ^ (i + 1)) := by
  unfold prt
  rw [div_step S i, ← pow_add2 j i, Nat.mul_add (4294967296 ^ j) L, Nat.add_assoc, Nat.add_comm (4294967296 * _), Nat.mul_assoc (4294967296 ^ j)]
theorem u_low {lo L i j : Nat} (hlo : lo < 4294967296 ^ j) (hL : L < 4294967296 ^ i) : lo + 4294967296 ^ j * L < 4294967296 ^ (i + j) := by
  rw [← pow_add2 j i]
  have h := Nat.mul_le_mul_left (4294967296 ^ j) (show L + 1 ≤ 4294967296 ^ i from hL)
  rw [Nat.mul_add, Nat.mul_one] at h
  omega
theorem u_get {lo L S i j : Nat} (hlo : lo < 4294967296 ^ j) (hL : L < 4294967296 ^ i) : dig (lo + 4294967296 ^ j * (L + 4294967296 ^ i * (S / 4294967296 ^ i))) (i + j) = dig S i := by
  rw [u_prt]; exact prt_at (u_low hlo hL) (dig_lt _ _)
theorem u_set {U lo L S i j d : Nat} (hlo : lo < 4294967296 ^ j) (hL : L < 4294967296 ^ i) (hd : d < 4294967296) :
    (Dn U (lo + 4294967296 ^ j * (L + 4294967296 ^ i * (S / 4294967296 ^ i)))).set (i + j) d = Dn U (lo + 4294967296 ^ j * ((L + 4294967296 ^ i * d) + 4294967296 ^ (i + 1) * (S / 4294967296 ^ (i + 1)))) := by
  rw [u_prt, prt_set (u_low hlo hL) hd (dig_lt _ _)]
  congr 1
  unfold prt
  rw [← pow_add2 j i, Nat.add_assoc L, Nat.mul_add (4294967296 ^ j) L, Nat.pow_succ, Nat.mul_assoc (4294967296 ^ i) 4294967296, ← Nat.mul_add (4294967296 ^ i), Nat.mul_assoc (4294967296 ^ j), Nat.add_assoc]
theorem u_dig {lo S j : Nat} (i : Nat) (hlo : lo < 4294967296 ^ j) : dig (lo + 4294967296 ^ j * S) (j + i) = dig S i := dig_hi S i hlo
theorem low_set {L i d : Nat} (hL : L < 4294967296 ^ i) (hd : d < 4294967296) : L + 4294967296 ^ i * d < 4294967296 ^ (i + 1) := by
  have := u_low (lo := L) (L := d) (i := 1) (j := i) hL (by simpa using hd)
  rwa [Nat.add_comm 1 i] at this

/-! ### The product is taken away -/
structure Ms (S V g i L b c : Nat) : Prop where
  lt : L < 4294967296 ^ i
  b1 : b ≤ 1
  c1 : c < 4294967296
  eq : S % 4294967296 ^ i + (b + c) * 4294967296 ^ i = L + g * (V % 4294967296 ^ i)
theorem Ms.start (S V g : Nat) : Ms S V g 0 0 0 0 := ⟨by simp, by omega, by omega, by simp [Nat.mod_one]⟩
variable {S V g i L b c : Nat}
theorem Ms.p_lt (h : Ms S V g i L b c) (hg : g < 4294967296) : g * dig V i + c < 18446744073709551616 := by
  have := de_lt hg (dig_lt V i)
  have := h.c1
  omega
theorem Ms.step (h : Ms S V g i L b c) (hg : g < 4294967296) {d b2 : Nat} (hd : d < 4294967296) (hb2 : b2 ≤ 1)
    (e : d + b + (g * dig V i + c) % 4294967296 = dig S i + b2 * 4294967296) : Ms S V g (i + 1) (L + 4294967296 ^ i * d) b2 ((g * dig V i + c) / 4294967296) := by
  have hp := h.p_lt hg
  refine ⟨low_set h.lt hd, hb2, by omega, ?_⟩
  rw [mod_succ, mod_succ, Nat.mul_add, Nat.pow_succ]
  have h1 := h.eq
  have h2 := Nat.div_add_mod (g * dig V i + c) 4294967296
  obtain ⟨x, hx⟩ : ∃ x, x = (g * dig V i + c) / 4294967296 := ⟨_, rfl⟩
  obtain ⟨y, hy⟩ : ∃ y, y = (g * dig V i + c) % 4294967296 := ⟨_, rfl⟩
  obtain ⟨P, hP⟩ : ∃ P, P = 4294967296 ^ i := ⟨_, rfl⟩
  rw [← hx, ← hy] at h2
  rw [← hy] at e
  rw [← hx, ← hP]
  rw [← hP] at h1
  have e3 : dig S i + (b2 + x) * 4294967296 = b + c + d + g * dig V i := by omega
  have e4 : dig S i * P + (b2 + x) * (P * 4294967296) = (dig S i + (b2 + x) * 4294967296) * P := by rw [Nat.add_mul (dig S i), Nat.mul_assoc (b2 + x), Nat.mul_comm P]
  have e5 : (b + c + d + g * dig V i) * P = (b + c) * P + P * d + g * (dig V i * P) := by rw [Nat.add_mul, Nat.add_mul, Nat.mul_comm d, Nat.mul_assoc]
  rw [e3, e5] at e4
  omega
theorem Ms.end0 {m : Nat} (h : Ms S V g m L b c) (hV : V < 4294967296 ^ m) (hV0 : 0 < V) (hg : g = S / V) : S / 4294967296 ^ m = b + c ∧ L = S % V := by
  have h1 := h.eq
  rw [Nat.mod_eq_of_lt hV, hg] at h1
  have h2 := Nat.div_add_mod S V
  have h3 := Nat.mod_lt S hV0
  have h4 := Nat.div_add_mod S (4294967296 ^ m)
  have h5 := h.lt
  obtain ⟨P, hP⟩ : ∃ P, P = 4294967296 ^ m := ⟨_, rfl⟩
  rw [← hP] at h1 h4 h5 ⊢
  rw [Nat.mul_comm V] at h2
  obtain ⟨t, ht⟩ : ∃ t, t = S / P := ⟨_, rfl⟩
  rw [← ht] at h4 ⊢
  rw [Nat.mul_comm P] at h4
  have h6 : t * P + L = (b + c) * P + S % V := by omega
  have h7 : t = b + c := by
    rcases Nat.lt_trichotomy t (b + c) with h8 | h8 | h8
    · have := Nat.mul_le_mul_right P (show t + 1 ≤ b + c from h8)
      rw [Nat.add_mul] at this; omega
    · exact h8
    · have := Nat.mul_le_mul_right P (show b + c + 1 ≤ t from h8)
      rw [Nat.add_mul] at this; omega
  rw [h7] at h6
  exact ⟨h7, by omega⟩
theorem Ms.end1 {m : Nat} (h : Ms S V g m L b c) (hV : V < 4294967296 ^ m) (hV0 : 0 < V) (hg : g = S / V + 1) : S / 4294967296 ^ m + 1 = b + c ∧ L + V = 4294967296 ^ m + S % V := by
  have h1 := h.eq
  rw [Nat.mod_eq_of_lt hV, hg, Nat.add_mul (S / V)] at h1
  have h2 := Nat.div_add_mod S V
  have h3 := Nat.mod_lt S hV0
  have h4 := Nat.div_add_mod S (4294967296 ^ m)
  have h5 := h.lt
  obtain ⟨P, hP⟩ : ∃ P, P = 4294967296 ^ m := ⟨_, rfl⟩
  rw [← hP] at h1 h4 h5 ⊢
  rw [Nat.mul_comm V] at h2
  obtain ⟨t, ht⟩ : ∃ t, t = S / P := ⟨_, rfl⟩
  rw [← ht] at h4 ⊢
  rw [Nat.mul_comm P] at h4
  have h6 : t * P + L + V = (b + c) * P + S % V := by omega
  have h7 : t + 1 = b + c := by
    rcases Nat.lt_trichotomy (t + 1) (b + c) with h8 | h8 | h8
    · have := Nat.mul_le_mul_right P (show t + 2 ≤ b + c from h8)
      rw [Nat.add_mul] at this; omega
    · exact h8
    · have := Nat.mul_le_mul_right P (show b + c ≤ t by omega)
      omega
  rw [← h7, Nat.add_mul] at h6
  exact ⟨h7, by omega⟩

/-! ### The divisor is added back -/
structure Ad (L V i K c : Nat) : Prop where
  lt : K < 4294967296 ^ i
  c1 : c ≤ 1
  eq : L % 4294967296 ^ i + V % 4294967296 ^ i = K + c * 4294967296 ^ i
theorem Ad.start (L V : Nat) : Ad L V 0 0 0 := ⟨by simp, by omega, by simp [Nat.mod_one]⟩
variable {K : Nat}
theorem Ad.step (h : Ad L V i K c) : Ad L V (i + 1) (K + 4294967296 ^ i * ((dig L i + dig V i + c) % 4294967296)) ((dig L i + dig V i + c) / 4294967296) := by
  have h1 := h.c1
  have h2 := dig_lt L i
  have h3 := dig_lt V i
  refine ⟨low_set h.lt (Nat.mod_lt _ (by decide)), by omega, ?_⟩
  rw [mod_succ, mod_succ, Nat.pow_succ]
  have h4 := h.eq
  have h5 := Nat.div_add_mod (dig L i + dig V i + c) 4294967296
  obtain ⟨x, hx⟩ : ∃ x, x = (dig L i + dig V i + c) / 4294967296 := ⟨_, rfl⟩
  obtain ⟨y, hy⟩ : ∃ y, y = (dig L i + dig V i + c) % 4294967296 := ⟨_, rfl⟩
  obtain ⟨P, hP⟩ : ∃ P, P = 4294967296 ^ i := ⟨_, rfl⟩
  rw [← hx, ← hy] at h5
  rw [← hx, ← hy, ← hP]
  rw [← hP] at h4
  have e1 : (4294967296 * x + y) * P = x * (P * 4294967296) + P * y := by rw [Nat.add_mul, Nat.mul_comm y, Nat.mul_comm 4294967296 x, Nat.mul_assoc, Nat.mul_comm 4294967296 P]
  have e2 : (dig L i + dig V i + c) * P = dig L i * P + dig V i * P + c * P := by rw [Nat.add_mul, Nat.add_mul]
  rw [h5, e2] at e1
  omega
theorem Ad.last {m : Nat} (h : Ad L V m K c) (hL : L < 4294967296 ^ m) (hV : V < 4294967296 ^ m) {S : Nat} (hS : L + V = 4294967296 ^ m + S % V) (hV0 : 0 < V) : c = 1 ∧ K = S % V := by
  have h1 := h.eq
  rw [Nat.mod_eq_of_lt hL, Nat.mod_eq_of_lt hV] at h1
  have h2 := h.lt
  have h3 := h.c1
  have h4 := Nat.mod_lt S hV0
  have h5 : c = 0 ∨ c = 1 := by omega
  rcases h5 with rfl | rfl
  · omega
  · omega

/-! ### The rounds -/
theorem hand_div (X V j : Nat) (hV : 0 < V) : X / 4294967296 ^ j / V = (dig X j + 4294967296 * (X / 4294967296 ^ (j + 1) % V)) / V + 4294967296 * (X / 4294967296 ^ (j + 1) / V)
    ∧ X / 4294967296 ^ j % V = (dig X j + 4294967296 * (X / 4294967296 ^ (j + 1) % V)) % V := by
  have h1 := div_step X j
  have h2 := Nat.div_add_mod (X / 4294967296 ^ (j + 1)) V
  have h3 : X / 4294967296 ^ j = (dig X j + 4294967296 * (X / 4294967296 ^ (j + 1) % V)) + V * (4294967296 * (X / 4294967296 ^ (j + 1) / V)) := by
    rw [h1, Nat.mul_left_comm V]
    omega
  rw [h3]
  exact ⟨Nat.add_mul_div_left _ _ hV, Nat.add_mul_mod_self_left _ _ _⟩
theorem hand_lt (X V j : Nat) (hV : 0 < V) : dig X j + 4294967296 * (X / 4294967296 ^ (j + 1) % V) < V * 4294967296 := by
  have h1 := dig_lt X j
  have h2 := Nat.mod_lt (X / 4294967296 ^ (j + 1)) hV
  omega
theorem hand_u (X V j : Nat) : X % 4294967296 ^ (j + 1) + 4294967296 ^ (j + 1) * (X / 4294967296 ^ (j + 1) % V) = X % 4294967296 ^ j + 4294967296 ^ j * (dig X j + 4294967296 * (X / 4294967296 ^ (j + 1) % V)) := by
  rw [mod_succ, Nat.pow_succ, Nat.mul_add, Nat.mul_comm (dig X j), Nat.mul_assoc, Nat.add_assoc]
theorem quo_set (U j g Y : Nat) (hg : g < 4294967296) : (Dn U (4294967296 ^ (j + 1) * Y)).set j g = Dn U (4294967296 ^ j * (g + 4294967296 * Y)) := by
  have h := prt_set (U := U) (p := j) (a := 0) (c := 0) (h := Y) (pos_pow j) hg (by decide)
  unfold prt at h
  rw [Nat.zero_add, Nat.zero_add, Nat.zero_add, ← Nat.mul_assoc, ← Nat.pow_succ] at h
  exact h
theorem quo_get (j Y : Nat) : dig (4294967296 ^ (j + 1) * Y) j = 0 := by
  have h := prt_at (p := j) (a := 0) (c := 0) (h := Y) (pos_pow j) (by decide)
  unfold prt at h
  rw [Nat.zero_add, Nat.zero_add, ← Nat.mul_assoc, ← Nat.pow_succ] at h
  exact h
theorem lt_div_up (x s : Nat) : x < (x / 4294967296 ^ s + 1) * 4294967296 ^ s := by
  have h1 := Nat.div_add_mod x (4294967296 ^ s)
  have h2 := Nat.mod_lt x (pos_pow s)
  rw [Nat.add_mul, Nat.one_mul, Nat.mul_comm (x / _)]
  omega
theorem gd_of {S V s : Nat} (hV : V < 4294967296 ^ (s + 2)) (hh : 2147483648 ≤ dig V (s + 1)) (hS : S < V * 4294967296) :
    Gd S V (dig S (s + 2) * 4294967296 + dig S (s + 1)) (dig V (s + 1)) (dig V s) (dig S s) s := by
  have v0 : V / 4294967296 ^ (s + 2) = 0 := Nat.div_eq_of_lt hV
  have s0 : S / 4294967296 ^ (s + 3) = 0 := by
    refine Nat.div_eq_of_lt (Nat.lt_trans hS ?_)
    rw [Nat.pow_succ]
    exact Nat.mul_lt_mul_of_pos_right hV (by decide)
  have v1 := div_step V (s + 1)
  have v2 := div_step V s
  have s1 := div_step S (s + 2)
  have s2 := div_step S (s + 1)
  have s3 := div_step S s
  rw [show s + 2 + 1 = s + 3 from rfl, s0] at s1
  rw [show s + 1 + 1 = s + 2 from rfl, v0] at v1
  rw [show s + 1 + 1 = s + 2 from rfl] at s2
  have hv : V / 4294967296 ^ s = dig V (s + 1) * 4294967296 + dig V s := by omega
  have hs : S / 4294967296 ^ s = (dig S (s + 2) * 4294967296 + dig S (s + 1)) * 4294967296 + dig S s := by omega
  refine ⟨hh, dig_lt _ _, dig_lt _ _, dig_lt _ _, ?_, ?_, ?_, ?_, hS⟩
  · rw [← hv]; exact Nat.div_mul_le_self _ _
  · rw [← hv]; exact lt_div_up V s
  · rw [← hs]; exact Nat.div_mul_le_self _ _
  · rw [← hs]; exact lt_div_up S s
end Go.Proofs.Ytjpalbonclgflaa


/- grooveref01.mulMag. -/
import Derived.BigQuiet
import Derived.Test.YthpgeeaccmgbkaaGreatRadd
import Derived.Test.YthpgeeaccmgbkaaGreatPart14
namespace Go.Proofs.YthpgeeaccmgbkaaGreat
open Go.RowKit

/-- A row told by its places. -/
def rowf (N : Nat) (f : Nat → Value) : List Value := (List.range N).map f
theorem rowf_length (N : Nat) (f : Nat → Value) : (rowf N f).length = N := by simp [rowf]
theorem rowf_get {N : Nat} {f : Nat → Value} {j : Nat} (h : j < N) : (rowf N f)[j]? = some (f j) := by simp [rowf, h]
theorem rowf_ext {N : Nat} {f g : Nat → Value} (h : ∀ j, j < N → f j = g j) : rowf N f = rowf N g := by
 unfold rowf
 exact List.map_congr_left fun j hj => h j (List.mem_range.1 hj)
theorem rowf_set {N : Nat} {f g : Nat → Value} {i : Nat} {v : Value} (h1 : g i = v) (h2 : ∀ j, j < N → j ≠ i → f j = g j) : (rowf N f).set i v = rowf N g := by
 apply List.ext_getElem? ; intro j
 rw [List.getElem?_set, rowf_length]
 by_cases hj : j < N
 ·
  rw [rowf_get hj, rowf_get hj]
  by_cases e : i = j
  ·
   subst e; simp [hj, h1]
  ·
   simp [e, h2 j hj (fun h => e h.symm)]
 ·
  have hn : ∀ f, (rowf N f)[j]? = none := fun f => List.getElem?_eq_none (by rw [rowf_length]; omega)
  rw [hn, hn]
  by_cases e : i = j
  ·
   subst e; simp [hj]
  ·
   simp [e]
theorem be_get : ∀ (k x j : Nat), j < k → (be k x)[j]? = some (UInt8.ofNat (byt x (k - 1 - j)))
 | 0, _, j, h => by omega
 | k + 1, x, 0, _ => by simp [be]
 | k + 1, x, j + 1, h =>
  by
  rw [be, List.getElem?_cons_succ, be_get k x j (by omega)]
  congr 3; omega
theorem cb_be (k x : Nat) : cb (be k x) = rowf k (fun j => .int .u8 ((byt x (k - 1 - j) : Nat) : Int)) := by
 apply List.ext_getElem? ; intro j
 by_cases hj : j < k
 ·
  rw [rowf_get hj, cb, List.getElem?_map, be_get k x j hj]
  have := byt_lt x (k - 1 - j)
  simp [UInt8.toNat_ofNat', Nat.mod_eq_of_lt this]
 ·
  rw [List.getElem?_eq_none (by rw [cb_length, be_length]; omega), List.getElem?_eq_none (by rw [rowf_length]; omega)]

/-- What a round of the product leaves. -/
def mulC (X Y a c : Nat) : Nat := (X % 256 ^ a * Y + 256 ^ a * (byt X a * (Y % 256 ^ c))) / 256 ^ (a + c) - X % 256 ^ a * Y / 256 ^ (a + c)
theorem mod_pow_succ (Y c : Nat) : Y % 256 ^ (c + 1) = Y % 256 ^ c + 256 ^ c * byt Y c := by
 unfold byt
 rw [Nat.pow_succ, Nat.mod_mul]
theorem mulC_zero (X Y a : Nat) : mulC X Y a 0 = 0 := by simp [mulC, Nat.mod_one]
theorem mulC_div (X Y a c : Nat) : (X % 256 ^ a * Y + 256 ^ a * (byt X a * (Y % 256 ^ c))) / 256 ^ (a + c) = X % 256 ^ a * Y / 256 ^ (a + c) + mulC X Y a c := by
 have : X % 256 ^ a * Y / 256 ^ (a + c) ≤ (X % 256 ^ a * Y + 256 ^ a * (byt X a * (Y % 256 ^ c))) / 256 ^ (a + c) := Nat.div_le_div_right (by omega)
 unfold mulC; omega
theorem mulC_le (X Y a c : Nat) : mulC X Y a c ≤ 255 := by
 have h1 := mulC_div X Y a c
 have hp : 0 < 256 ^ (a + c) := Nat.pow_pos (by decide)
 have h2 : 256 ^ a * (byt X a * (Y % 256 ^ c)) ≤ 255 * 256 ^ (a + c) := by
  have h3 := byt_lt X a
  have h4 : Y % 256 ^ c < 256 ^ c := Nat.mod_lt _ (Nat.pow_pos (by decide))
  have h5 : byt X a * (Y % 256 ^ c) ≤ 255 * 256 ^ c := Nat.mul_le_mul (by omega) (by omega)
  rw [Nat.pow_add]
  calc 256 ^ a * (byt X a * (Y % 256 ^ c)) ≤ 256 ^ a * (255 * 256 ^ c) := Nat.mul_le_mul_left _ h5
   _ = 255 * (256 ^ a * 256 ^ c) := by rw [← Nat.mul_assoc, Nat.mul_comm (256 ^ a) 255, Nat.mul_assoc]
 have h6 : (X % 256 ^ a * Y + 256 ^ a * (byt X a * (Y % 256 ^ c))) / 256 ^ (a + c) ≤ X % 256 ^ a * Y / 256 ^ (a + c) + 255 := by
  calc (X % 256 ^ a * Y + 256 ^ a * (byt X a * (Y % 256 ^ c))) / 256 ^ (a + c) ≤ (X % 256 ^ a * Y + 255 * 256 ^ (a + c)) / 256 ^ (a + c) := Nat.div_le_div_right (by omega)
   _ = _ := Nat.add_mul_div_right _ _ hp
 omega
/-- A digit of the product, and the next carry. -/
theorem mulC_step (X Y a c : Nat) : (mulC X Y a c + (byt (X % 256 ^ a * Y) (a + c) + byt X a * byt Y c)) % 256 = byt (X % 256 ^ (a + 1) * Y) (a + c) ∧ (mulC X Y a c + (byt (X % 256 ^ a * Y) (a + c) + byt X a * byt Y c)) / 256 = mulC X Y a (c + 1) := by
 have h1 := mulC_div X Y a c
 have h2 := mulC_div X Y a (c + 1)
 obtain ⟨P, hP⟩ : ∃ P, P = X % 256 ^ a * Y := ⟨_, rfl⟩
 have hQ : X % 256 ^ (a + 1) * Y = P + 256 ^ a * (byt X a * Y) := by
  rw [mod_pow_succ, Nat.add_mul, hP, Nat.mul_assoc]
 rw [← hP] at h1 h2 ⊢
 rw [hQ]
 obtain ⟨d, hd⟩ : ∃ d, d = byt X a := ⟨_, rfl⟩
 rw [← hd] at h1 h2 ⊢
 have hp : 0 < 256 ^ (a + c) := Nat.pow_pos (by decide)
 have e1 : P + 256 ^ a * (d * (Y % 256 ^ (c + 1))) = P + 256 ^ a * (d * (Y % 256 ^ c)) + d * byt Y c * 256 ^ (a + c) := by
  rw [mod_pow_succ, Nat.mul_add, Nat.mul_add, ← Nat.add_assoc, Nat.pow_add]
  congr 1
  rw [← Nat.mul_assoc d, Nat.mul_comm d, Nat.mul_assoc (256 ^ c), ← Nat.mul_assoc (256 ^ a), Nat.mul_comm]
 have e2 : (P + 256 ^ a * (d * (Y % 256 ^ (c + 1)))) / 256 ^ (a + c) = P / 256 ^ (a + c) + mulC X Y a c + d * byt Y c := by
  rw [e1, Nat.add_mul_div_right _ _ hp, h1]
 have e3 : P / 256 ^ (a + c) = byt P (a + c) + 256 * (P / 256 ^ (a + (c + 1))) := by
  unfold byt
  rw [show a + (c + 1) = a + c + 1 by omega, Nat.pow_succ, ← Nat.div_div_eq_div_mul]
  exact (Nat.mod_add_div _ _).symm
 have e4 : (P + 256 ^ a * (d * (Y % 256 ^ (c + 1)))) / 256 ^ (a + (c + 1)) = (P / 256 ^ (a + c) + mulC X Y a c + d * byt Y c) / 256 := by
  rw [show 256 ^ (a + (c + 1)) = 256 ^ (a + c) * 256 from Nat.pow_succ .., ← Nat.div_div_eq_div_mul, e2]
 have e5 : P / 256 ^ (a + c) + mulC X Y a c + d * byt Y c = (mulC X Y a c + (byt P (a + c) + d * byt Y c)) + 256 * (P / 256 ^ (a + (c + 1))) := by omega
 have e6 : byt (P + 256 ^ a * (d * Y)) (a + c) = (P + 256 ^ a * (d * (Y % 256 ^ (c + 1)))) / 256 ^ (a + c) % 256 := by
  have hY : 256 ^ a * (d * Y) = 256 ^ a * (d * (Y % 256 ^ (c + 1))) + 256 * (d * (Y / 256 ^ (c + 1))) * 256 ^ (a + c) := by
   have := Nat.mod_add_div Y (256 ^ (c + 1))
   conv => lhs; rw [← this]
   rw [Nat.mul_add, Nat.mul_add]
   congr 1
   rw [Nat.pow_succ, Nat.pow_add]
   simp only [Nat.mul_assoc, Nat.mul_comm, Nat.mul_left_comm]
  unfold byt
  rw [hY, ← Nat.add_assoc, Nat.add_mul_div_right _ _ hp, Nat.add_mul_mod_self_left]
 refine ⟨?_, ?_⟩
 ·
  rw [e6, e2, e5, Nat.add_mul_mod_self_left]
 ·
  rw [e4, e5, Nat.add_mul_div_left _ _ (by decide)] at h2
  omega
/-- Below the digit that is worked on, nothing changes. -/
theorem mul_low (X Y a q : Nat) (h : q < a) : byt (X % 256 ^ (a + 1) * Y) q = byt (X % 256 ^ a * Y) q := by
 rw [mod_pow_succ, Nat.add_mul]
 unfold byt
 have hp : 0 < 256 ^ q := Nat.pow_pos (by decide)
 have e : 256 ^ a * byt X a * Y = 256 * (256 ^ (a - q - 1) * byt X a * Y) * 256 ^ q := by
  have : 256 ^ a = 256 ^ (a - q - 1) * 256 * 256 ^ q := by rw [← Nat.pow_succ, ← Nat.pow_add]; congr 1; omega
  rw [this]
  simp only [Nat.mul_assoc, Nat.mul_comm, Nat.mul_left_comm]
 rw [show X / 256 ^ a % 256 = byt X a from rfl, e, Nat.add_mul_div_right _ _ hp, Nat.add_mul_mod_self_left]
theorem mul_lt (X Y a b : Nat) (hY : Y < 256 ^ b) : X % 256 ^ a * Y < 256 ^ (a + b) := by
 have h1 : X % 256 ^ a < 256 ^ a := Nat.mod_lt _ (Nat.pow_pos (by decide))
 rw [Nat.pow_add]
 exact Nat.mul_lt_mul'' h1 hY
theorem byt_zero {P q m : Nat} (h : P < 256 ^ m) (hq : m ≤ q) : byt P q = 0 := by
 unfold byt
 rw [Nat.div_eq_of_lt (Nat.lt_of_lt_of_le h (Nat.pow_le_pow_right (by decide) hq))]
/-- The last carry of a round is the new digit. -/
theorem mulC_end (X Y a b : Nat) (hY : Y < 256 ^ b) : byt (X % 256 ^ (a + 1) * Y) (a + b) = mulC X Y a b := by
 have h := mulC_div X Y a b
 have hl := mulC_le X Y a b
 rw [Nat.mod_eq_of_lt hY, Nat.div_eq_of_lt (mul_lt X Y a b hY), Nat.zero_add] at h
 have e : X % 256 ^ (a + 1) * Y = X % 256 ^ a * Y + 256 ^ a * (byt X a * Y) := by rw [mod_pow_succ, Nat.add_mul, Nat.mul_assoc]
 unfold byt at h ⊢
 unfold byt at e
 rw [e, h]
 omega
theorem and255 (z : Nat) (h : z < 9223372036854775808) : bits BinOp.and IntKind.i64 (z : Int) 255 = ((z % 256 : Nat) : Int) := by
 have := i64_and_nat z 255 h (by decide)
 rw [show z &&& 255 = z % 256 from Nat.and_two_pow_sub_one_eq_mod z 8] at this
 exact this
theorem byt_str2 (s : ByteArray) (i j : Nat) (h : i < s.size) (hj : i + j + 1 = s.size) : (s[i]).toNat = byt (bval s.data.toList) j := by
 have e : i = s.size - (j + 1) := by omega
 subst e
 exact byt_str s j (by omega)
theorem infoI64r : (Tryz.prog.info? 3).map (fun i => (i.zero, i.size, i.bytes)) = some (some (.int .i64 0), 1, 8) := by kernel_rfl
theorem mk64 (n : Nat) (h : n ≤ 2199023255552) (N : Int) (hN : N = (n : Int)) (w : World) : (Instr.makeSlice 81 (.int .i64 N) (.int .i64 N)).run Tryz.prog w = .ok (.slice (some ⟨w.heap.size, 0, none⟩) n n) (w.alloc (.cells (zarr (.int .i64 0) n) 3)) :=
 mk_slice 81 3 (.int .i64 0) 1 8 Tryz.underlying81 infoI64r rfl .i64 .i64 n n (Nat.le_refl _) (by omega) (by omega) N N hN hN w
/-- The cells while a digit is worked on: N places, of which those of a weight below m have the new digits. -/
def rmulF (N X Y a m : Nat) (j : Nat) : Value := .int .i64 ((if N - 1 - j < m then byt (X % 256 ^ (a + 1) * Y) (N - 1 - j) else byt (X % 256 ^ a * Y) (N - 1 - j) : Nat) : Int)
def mulG (N X Y a : Nat) (j : Nat) : Value := .int .i64 ((byt (X % 256 ^ a * Y) (N - 1 - j) : Nat) : Int)
theorem mulF_start (N X Y a : Nat) : rowf N (mulG N X Y a) = rowf N (rmulF N X Y a a) := rowf_ext fun j _ => by
 unfold mulG rmulF
 by_cases h : N - 1 - j < a
 ·
  rw [if_pos h, mul_low X Y a _ h]
 ·
  rw [if_neg h]
theorem mulF_set (N X Y a m : Nat) (hm : m < N) : (rowf N (rmulF N X Y a m)).set (N - 1 - m) (.int .i64 ((byt (X % 256 ^ (a + 1) * Y) m : Nat) : Int)) = rowf N (rmulF N X Y a (m + 1)) := by
 refine rowf_set ?_ ?_
 ·
  unfold rmulF
  rw [show N - 1 - (N - 1 - m) = m by omega, if_pos (by omega)]
 ·
  intro j hj hne
  unfold rmulF
  by_cases h : N - 1 - j < m
  ·
   rw [if_pos h, if_pos (by omega)]
  ·
   rw [if_neg h, if_neg (by omega)]
theorem mulF_end (N X Y a b : Nat) (hY : Y < 256 ^ b) (hm : a + b < N) : (rowf N (rmulF N X Y a (a + b))).set (N - 1 - (a + b)) (.int .i64 ((byt (X % 256 ^ (a + 1) * Y) (a + b) : Nat) : Int)) = rowf N (mulG N X Y (a + 1)) := by
 rw [mulF_set N X Y a _ hm]
 refine rowf_ext fun j _ => ?_
 unfold rmulF mulG
 by_cases h : N - 1 - j < a + b + 1
 ·
  rw [if_pos h]
 ·
  rw [if_neg h, byt_zero (mul_lt X Y a b hY) (by omega), byt_zero (mul_lt X Y (a + 1) b hY) (by omega)]
theorem mulF_get (N X Y a m : Nat) (hm : m < N) : (rowf N (rmulF N X Y a m))[N - 1 - m]? = some (.int .i64 ((byt (X % 256 ^ a * Y) m : Nat) : Int)) := by
 rw [rowf_get (by omega), rmulF, show N - 1 - (N - 1 - m) = m by omega, if_neg (by omega)]
theorem mulG_zero (N X Y : Nat) : rowf N (mulG N X Y 0) = List.replicate N (.int .i64 0) := by
 apply List.ext_getElem? ; intro j
 by_cases h : j < N
 ·
  rw [rowf_get h, List.getElem?_replicate, if_pos h]
  simp [mulG, Nat.mod_one, byt]
 ·
  rw [List.getElem?_eq_none (by rw [rowf_length]; omega), List.getElem?_eq_none (by simp; omega)]
/-- The text while it is copied. -/
def txtF (N Z i : Nat) (j : Nat) : Value := if j < i then .int .u8 ((byt Z (N - 1 - j) : Nat) : Int) else .int .u8 0
theorem txtF_zero (N Z : Nat) : List.replicate N (.int .u8 0) = rowf N (txtF N Z 0) := by
 apply List.ext_getElem? ; intro j
 by_cases h : j < N
 ·
  rw [rowf_get h, List.getElem?_replicate, if_pos h]
  simp [txtF]
 ·
  rw [List.getElem?_eq_none (by simp; omega), List.getElem?_eq_none (by rw [rowf_length]; omega)]
theorem txtF_set (N Z i : Nat) : (rowf N (txtF N Z i)).set i (.int .u8 ((byt Z (N - 1 - i) : Nat) : Int)) = rowf N (txtF N Z (i + 1)) := by
 refine rowf_set ?_ ?_
 ·
  unfold txtF; rw [if_pos (by omega)]
 ·
  intro j hj hne
  unfold txtF
  by_cases h : j < i
  ·
   rw [if_pos h, if_pos (by omega)]
  ·
   rw [if_neg h, if_neg (by omega)]
theorem txtF_end (N Z : Nat) : rowf N (txtF N Z N) = cb (be N Z) := by
 rw [cb_be]
 refine rowf_ext fun j hj => ?_
 unfold txtF; rw [if_pos hj]
set_option maxRecDepth 100000 in
set_option maxHeartbeats 3200000 in
theorem rmulmag_any (s t : ByteArray) (w : World) (hs : s.size ≤ 1048576) (ht : t.size ≤ 1048576) :
  Calls Tryz.prog 88 #[.string s, .string t] w (Ret w (.string (bstr (bval s.data.toList * bval t.data.toList)))) := by
 obtain ⟨la, hla⟩ : ∃ la, la = s.size := ⟨_, rfl⟩
 obtain ⟨lb, hlb⟩ : ∃ lb, lb = t.size := ⟨_, rfl⟩
 have hmk := mk64 (la + lb) (by omega) ((la : Int) + (lb : Int)) (by omega)
 have hmk2 := mk8 (la + lb) (by omega) ((la + lb : Nat) : Int) rfl
 obtain ⟨X, hX⟩ : ∃ X, X = bval s.data.toList := ⟨_, rfl⟩
 obtain ⟨Y, hY⟩ : ∃ Y, Y = bval t.data.toList := ⟨_, rfl⟩
 have hXl : X < 256 ^ la := by have := bval_lt s.data.toList; rwa [bytes_size, ← hX, ← hla] at this
 have hYl : Y < 256 ^ lb := by have := bval_lt t.data.toList; rwa [bytes_size, ← hY, ← hlb] at this
 have hbs : ∀ i j : Nat, (h : i < s.size) → i + j + 1 = s.size → (s[i]).toNat = byt X j := fun i j h hj => by rw [hX]; exact byt_str2 s i j h hj
 have hbt : ∀ i j : Nat, (h : i < t.size) → i + j + 1 = t.size → (t[i]).toNat = byt Y j := fun i j h hj => by rw [hY]; exact byt_str2 t i j h hj
 rw [← hX, ← hY]
 have HBS := Lib.hid hbs; clear hbs
 have HBT := Lib.hid hbt; clear hbt
 have HXL := Lib.hid hXl; clear hXl
 have HYL := Lib.hid hYl; clear hYl
 have b1 := Blk.zero w 3 (.int .i64 0) (la + lb)
 rw [zrow_one _ _ rfl, ← mulG_zero (la + lb) X Y] at b1
 have B1 := Lib.hid b1; clear b1
 rw [hla] at hmk
 rw [hlb] at hmk
 have HLA := Lib.hid hla; clear hla
 have HLB := Lib.hid hlb; clear hlb
 go_enter Tryz.func88, Tryz.ntmps88
 go_wp2_with fail
 clear hmk
 go_loopw [6] (fun i wr => ∃ a : Nat, a ≤ la ∧ i = .int .i64 ((la : Int) - 1 - (a : Int)) ∧ Below w.heap.size w wr ∧ Blk wr w.heap.size 3 (rowf (la + lb) (mulG (la + lb) X Y a))) (fun i _ => ((intOf i) + 1).toNat)
 case atStart => exact ⟨0, Nat.zero_le _, by rw [HLA.out]; go_num, (Below.refl _ _).alloc (Nat.le_refl _) _, by have h := B1.out; rw [HLA.out, HLB.out] at h ⊢; exact h⟩
 case round =>
  obtain ⟨a, ha, rfl, hbel, hblk⟩ := hrel
  obtain ⟨wq, rfl⟩ : ∃ wq : World, wq = wr := ⟨_, rfl⟩
  by_cases hal : a < la
  ·
   obtain ⟨p, hp⟩ : ∃ p : Nat, p + a + 1 = la := ⟨la - a - 1, by omega⟩
   have hpi : (la : Int) - 1 - (a : Int) = (p : Int) := by omega
   rw [hpi]
   have hps : p < s.size := by rw [← HLA.out]; omega
   have hsa := HBS.out p a hps (by rw [← HLA.out]; omega)
   obtain ⟨d, hd⟩ : ∃ d, d = byt X a := ⟨_, rfl⟩
   rw [← hd] at hsa
   have hdl : d ≤ 255 := by rw [hd]; have := byt_lt X a; omega
   have tp : decide (0 ≤ (p : Int)) = true := by simp
   have HBEL := Lib.hid hbel; clear hbel
   have HD := Lib.hid hd; clear hd
   rw [mulF_start] at hblk
   have HBLK := Lib.hid hblk; clear hblk
   have hpl : p < la := by omega
   have HPE := Lib.hid hp; clear hp
   clear hpi
   go_wp2_with fail
   go_loopw [7, 8] (fun cy k wr => ∃ c : Nat, c ≤ lb ∧ k = .int .i64 ((lb : Int) - 1 - (c : Int)) ∧ cy = .int .i64 ((mulC X Y a c : Nat) : Int) ∧ Below w.heap.size w wr ∧ Blk wr w.heap.size 3 (rowf (la + lb) (rmulF (la + lb) X Y a (a + c)))) (fun _ k _ => ((intOf k) + 1).toNat)
   case atStart => exact ⟨0, Nat.zero_le _, by rw [HLB.out]; go_num, by rw [mulC_zero]; rfl, HBEL.out, HBLK.out⟩
   case round =>
    obtain ⟨c, hc, rfl, rfl, hbe, hbk⟩ := hrel
    have hcm : mulC X Y a c ≤ 255 := mulC_le X Y a c
    by_cases hcl : c < lb
    ·
     have hp := HPE.out
     obtain ⟨r, hr⟩ : ∃ r : Nat, r + c + 1 = lb := ⟨lb - c - 1, by omega⟩
     have hri : (lb : Int) - 1 - (c : Int) = (r : Int) := by omega
     rw [hri]
     have hrs : r < t.size := by rw [← HLB.out]; omega
     have htb := HBT.out r c hrs (by rw [← HLB.out]; omega)
     obtain ⟨y, hy⟩ : ∃ y, y = byt Y c := ⟨_, rfl⟩
     rw [← hy] at htb
     have hyl : y ≤ 255 := by rw [hy]; have := byt_lt Y c; omega
     have tr : decide (0 ≤ (r : Int)) = true := by simp
     obtain ⟨u, hu⟩ : ∃ u, u = byt (X % 256 ^ a * Y) (a + c) := ⟨_, rfl⟩
     have hul : u ≤ 255 := by rw [hu]; have := byt_lt (X % 256 ^ a * Y) (a + c); omega
     have hst := mulC_step X Y a c
     obtain ⟨cy, hcy⟩ : ∃ cy, cy = mulC X Y a c := ⟨_, rfl⟩
     rw [← hcy] at hst hcm ⊢
     rw [← hu, ← HD.out, ← hy] at hst
     have hdy : d * y ≤ 65025 := Nat.le_trans (Nat.mul_le_mul hdl hyl) (by decide)
     have hlen : p + r + 1 < s.size + t.size := by omega
     have hlen2 : p + r + 1 < la + lb := by omega
     have hcell := hbk.cell (mulF_get (la + lb) X Y a (a + c) (by omega))
     have hfz := hbk.frozen (p + r + 1)
     rw [show la + lb - 1 - (a + c) = p + r + 1 by omega, ← hu] at hcell
     have hset := fun n => Blk.set (w := wr.drewN n) hbk (p + r + 1) (.int .i64 (((cy + (u + d * y)) % 256 : Nat) : Int))
     have hse2 := mulF_set (la + lb) X Y a (a + c) (by omega)
     rw [← hst.1, show la + lb - 1 - (a + c) = p + r + 1 by omega] at hse2
     simp only [hse2] at hset
     have hnx := hst.2
     have hbe2 := fun n => (below_drewN hbe n).setCell (p := ⟨w.heap.size, p + r + 1, none⟩) (Nat.le_refl _) (.int .i64 (((cy + (u + d * y)) % 256 : Nat) : Int))
     have hand := and255 (cy + (u + d * y)) (by omega)
     simp only [Int.natCast_add, Int.natCast_mul] at hand
     have HSET := Lib.hid hset; clear hset
     have HNX := Lib.hid hnx; clear hnx
     have HBE2 := Lib.hid hbe2; clear hbe2
     have HRE := Lib.hid hr; clear hr
     have HCY := Lib.hid hcy; clear hcy
     clear hst hu hy hbe hbk hri hp
     go_wp2_with fail
     go_quiet (fail)
     go_wp2_with fail
     go_roundw
     case rel =>
      have hr := HRE.out
      refine ⟨c + 1, by omega, ?_, ?_, HBE2.out _, HSET.out _⟩
      ·
       congr 1; omega
      ·
       rw [← HNX.out]; congr 1
     case measure => simp [intOf]
    ·
     obtain rfl : c = lb := by omega
     have tr : decide (0 ≤ (c : Int) - 1 - (c : Int)) = false := by simp; omega
     obtain ⟨cy, hcy⟩ : ∃ cy, cy = mulC X Y a c := ⟨_, rfl⟩
     have he := mulC_end X Y a c HYL.out
     rw [← hcy] at hcm he ⊢
     have hp := HPE.out
     have hcell := hbk.cell (mulF_get (la + c) X Y a (a + c) (by omega))
     have hfz := hbk.frozen p
     rw [byt_zero (mul_lt X Y a c HYL.out) (Nat.le_refl _), show la + c - 1 - (a + c) = p by omega] at hcell
     have hset := hbk.set p (.int .i64 ((cy : Nat) : Int))
     rw [← he, show p = la + c - 1 - (a + c) by omega, mulF_end _ _ _ _ _ HYL.out (by omega), show la + c - 1 - (a + c) = p by omega, he] at hset
     have hbe2 := hbe.setCell (p := ⟨w.heap.size, p, none⟩) (Nat.le_refl _) (.int .i64 ((cy : Nat) : Int))
     have hlen : p < s.size + t.size := by omega
     have hlen2 : p < la + c := by omega
     have HSET := Lib.hid hset; clear hset
     have HBE2 := Lib.hid hbe2; clear hbe2
     clear he hcy hbe hbk hp
     go_wp2_with fail
     go_roundw
     case rel =>
      have hp := HPE.out
      refine ⟨a + 1, by omega, ?_, HBE2.out, HSET.out⟩
      congr 1; omega
     case measure => simp [intOf]
  ·
   obtain rfl : a = la := by omega
   have tp : decide (0 ≤ (a : Int) - 1 - (a : Int)) = false := by simp; omega
   have hXm : X % 256 ^ a = X := Nat.mod_eq_of_lt HXL.out
   rw [show rowf (a + lb) (mulG (a + lb) X Y a) = rowf (a + lb) (fun j => .int .i64 ((byt (X * Y) (a + lb - 1 - j) : Nat) : Int)) from rowf_ext fun j _ => by unfold mulG; rw [hXm]] at hblk
   have hlt : X * Y < 256 ^ (a + lb) := by rw [Nat.pow_add]; exact Nat.mul_lt_mul'' HXL.out HYL.out
   have hlen : ((a + lb : Nat) : Int) = (s.size : Int) + (t.size : Int) := by rw [HLA.out, HLB.out]; omega
   have hmk3 := fun w' => hmk2 w'
   rw [hlen] at hmk3
   have hwl := hblk.lt
   obtain ⟨N, hN⟩ : ∃ N, N = a + lb := ⟨_, rfl⟩
   have hNs : N = s.size + t.size := by rw [hN, HLA.out, HLB.out]
   rw [← hN] at hmk3 hblk hlt
   have hNb : N ≤ 2097152 := by omega
   obtain ⟨Z, hZ⟩ : ∃ Z, Z = X * Y := ⟨_, rfl⟩
   rw [← hZ] at hblk hlt ⊢
   have hfin := fun wz (h : Blk wz wq.heap.size 5 (rowf N (txtF N Z N))) => Row.ofBlk h (m := N) (cap := N) (Nat.le_refl _) (by unfold maxLen; omega) N
   rw [txtF_end, List.take_of_length_le (by rw [cb_length, be_length]; exact Nat.le_refl _)] at hfin
   have hconv := fun wz h => conv_row (P := Tryz.prog) wz 125 9 5 Tryz.underlying125 Tryz.underlying5 Tryz.underlying9 (some ⟨wq.heap.size, 0, none⟩) N (be N Z) (by rw [be_length]; exact hfin wz h)
   simp only [be_length] at hconv
   have htr := fun w' => rtrim_any ⟨(be N Z).toArray⟩ w' (by show (be N Z).length ≤ _; rw [be_length]; omega)
   simp only [List.toList_toArray, be_of_lt hlt] at htr
   have HCONV := Lib.hid hconv; clear hconv
   have HTR := Lib.hid htr; clear htr
   have HBLK := Lib.hid hblk; clear hblk
   have HBEL := Lib.hid hbel; clear hbel
   have HN := Lib.hid hN; clear hN
   have HNS := Lib.hid hNs; clear hNs
   have HZ := Lib.hid hZ; clear hZ
   clear hfin hlt hmk2 hlen hXm hX hY
   have b2 := Blk.zero wq 5 (.int .u8 0) N
   rw [zrow_one _ _ rfl, txtF_zero N Z] at b2
   have B2 := Lib.hid b2; clear b2
   go_wp2_with fail
   go_loopw [10] (fun i wr => ∃ j : Nat, j ≤ N ∧ i = .int .i64 (j : Int) ∧ Below wq.heap.size wq wr ∧ Blk wr wq.heap.size 5 (rowf N (txtF N Z j))) (fun i _ => N - (intOf i).toNat)
   case atStart => exact ⟨0, Nat.zero_le _, rfl, (Below.refl _ _).alloc (Nat.le_refl _) _, B2.out⟩
   case round =>
    obtain ⟨j, hj, rfl, hbe, hbk⟩ := hrel
    have hout := HBLK.out.below hbe hwl
    by_cases hjN : j < N
    ·
     have hjs : j < s.size + t.size := by rw [← HNS.out]; exact hjN
     have tj : decide ((j : Int) < (s.size : Int) + (t.size : Int)) = true := by simp; omega
     have hc1 := hout.cell (rowf_get hjN)
     have hbv := byt_lt Z (N - 1 - j)
     obtain ⟨v, hv⟩ : ∃ v, v = byt Z (N - 1 - j) := ⟨_, rfl⟩
     simp only [← hv] at hc1 hbv
     have hset := hbk.set j (.int .u8 ((v : Nat) : Int))
     rw [hv, txtF_set, ← hv] at hset
     have hc2 := hbk.cell (rowf_get hjN)
     have hfz := hbk.frozen j
     have hvm : (v : Int) % 256 = (v : Int) := by omega
     have HSET := Lib.hid hset; clear hset
     have HBE := Lib.hid hbe; clear hbe
     clear hv hbk hout
     go_wp2_with fail
     go_roundw
     case rel =>
      exact ⟨j + 1, by omega, by go_num, HBE.out.setCell (p := ⟨wq.heap.size, j, none⟩) (Nat.le_refl _) _, HSET.out⟩
     case measure => simp [intOf]; omega
    ·
     obtain rfl : j = N := by omega
     have tj : decide ((j : Int) < (s.size : Int) + (t.size : Int)) = false := by simp; have := HNS.out; omega
     rw [txtF_end] at hbk
     have hcv := HCONV.out wr hbk
     have hb3 := HBEL.out.trans (hbe.mono (by omega))
     have HB3 := Lib.hid hb3; clear hb3
     clear hbk hbe hout
     go_wp2_with (go_at_call 108; refine (HTR.out _).mono ?_; rintro e w' ⟨rfl, rfl⟩)
     refine bodyPost_ret (v := .string (bstr Z)) (by simp [results, Tryz.results88, go_sem]) rfl ⟨HB3.out, by rw [HZ.out]⟩
end Go.Proofs.YthpgeeaccmgbkaaGreat

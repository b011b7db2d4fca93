/- matrix.product. -/
import Derived.Test.YthpgeeaccmgbkaaGreatPart7
import Derived.Test.YthpgeeaccmgbkaaGreatPart11
import Derived.Test.YthpgeeaccmgbkaaGreatPart8
namespace Go.Proofs.YthpgeeaccmgbkaaGreat
open Go.RowKit Go.Shelf

attribute [local go_sem] Oper.semAt_some

theorem cf_setCell {B : Nat} (W : World) (a : Addr) (u : Value) (h : a.block < B) : KeepsFrom B W (W.setCell a u) :=
 ⟨by simp, fun k o hk ho _ => (Below.heap_setCell W a u k (by omega)).trans ho⟩
theorem cf_below {B N : Nat} {W W' : World} (h : Below N W W') (hN : N = W.heap.size) : KeepsFrom B W W' :=
 ⟨h.size, fun k o _ hk _ => (h.block k (by rw [hN]; exact (Array.getElem?_eq_some_iff.1 hk).1)).trans hk⟩
/-- A number of at most p bytes. -/
def sm (p : Nat) (z : Int) : Prop := z.natAbs < 256 ^ p
theorem sm.small {p : Nat} {z : Int} (h : sm p z) (hp : p ≤ 1000000) : small z := small_of h (by omega)
theorem sm.size {p : Nat} {z : Int} (h : sm p z) : (imag z).size ≤ p := by rw [imag_size]; exact bb_length_le h
theorem sm.mono {p q : Nat} {z : Int} (h : sm p z) (hpq : p ≤ q) : sm q z := Nat.lt_of_lt_of_le h (Nat.pow_le_pow_right (by decide) hpq)
theorem sm.mul {p q : Nat} {a b : Int} (h : sm p a) (k : sm q b) : sm (p + q) (a * b) := by
 unfold sm at *
 rw [Int.natAbs_mul, Nat.pow_add]
 exact Nat.mul_lt_mul'' h k
theorem sm_sum {p : Nat} : ∀ {l : List Int}, (∀ z ∈ l, sm p z) → l.sum.natAbs ≤ l.length * 256 ^ p
 | [], _ => by simp
 | a :: l, h =>
  by
  have ih := sm_sum (l := l) (fun z hz => h z (by simp [hz]))
  have ha := h a (by simp)
  unfold sm at ha
  have h1 := Int.natAbs_add_le a l.sum
  rw [List.sum_cons, List.length_cons, Nat.succ_mul]
  omega
theorem sm_sum' {p : Nat} {l : List Int} (h : ∀ z ∈ l, sm p z) (hl : l.length ≤ 255) : sm (p + 1) l.sum := by
 have h1 := sm_sum h
 unfold sm
 rw [Nat.pow_succ]
 have h2 : 0 < 256 ^ p := Nat.pow_pos (by decide)
 have h3 : l.length * 256 ^ p ≤ 255 * 256 ^ p := Nat.mul_le_mul_right _ hl
 omega
/-- An entry. -/
def ent (M : List (List Int)) (i k : Nat) : Int := (M.getD i []).getD k 0
theorem ent_get {M : List (List Int)} {i k : Nat} {r : List Int} {z : Int} (h : M[i]? = some r) (g : r[k]? = some z) : ent M i k = z := by
 unfold ent
 rw [show M.getD i [] = r by rw [List.getD_eq_getElem?_getD, h]; rfl, List.getD_eq_getElem?_getD, g]; rfl
/-- The product's entry. -/
def mulF (M N : List (List Int)) (i k : Nat) : Int := ((List.range N.length).map fun j => ent M i j * ent N j k).sum
/-- A prefix of the sum. -/
def dotP {α : Type} (M : List (List Int)) (i : Nat) (en : α → Nat × Int) (pre : List α) : Int := (pre.map fun x => ent M i (en x).1 * (en x).2).sum
theorem dotP_snoc {α : Type} (M : List (List Int)) (i : Nat) (en : α → Nat × Int) (pre : List α) (x : α) : dotP M i en (pre ++ [x]) = dotP M i en pre + ent M i (en x).1 * (en x).2 := by
 unfold dotP; rw [List.map_append]; exact sum_snoc _ _
theorem dotP_full {α : Type} (M N : List (List Int)) (i k : Nat) (en : α → Nat × Int) (L : List α) (hL : L.map en = colL N k N.length) : dotP M i en L = mulF M N i k := by
 unfold dotP mulF
 have : (L.map fun x => ent M i (en x).1 * (en x).2) = (L.map en).map fun y => ent M i y.1 * y.2 := by rw [List.map_map]; rfl
 rw [this, hL, colL, List.map_map]
 congr 1
/-- A matrix in memory: rows of m numbers of at most p bytes. -/
structure MatOk (M : List (List Int)) (n m p : Nat) : Prop where
 len : M.length = n
 row : ∀ r ∈ M, r.length = m
 sm : ∀ r ∈ M, ∀ z ∈ r, sm p z
theorem MatOk.ent {M : List (List Int)} {n m p : Nat} (h : MatOk M n m p) (i k : Nat) : Go.Proofs.YthpgeeaccmgbkaaGreat.sm p (Go.Proofs.YthpgeeaccmgbkaaGreat.ent M i k) := by
 unfold Go.Proofs.YthpgeeaccmgbkaaGreat.ent
 rw [List.getD_eq_getElem?_getD, List.getD_eq_getElem?_getD]
 have h0 : Go.Proofs.YthpgeeaccmgbkaaGreat.sm p 0 := by unfold Go.Proofs.YthpgeeaccmgbkaaGreat.sm; exact Nat.pow_pos (by decide)
 cases hi : M[i]? with
 | none => simpa using h0
 | some r =>
  cases hk : r[k]? with
  | none => simpa [hk] using h0
  | some z =>
   have := h.sm r (List.mem_of_getElem? hi) z (List.mem_of_getElem? hk)
   simpa [hk] using this
theorem dotP_sm {α : Type} {M : List (List Int)} {n m p q : Nat} (h : MatOk M n m p) (i : Nat) (en : α → Nat × Int) (pre : List α) (hq : ∀ x : α, sm q (en x).2) (hl : pre.length ≤ 255) : sm (p + q + 1) (dotP M i en pre) := by
 refine sm_sum' (fun z hz => ?_) (by simpa using hl)
 obtain ⟨x, -, rfl⟩ := List.mem_map.1 hz
 exact (h.ent i _).mul (hq x)
/-- What is yielded: places and numbers that are not too long. -/
structure ColIt (N q : Nat) where
 x : Nat × Int
 lt : x.1 < N
 ok : sm q x.2
theorem colL_in {M : List (List Int)} {n m q : Nat} (h : MatOk M n m q) (k : Nat) : ∃ L : List (ColIt M.length q), L.map (fun x => x.x) = colL M k M.length := by
 have hp : ∀ x ∈ colL M k M.length, x.1 < M.length ∧ Go.Proofs.YthpgeeaccmgbkaaGreat.sm q x.2 := fun x hx => by
  obtain ⟨j, hj, rfl⟩ := List.mem_map.1 hx
  exact ⟨List.mem_range.1 hj, h.ent j k⟩
 generalize colL M k M.length = l at hp
 induction l with
 | nil => exact ⟨[], rfl⟩
 | cons a l ih =>
  obtain ⟨L, hL⟩ := ih (fun x hx => hp x (by simp [hx]))
  exact ⟨⟨a, (hp a (by simp)).1, (hp a (by simp)).2⟩ :: L, by rw [List.map_cons, hL]⟩
set_option maxRecDepth 100000 in
set_option maxHeartbeats 8000000 in
theorem prod1_in (i k n m c p Ba Bb : Nat) (A B : List (List Int)) (va vb : Value) (w0 w : World) (hA : Tab w0 va A) (hB : Tab w0 vb B) (okA : MatOk A n m p) (okB : MatOk B m c p) (hi : i < n) (hk : k < c) (hm : m ≤ 100) (hp : p ≤ 100000) (h0w : Below w0.heap.size w0 w)
  (hBa : Blk w Ba 70 [va]) (hBb : Blk w Bb 70 [vb]) :
  CallsIn Fence.wide 8 Tryz.prog 131 #[.int .i64 (i : Int), .int .i64 (k : Int), .pointer (some ⟨Bb, 0, none⟩), .pointer (some ⟨Ba, 0, none⟩)] w (Ret w (IntV (mulF A B i k))) := by
 obtain ⟨rvs, hlv, hra, hrr⟩ := hA
 obtain ⟨aa, ca, rfl, hla⟩ := hra.slice
 obtain ⟨rvb, hlb, hrb, hrrb⟩ := id hB
 obtain ⟨ab, cb, rfl, hlb2⟩ := hrb.slice
 have gA := hBa.cell (j := 0) rfl
 have gB := hBb.cell (j := 0) rfl
 have hal := hBa.lt
 have hbl := hBb.lt
 obtain ⟨L, hL⟩ := colL_in okB k
 have s1 : Below w.heap.size w (((w.alloc (.cells #[.int .i64 (i : Int)] 3)).alloc (.cells #[.bool false, .string ⟨#[]⟩] 28)).alloc (.cells #[.bool false, .string ⟨#[]⟩] 28)) :=
  (((Below.refl _ w).alloc (Nat.le_refl _) _).alloc (by simp) _).alloc (by simp; omega) _
 have bI := ((Blk.new w 3 [.int .i64 (i : Int)]).alloc (.cells #[.bool false, .string ⟨#[]⟩] 28)).alloc (.cells #[.bool false, .string ⟨#[]⟩] 28)
 have bR := (Blk.new (w.alloc (.cells #[.int .i64 (i : Int)] 3)) 28 [.bool false, .string ⟨#[]⟩]).alloc (.cells #[.bool false, .string ⟨#[]⟩] 28)
 have bN := Blk.new ((w.alloc (.cells #[.int .i64 (i : Int)] 3)).alloc (.cells #[.bool false, .string ⟨#[]⟩] 28)) 28 [.bool false, .string ⟨#[]⟩]
 simp only [World.size_alloc] at bR bN
 obtain ⟨w1, hw1⟩ : ∃ w1, ((w.alloc (.cells #[.int .i64 (i : Int)] 3)).alloc (.cells #[.bool false, .string ⟨#[]⟩] 28)).alloc (.cells #[.bool false, .string ⟨#[]⟩] 28) = w1 := ⟨_, rfl⟩
 have hsz1 : w1.heap.size = w.heap.size + 3 := by rw [← hw1]; simp
 rw [hw1] at s1 bI bR bN
 have gA1 := (s1.cell (p := ⟨Ba, 0, none⟩) hal).trans gA
 have gB1 := (s1.cell (p := ⟨Bb, 0, none⟩) hbl).trans gB
 clear gA gB
 obtain ⟨nb, hnb⟩ : ∃ nb, nb = B.length := ⟨_, rfl⟩
 obtain ⟨na, hna⟩ : ∃ na, na = A.length := ⟨_, rfl⟩
 rw [← hna] at hla gA1 hra
 rw [← hnb] at hlb2 gB1 hrb
 have HNB := Lib.hid hnb; clear hnb
 have HNA := Lib.hid hna; clear hna
 refine callsIn_of_wp_marks Tryz.func131 rfl trivial ?_ rfl
 simp only [Tryz.ntmps131, List.size_toArray, List.length_cons, List.length_nil, Nat.reduceAdd, Nat.reduceSub, Array.replicate_succ, Array.replicate_zero, List.push_toArray, List.append_toArray, List.nil_append, List.cons_append]
 have hcol := column_in Fence.wide 7 trivial rfl ab nb cb k w1
 have HCOL := Lib.hid hcol; clear hcol
 have HSZ1 := Lib.hid hsz1; clear hsz1
 have HS1 := Lib.hid s1; clear s1
 gi_wp2
 refine ⟨trivial, ?_⟩
 refine HCOL.out.mono ?_
 rintro e w2 ⟨rfl, rfl⟩
 have bM := (Blk.new w1 70 [.slice ab nb cb]).alloc (.cells #[.int .i64 (k : Int)] 3)
 have bK := Blk.new (w1.alloc (.cells #[.slice ab nb cb] 70)) 3 [.int .i64 (k : Int)]
 have s2 := (HS1.out.alloc HS1.out.size (.cells #[.slice ab nb cb] 70)).alloc (by have := HS1.out.size; simp; omega) (.cells #[.int .i64 (k : Int)] 3)
 have bI2 := (bI.alloc (.cells #[.slice ab nb cb] 70)).alloc (.cells #[.int .i64 (k : Int)] 3)
 have bR2 := (bR.alloc (.cells #[.slice ab nb cb] 70)).alloc (.cells #[.int .i64 (k : Int)] 3)
 have bN2 := (bN.alloc (.cells #[.slice ab nb cb] 70)).alloc (.cells #[.int .i64 (k : Int)] 3)
 simp only [World.size_alloc] at bK
 obtain ⟨w2, hw2⟩ : ∃ w2, (w1.alloc (.cells #[.slice ab nb cb] 70)).alloc (.cells #[.int .i64 (k : Int)] 3) = w2 := ⟨_, rfl⟩
 have hsz2 : w2.heap.size = w.heap.size + 5 := by rw [← hw2]; simp [HSZ1.out]
 rw [hw2] at s2 bI2 bR2 bN2 bM bK
 rw [HSZ1.out] at bM bK
 clear gA1 gB1 bI bR bN
 gi_wp2
 rw [HSZ1.out]
 have hB2 : Tab w0 (.slice ab nb cb) B := by rw [HNB.out]; exact hB
 have h0w2 : Below w0.heap.size w0 w2 := h0w.trans (s2.mono h0w.size)
 have hw0w := h0w.size
 have hA2 := hBa.below s2 hal
 have hni : i < na := by rw [HNA.out, okA.len]; exact hi
 obtain ⟨b0, off0, rfl, hb0, hc0⟩ := hra.at_ (by omega)
 have hri : A[i]? = some (A[i]'(by rw [← HNA.out]; exact hni)) := List.getElem?_eq_getElem _
 obtain ⟨r, hr⟩ : ∃ r, r = A[i]'(by rw [← HNA.out]; exact hni) := ⟨_, rfl⟩
 rw [← hr] at hri
 obtain ⟨rv, hrv, hrow⟩ := hrr i r hri
 obtain ⟨ra, rc, rfl, hrl⟩ := hrow.slice
 have hrm : r.length = m := okA.row r (List.mem_of_getElem? hri)
 have hBl : B.length = m := okB.len
 have hd0 : dotP A i (fun x : ColIt B.length p => x.x) [] = 0 := rfl
 refine wpIn_rangeFunc_ownH rfl (by decide) (gf := 157) (lb := #[.pointer (some ⟨w.heap.size + 3, 0, none⟩), .pointer (some ⟨w.heap.size + 3 + 1, 0, none⟩)]) rfl trivial (enters_of Tryz.func157 (by kernel_rfl) rfl)
  (column_stops Fence.wide 7 trivial rfl (by decide) (w.heap.size + 3) (w.heap.size + 3 + 1) k B (.slice ab nb cb) w0 w2 hB2 (fun r hr => by rw [okB.row r hr]; exact hk) (fun x : ColIt B.length p => x.x) L hL h0w2 (by omega) (by omega) (bM.cell (j := 0) rfl) (bK.cell (j := 0) rfl))
  cKpS.trans (ckpS_b (by omega) (by omega) (by omega)) (Below.refl _ _) (fun _ => rfl)
  (fun pre W => Blk W (w.heap.size + 1 + 1) 28 [.bool (ineg (dotP A i (fun x : ColIt B.length p => x.x) pre)), .string (imag (dotP A i (fun x : ColIt B.length p => x.x) pre))] ∧ Blk W w.heap.size 3 [.int .i64 (i : Int)] ∧ Blk W (w.heap.size + 1) 28 [.bool false, .string ⟨#[]⟩] ∧ Below w.heap.size w W ∧ w2.heap.size ≤ W.heap.size)
  (fun _ _ _ => False)
  ((blk_ownS _).and ((blk_ownS _).and ((blk_ownS _).and ((ownFrom_below (Nat.le_refl _) (by omega)).and (fun _ _ _ _ hs hg _ => Nat.le_trans hs hg.size)))))
  (fun _ => fun _ _ _ _ hs _ _ => hs)
  ⟨by rw [hd0, ineg_zero, imag_zero]; exact bN2, bI2, bR2, s2, Nat.le_refl _⟩
  (fun x' a' W => ∃ Bx, w2.heap.size ≤ Bx ∧ Blk W Bx 28 [.bool (ineg x'.x.2), .string (imag x'.x.2)] ∧ a' = { tmps := (List.toArray ((.int .i64 (i : Int) : Value) :: (.int .i64 (k : Int) : Value) :: (.pointer (some ⟨Bb, 0, none⟩) : Value) :: (.pointer (some ⟨Ba, 0, none⟩) : Value) :: (.pointer (some ⟨w.heap.size, 0, none⟩) : Value) :: (undef : Value) :: (.pointer (some ⟨w.heap.size + 1, 0, none⟩) : Value) :: (.pointer (some ⟨w.heap.size + 1 + 1, 0, none⟩) : Value) :: (.int .i64 ((x'.x.1 : Nat) : Int) : Value) :: (.pointer (some ⟨Bx, 0, none⟩) : Value) :: (.slice ab nb cb : Value) :: (.int .i64 (k : Int) : Value) :: (.func (.func 157) #[] #[.pointer (some ⟨w.heap.size + 3, 0, none⟩), .pointer (some ⟨w.heap.size + 3 + 1, 0, none⟩)] : Value) :: (.int .i64 ((x'.x.1 : Nat) : Int) : Value) :: (.agg #[.bool (ineg x'.x.2), .string (imag x'.x.2)] : Value) :: undef :: undef :: undef :: undef :: undef :: undef :: undef :: undef :: undef :: undef :: undef :: undef :: [])), defers := [] })
  (fun x' a' _ X Y row hs hg hr => by obtain ⟨Bx, h1, h2, h3⟩ := hs; exact ⟨Bx, h1, blk_ownF () X Y row h2 hg hr, h3⟩)
  ?assign ?body ?done ?stop
 case assign =>
  rintro l pre x' W K ⟨i1, i2, i3, i4, i5⟩ hK
  gi_wp2
  exact hK _ _ ((KeepsOthers.alloc _ _).from _) ((cKpS.refl _ _ _ W).alloc (by omega) (by omega) (by omega) _) ⟨i1.alloc _, i2.alloc _, i3.alloc _, i4.alloc (by omega) _, by simp; omega⟩ ⟨W.heap.size, i5, Blk.new W _ _, rfl⟩
 case body =>
  rintro l pre ⟨⟨jj, Y⟩, hjB, hYs⟩ a' W hl' - ⟨i1, i2, i3, i4, i5⟩ ⟨Bx, hBx, bX, rfl⟩ hltp
  dsimp only at bX hjB hYs
  have hjr : jj < r.length := by omega
  obtain ⟨b1, off1, rfl, hb1, hc1⟩ := hrow.at_ (by omega)
  have gz : r[jj]? = some (r[jj]'hjr) := List.getElem?_eq_getElem _
  obtain ⟨X, hX⟩ : ∃ X, X = r[jj]'hjr := ⟨_, rfl⟩
  rw [← hX] at gz
  have hent : ent A i jj = X := ent_get hri gz
  have hXs : sm p X := by rw [← hent]; exact okA.ent i jj
  have hWb := i4.size
  have h0W : Below w0.heap.size w0 W := h0w.trans (i4.mono h0w.size)
  have y0 := (i4.cell (p := ⟨Ba, 0, none⟩) hal).trans (hBa.cell (j := 0) rfl)
  have y1 := i2.cell (j := 0) rfl
  have y2 := (h0W.cell (p := ⟨b0, off0 + i, none⟩) hb0).trans (hc0 _ _ hrv)
  obtain ⟨y3, y4⟩ := int_cells hc1 h0W hb1 gz
  have y5 := bX.cell (j := 0) rfl
  have y6 := bX.cell (j := 1) rfl
  obtain ⟨D, hD⟩ : ∃ D, D = dotP A i (fun x : ColIt B.length p => x.x) pre := ⟨_, rfl⟩
  have hsn : dotP A i (fun x : ColIt B.length p => x.x) (pre ++ [⟨(jj, Y), hjB, hYs⟩]) = D + X * Y := by rw [dotP_snoc, ← hD, hent]
  have hDs : sm (p + p + 1) D := by rw [hD]; exact dotP_sm okA i _ pre (fun x => x.ok) (by omega)
  have hPs : sm (p + p) (X * Y) := hXs.mul hYs
  rw [← hD] at i1
  have hmul := fun w' => imul_any (ineg X) (ineg Y) (imag X) (imag Y) w' (Nat.le_trans hXs.size (by omega)) (Nat.le_trans hYs.size (by omega))
  have hadd := fun w' => iadd_any (ineg D) (ineg (X * Y)) (imag D) (imag (X * Y)) w' (Nat.le_trans hDs.size (by omega)) (Nat.le_trans hPs.size (by omega))
  simp only [ival_canon] at hmul hadd
  obtain ⟨rl, hrl2⟩ : ∃ rl, rl = r.length := ⟨_, rfl⟩
  have y2' := y2
  rw [← hrl2] at y2'
  have hBa' : Blk W Ba 70 [.slice (some ⟨b0, off0, none⟩) A.length ca] := hBa.below i4 hal
  rw [← HNA.out] at y0
  have hxi : (0 : Int) ≤ (i : Int) := by omega
  have hxi2 : (i : Int) < (na : Int) := by omega
  have hxj : (0 : Int) ≤ (jj : Int) := by omega
  have hxj2 : (jj : Int) < (rl : Int) := by omega
  have cN0 := i1.cell (j := 0) rfl
  have cN1 := i1.cell (j := 1) rfl
  have hbx := bX.lt
  have hne0 : ¬ Ba = w.heap.size + 1 + 1 := by omega
  have hne1 : ¬ b0 = w.heap.size + 1 + 1 := by omega
  have hne2 : ¬ b1 = w.heap.size + 1 + 1 := by omega
  have hne3 : ¬ Bx = w.heap.size + 1 + 1 := by omega
  have hne4 : ¬ w.heap.size + 1 + 1 = Ba := by omega
  have hne5 : ¬ w.heap.size + 1 + 1 = b0 := by omega
  have hne6 : ¬ w.heap.size + 1 + 1 = b1 := by omega
  have hne7 : ¬ w.heap.size + 1 + 1 = Bx := by omega
  have hne8 : ¬ w.heap.size = w.heap.size + 1 + 1 := by omega
  have hne9 : ¬ w.heap.size + 1 + 1 = w.heap.size := by omega
  replace y2 := y2'
  clear y2' hBa' hc1 gz hX hD hent hrl2 hDs hPs hXs
  have I1 := Lib.hid i1; clear i1
  have I2 := Lib.hid i2; clear i2
  have I3 := Lib.hid i3; clear i3
  have I4 := Lib.hid i4; clear i4
  have HMUL := Lib.hid hmul; clear hmul
  have HADD := Lib.hid hadd; clear hadd
  have HSN := Lib.hid hsn; clear hsn
  have BX := Lib.hid bX; clear bX
  gi_wp2
  refine wpIn_round_held (S := fun w' => w'.cell? ⟨Ba, 0, none⟩ = some (.slice (some ⟨b0, off0, none⟩) na ca) ∧ w'.cell? ⟨w.heap.size, 0, none⟩ = some (.int .i64 (i : Int)) ∧ w'.cell? ⟨b0, off0 + i, none⟩ = some (.slice (some ⟨b1, off1, none⟩) rl rc) ∧ w'.cell? ⟨b1, off1 + jj * 2, none⟩ = some (.bool (ineg X)) ∧ w'.cell? ⟨b1, off1 + jj * 2 + 1, none⟩ = some (.string (imag X)) ∧ w'.cell? ⟨Bx, 0, none⟩ = some (.bool (ineg Y)) ∧ w'.cell? ⟨Bx, 1, none⟩ = some (.string (imag Y))) (by kernel_rfl) (fun ⟨_, _, h⟩ => h) (by rfl) ?_ (fun hHeld => ?_)
  ·
   go_keep
  refine zT 1 (h := ?_)
  (try simp only [Act.put, zA, zB, zC])
  refine zT 2 (h := ?_)
  (try simp only [Act.put, zA, zB, zC])
  refine zT 3 (h := ?_)
  (try simp only [Act.put, zA, zB, zC])
  refine zT 4 (h := ?_)
  (try simp only [Act.put, zA, zB, zC])
  refine zT 5 (h := ?_)
  (try simp only [Act.put, zA, zB, zC])
  refine zT 6 (h := ?_)
  (try simp only [Act.put, zA, zB, zC])
  refine zT 7 (h := ?_)
  (try simp only [Act.put, zA, zB, zC])
  refine zT 8 (h := ?_)
  (try simp only [Act.put, zA, zB, zC])
  refine wpAnyH_ready (rs := [0, 9]) (by kernel_rfl) (by simp) ?_
  refine AllReadyH.cons rfl (fun K hK => ?_) (AllReadyH.cons rfl (fun K hK => ?_) AllReadyH.nil)
  ·
   go_simp
   refine hK.out _ _ ?_ (fun hH9 => ?_)
   ·
    ((try dsimp only); go_keep)
   clear hK K
   (try simp only [Act.put, zA, zB, zC])
   refine zR 9 (h := fun K hK => ?_)
   go_simp
   go_at_call 45
   refine (HMUL.out _).mono ?_
   rintro e w4 ⟨hq, rfl⟩
   dsimp only
   have z0 := (hq.cell (p := ⟨Ba, 0, none⟩) (show Ba < W.heap.size by omega)).trans hH9.1
   have z1 := (hq.cell (p := ⟨w.heap.size, 0, none⟩) (show w.heap.size < W.heap.size by omega)).trans hH9.2.1
   have z2 := (hq.cell (p := ⟨b0, off0 + i, none⟩) (show b0 < W.heap.size by omega)).trans hH9.2.2.1
   have z3 := (hq.cell (p := ⟨b1, off1 + jj * 2, none⟩) (show b1 < W.heap.size by omega)).trans hH9.2.2.2.1
   have z4 := (hq.cell (p := ⟨b1, off1 + jj * 2 + 1, none⟩) (show b1 < W.heap.size by omega)).trans hH9.2.2.2.2.1
   have z5 := (hq.cell (p := ⟨Bx, 0, none⟩) (show Bx < W.heap.size by omega)).trans hH9.2.2.2.2.2.1
   have z6 := (hq.cell (p := ⟨Bx, 1, none⟩) (show Bx < W.heap.size by omega)).trans hH9.2.2.2.2.2.2
   refine hK.out _ _ ⟨z0, z1, z2, z3, z4, z5, z6⟩ (fun hH4 => ?_)
   clear hK K z0 z1 z2 z3 z4 z5 z6
   (try simp only [Act.put, zA, zB, zC])
   have s4w : Below W.heap.size W w4 := ((Below.refl W.heap.size W).drew).trans hq
   have n4 := Blk.keep (w := W.drew) I1.out hq
   clear hq
   have hl4 : W.heap.size ≤ w4.heap.size := s4w.size
   refine zR 10 (h := fun K hK => ?_)
   go_simp
   go_at_call 44
   refine (HADD.out _).mono ?_
   rintro e w5 ⟨hq, rfl⟩
   dsimp only
   have z0 := (hq.cell (p := ⟨Ba, 0, none⟩) (show Ba < w4.heap.size by omega)).trans hH4.1
   have z1 := (hq.cell (p := ⟨w.heap.size, 0, none⟩) (show w.heap.size < w4.heap.size by omega)).trans hH4.2.1
   have z2 := (hq.cell (p := ⟨b0, off0 + i, none⟩) (show b0 < w4.heap.size by omega)).trans hH4.2.2.1
   have z3 := (hq.cell (p := ⟨b1, off1 + jj * 2, none⟩) (show b1 < w4.heap.size by omega)).trans hH4.2.2.2.1
   have z4 := (hq.cell (p := ⟨b1, off1 + jj * 2 + 1, none⟩) (show b1 < w4.heap.size by omega)).trans hH4.2.2.2.2.1
   have z5 := (hq.cell (p := ⟨Bx, 0, none⟩) (show Bx < w4.heap.size by omega)).trans hH4.2.2.2.2.2.1
   have z6 := (hq.cell (p := ⟨Bx, 1, none⟩) (show Bx < w4.heap.size by omega)).trans hH4.2.2.2.2.2.2
   refine hK.out _ _ ⟨z0, z1, z2, z3, z4, z5, z6⟩ (fun hH5 => ?_)
   clear hK K z0 z1 z2 z3 z4 z5 z6
   (try simp only [Act.put, zA, zB, zC])
   have hq5 := hq
   have s5w := s4w.trans (hq5.mono s4w.size)
   have n5 := n4.keep hq5
   have fr0 := n5.frozen 0
   have fr1 := n5.frozen 1
   have cn0 := n5.cell (j := 0) rfl
   have cn1 := n5.cell (j := 1) rfl
   have hl5 : W.heap.size ≤ w5.heap.size := s5w.size
   clear cN0 cN1
   refine zR 11 (h := fun K hK => ?_)
   go_simp
   refine hK.out _ _ ?_ (fun hH9 => ?_)
   ·
    ((try dsimp only); go_keep)
   clear hK K
   refine wpAnyH_done (by kernel_rfl) ?_ _
   (try simp only [List.getElem_toArray, List.getElem_cons_zero, List.getElem_cons_succ, Act.put, zA, zB, zC])
   gi_wp2
   have hk : ∀ b, b < W.heap.size → b ≠ w.heap.size + 1 + 1 → ((w5.setCell ⟨w.heap.size + 1 + 1, 0, none⟩ (.bool (ineg (D + X * Y)))).setCell ⟨w.heap.size + 1 + 1, 1, none⟩ (.string (imag (D + X * Y)))).heap[b]? = W.heap[b]? := fun b h1 h2 =>
    ((Below.heap_setCell _ _ _ b h2).trans (Below.heap_setCell _ _ _ b h2)).trans (s5w.block b h1)
   have k1 : KeepsFrom w2.heap.size W ((w5.setCell ⟨w.heap.size + 1 + 1, 0, none⟩ (.bool (ineg (D + X * Y)))).setCell ⟨w.heap.size + 1 + 1, 1, none⟩ (.string (imag (D + X * Y)))) :=
    (cf_below s5w rfl).trans ((cf_setCell w5 ⟨w.heap.size + 1 + 1, 0, none⟩ _ (show w.heap.size + 1 + 1 < w2.heap.size by omega)).trans (cf_setCell _ ⟨w.heap.size + 1 + 1, 1, none⟩ _ (show w.heap.size + 1 + 1 < w2.heap.size by omega)))
   have hbz : ∀ {n₀ : Nat} {Z : World}, n₀ ≤ w.heap.size → Below n₀ Z W → Below n₀ Z ((w5.setCell ⟨w.heap.size + 1 + 1, 0, none⟩ (.bool (ineg (D + X * Y)))).setCell ⟨w.heap.size + 1 + 1, 1, none⟩ (.string (imag (D + X * Y)))) := fun {n₀ Z} hn hZ =>
    ((hZ.trans (s5w.mono (by omega))).setCell (p := ⟨w.heap.size + 1 + 1, 0, none⟩) (show n₀ ≤ w.heap.size + 1 + 1 by omega) _).setCell (p := ⟨w.heap.size + 1 + 1, 1, none⟩) (show n₀ ≤ w.heap.size + 1 + 1 by omega) _
   refine ⟨k1, ⟨hbz (by omega) (Below.refl _ _), hk _ (by omega) (by omega), hk _ (by omega) (by omega)⟩, ?_⟩
   (try dsimp only)
   rw [HSN.out]
   exact ⟨(n5.set 0 _).set 1 _, I2.out.of_block (hk _ (by omega) (by omega)), I3.out.of_block (hk _ (by omega) (by omega)), hbz (Nat.le_refl _) I4.out, Nat.le_trans i5 (by have := hl5; simp; omega)⟩
  ·
   go_simp
   go_at_call 45
   refine (HMUL.out _).mono ?_
   rintro e w4 ⟨hq, rfl⟩
   dsimp only
   have z0 := (hq.cell (p := ⟨Ba, 0, none⟩) (show Ba < W.heap.size by omega)).trans hHeld.1
   have z1 := (hq.cell (p := ⟨w.heap.size, 0, none⟩) (show w.heap.size < W.heap.size by omega)).trans hHeld.2.1
   have z2 := (hq.cell (p := ⟨b0, off0 + i, none⟩) (show b0 < W.heap.size by omega)).trans hHeld.2.2.1
   have z3 := (hq.cell (p := ⟨b1, off1 + jj * 2, none⟩) (show b1 < W.heap.size by omega)).trans hHeld.2.2.2.1
   have z4 := (hq.cell (p := ⟨b1, off1 + jj * 2 + 1, none⟩) (show b1 < W.heap.size by omega)).trans hHeld.2.2.2.2.1
   have z5 := (hq.cell (p := ⟨Bx, 0, none⟩) (show Bx < W.heap.size by omega)).trans hHeld.2.2.2.2.2.1
   have z6 := (hq.cell (p := ⟨Bx, 1, none⟩) (show Bx < W.heap.size by omega)).trans hHeld.2.2.2.2.2.2
   refine hK.out _ _ ⟨z0, z1, z2, z3, z4, z5, z6⟩ (fun hH4 => ?_)
   clear hK K z0 z1 z2 z3 z4 z5 z6
   (try simp only [Act.put, zA, zB, zC])
   have s4w : Below W.heap.size W w4 := ((Below.refl W.heap.size W).drew).trans hq
   have n4 := Blk.keep (w := W.drew) I1.out hq
   clear hq cN0 cN1
   have cN0 := n4.cell (j := 0) rfl
   have cN1 := n4.cell (j := 1) rfl
   have hl4 : W.heap.size ≤ w4.heap.size := s4w.size
   refine zR 0 (h := fun K hK => ?_)
   go_simp
   refine hK.out _ _ ?_ (fun hH9 => ?_)
   ·
    ((try dsimp only); go_keep)
   clear hK K
   (try simp only [Act.put, zA, zB, zC])
   refine zR 10 (h := fun K hK => ?_)
   go_simp
   go_at_call 44
   refine (HADD.out _).mono ?_
   rintro e w5 ⟨hq, rfl⟩
   dsimp only
   have z0 := (hq.cell (p := ⟨Ba, 0, none⟩) (show Ba < w4.heap.size by omega)).trans hH9.1
   have z1 := (hq.cell (p := ⟨w.heap.size, 0, none⟩) (show w.heap.size < w4.heap.size by omega)).trans hH9.2.1
   have z2 := (hq.cell (p := ⟨b0, off0 + i, none⟩) (show b0 < w4.heap.size by omega)).trans hH9.2.2.1
   have z3 := (hq.cell (p := ⟨b1, off1 + jj * 2, none⟩) (show b1 < w4.heap.size by omega)).trans hH9.2.2.2.1
   have z4 := (hq.cell (p := ⟨b1, off1 + jj * 2 + 1, none⟩) (show b1 < w4.heap.size by omega)).trans hH9.2.2.2.2.1
   have z5 := (hq.cell (p := ⟨Bx, 0, none⟩) (show Bx < w4.heap.size by omega)).trans hH9.2.2.2.2.2.1
   have z6 := (hq.cell (p := ⟨Bx, 1, none⟩) (show Bx < w4.heap.size by omega)).trans hH9.2.2.2.2.2.2
   refine hK.out _ _ ⟨z0, z1, z2, z3, z4, z5, z6⟩ (fun hH5 => ?_)
   clear hK K z0 z1 z2 z3 z4 z5 z6
   (try simp only [Act.put, zA, zB, zC])
   have hq5 := hq
   have s5w := s4w.trans (hq5.mono s4w.size)
   have n5 := n4.keep hq5
   have fr0 := n5.frozen 0
   have fr1 := n5.frozen 1
   have cn0 := n5.cell (j := 0) rfl
   have cn1 := n5.cell (j := 1) rfl
   have hl5 : W.heap.size ≤ w5.heap.size := s5w.size
   clear cN0 cN1
   refine zR 11 (h := fun K hK => ?_)
   go_simp
   refine hK.out _ _ ?_ (fun hH9 => ?_)
   ·
    ((try dsimp only); go_keep)
   clear hK K
   refine wpAnyH_done (by kernel_rfl) ?_ _
   (try simp only [List.getElem_toArray, List.getElem_cons_zero, List.getElem_cons_succ, Act.put, zA, zB, zC])
   gi_wp2
   have hk : ∀ b, b < W.heap.size → b ≠ w.heap.size + 1 + 1 → ((w5.setCell ⟨w.heap.size + 1 + 1, 0, none⟩ (.bool (ineg (D + X * Y)))).setCell ⟨w.heap.size + 1 + 1, 1, none⟩ (.string (imag (D + X * Y)))).heap[b]? = W.heap[b]? := fun b h1 h2 =>
    ((Below.heap_setCell _ _ _ b h2).trans (Below.heap_setCell _ _ _ b h2)).trans (s5w.block b h1)
   have k1 : KeepsFrom w2.heap.size W ((w5.setCell ⟨w.heap.size + 1 + 1, 0, none⟩ (.bool (ineg (D + X * Y)))).setCell ⟨w.heap.size + 1 + 1, 1, none⟩ (.string (imag (D + X * Y)))) :=
    (cf_below s5w rfl).trans ((cf_setCell w5 ⟨w.heap.size + 1 + 1, 0, none⟩ _ (show w.heap.size + 1 + 1 < w2.heap.size by omega)).trans (cf_setCell _ ⟨w.heap.size + 1 + 1, 1, none⟩ _ (show w.heap.size + 1 + 1 < w2.heap.size by omega)))
   have hbz : ∀ {n₀ : Nat} {Z : World}, n₀ ≤ w.heap.size → Below n₀ Z W → Below n₀ Z ((w5.setCell ⟨w.heap.size + 1 + 1, 0, none⟩ (.bool (ineg (D + X * Y)))).setCell ⟨w.heap.size + 1 + 1, 1, none⟩ (.string (imag (D + X * Y)))) := fun {n₀ Z} hn hZ =>
    ((hZ.trans (s5w.mono (by omega))).setCell (p := ⟨w.heap.size + 1 + 1, 0, none⟩) (show n₀ ≤ w.heap.size + 1 + 1 by omega) _).setCell (p := ⟨w.heap.size + 1 + 1, 1, none⟩) (show n₀ ≤ w.heap.size + 1 + 1 by omega) _
   refine ⟨k1, ⟨hbz (by omega) (Below.refl _ _), hk _ (by omega) (by omega), hk _ (by omega) (by omega)⟩, ?_⟩
   (try dsimp only)
   rw [HSN.out]
   exact ⟨(n5.set 0 _).set 1 _, I2.out.of_block (hk _ (by omega) (by omega)), I3.out.of_block (hk _ (by omega) (by omega)), hbz (Nat.le_refl _) I4.out, Nat.le_trans i5 (by have := hl5; simp; omega)⟩
 case done =>
  rintro D ys W hDge rfl ⟨i1, i2, i3, i4, i5⟩ hK
  rw [dotP_full A B i k _ ys hL] at i1
  obtain ⟨Z, hZ⟩ : ∃ Z, Z = mulF A B i k := ⟨_, rfl⟩
  rw [← hZ] at i1
  have cN0 := i1.cell (j := 0) rfl
  have cN1 := i1.cell (j := 1) rfl
  have fr0 := i3.frozen 0
  have fr1 := i3.frozen 1
  have cr0 := i3.cell (j := 0) rfl
  have cr1 := i3.cell (j := 1) rfl
  have hWb := i4.size
  have I3 := Lib.hid i3; clear i3
  have I4 := Lib.hid i4; clear i4
  have HZ := Lib.hid hZ; clear hZ
  clear i1 i2
  gi_wp2
  rw [← HZ.out]
  have hb5 : Below w.heap.size w ((W.setCell ⟨w.heap.size + 1, 0, none⟩ (.bool (ineg Z))).setCell ⟨w.heap.size + 1, 1, none⟩ (.string (imag Z))) := (I4.out.setCell (p := ⟨w.heap.size + 1, 0, none⟩) (show w.heap.size ≤ w.heap.size + 1 by omega) _).setCell (p := ⟨w.heap.size + 1, 1, none⟩) (show w.heap.size ≤ w.heap.size + 1 by omega) _
  refine leaves_marks w2.heap.size (fun W => Below w.heap.size w W ∧ Blk W (w.heap.size + 1) 28 [.bool (ineg Z), .string (imag Z)]) (fun W D hB hk hD => ⟨hk.1.grown (grownBy_putObj' W D _) hk.1.size (fun j' e' => by cases e'; omega), hk.2.of_block (World.putObj_heap_other (by omega))⟩) (fun W hk => ?hfin) [D] _ ⟨hb5, (I3.out.set 0 _).set 1 _⟩ (fun D' h' => ?hd) (List.nodup_cons.2 ⟨by simp, List.nodup_nil⟩) (fun D' h' => ?hge)
  case hfin =>
   have e0 := hk.2.cell (j := 0) rfl
   have e1 := hk.2.cell (j := 1) rfl
   refine ⟨_, ?_, hk.1, rfl⟩
   simp [results, Tryz.results131, go_sem, e0, e1, IntV]
  case hd =>
   obtain rfl : D' = D := by simpa using h'
   exact ((Below.heap_setCell _ _ _ D' (by simp; omega)).trans (Below.heap_setCell _ _ _ D' (by simp; omega))).trans hK
  case hge =>
   obtain rfl : D' = D := by simpa using h'
   exact hDge
 case stop =>
  rintro D c pre W _ _ h _
  exact h.elim
end Go.Proofs.YthpgeeaccmgbkaaGreat

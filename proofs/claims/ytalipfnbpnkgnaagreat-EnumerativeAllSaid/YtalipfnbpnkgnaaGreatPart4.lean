/- Contracts and plain laws of several functions, one after the other: Keep, PlainE, ChkA, ERow. -/
import Derived.Deep.AppendLies
import Derived.Test.YtalipfnbpnkgnaaGreatPart10
import Derived.Test.YtalipfnbpnkgnaaGreatCheck
import Derived.Test.YtalipfnbpnkgnaaGreatIntB
/- A block is kept by whatever leaves the old blocks alone. -/
namespace Go.Proofs.YtalipfnbpnkgnaaGreat
open Go.RowKit
theorem Blk.keep {w w' : World} {b : Nat} {t : TypeId} {xs : List Value} (h : Blk w b t xs) (k : Below w.heap.size w w') : Blk w' b t xs := h.below k h.lt
/-- Two blocks laid one after the other, in a region that draws. -/
theorem two_new (w : World) (t t' : TypeId) (xs ys : List Value) : Blk ((w.alloc (.cells xs.toArray t (0, 0))).alloc (.cells ys.toArray t' (0, 0))).drew w.heap.size t xs ∧ Blk ((w.alloc (.cells xs.toArray t (0, 0))).alloc (.cells ys.toArray t' (0, 0))).drew (w.heap.size + 1) t' ys ∧ Below w.heap.size w ((w.alloc (.cells xs.toArray t (0, 0))).alloc (.cells ys.toArray t' (0, 0))).drew := by
  refine ⟨((Blk.new w t xs).alloc _).drew, ?_, (((Below.refl w.heap.size w).alloc (Nat.le_refl _) _).alloc (by simp) _).drew⟩
  have h := (Blk.new (w.alloc (.cells xs.toArray t (0, 0))) t' ys).drew
  rwa [World.size_alloc] at h
end Go.Proofs.YtalipfnbpnkgnaaGreat

/- Tables of numbers of words, in plain Lean: rows as the program adds them along the edges, and what they count. -/
namespace Go.Proofs.YtalipfnbpnkgnaaGreat
open Go.RowKit

/-- The number of words of k letters from s to states of p (paths, in general). -/
def cw (es : List E3) (p : Int → Bool) : Nat → Int → Int
  | 0, s => if p s = true then 1 else 0
  | k + 1, s => ((es.filter fun e => e.f == s).map fun e => cw es p k e.t).sum
/-- A row of the table. -/
def rowK (es : List E3) (S : Nat) (p : Int → Bool) (k : Nat) : List Int := (List.range S).map fun (s : Nat) => cw es p k (s : Int)
theorem rowK_length (es : List E3) (S : Nat) (p : Int → Bool) (k : Nat) : (rowK es S p k).length = S := by simp [rowK]
theorem rowK_get {es : List E3} {S : Nat} {p : Int → Bool} {k s : Nat} (h : s < S) : (rowK es S p k)[s]? = some (cw es p k (s : Int)) := by simp [rowK, h]
/-- The states of edges are told. -/
def InS (S : Nat) (es : List E3) : Prop := ∀ e ∈ es, 0 ≤ e.f ∧ e.f < S ∧ 0 ≤ e.t ∧ e.t < S
/-- A row under way: the first edges have been added. -/
def rowP (es : List E3) (S : Nat) (p : Int → Bool) (k : Nat) (j : Nat) : List Int := (List.range S).map fun (s : Nat) => (((es.take j).filter fun e => e.f == (s : Int)).map fun e => cw es p k e.t).sum
theorem rowP_length (es : List E3) (S : Nat) (p : Int → Bool) (k j : Nat) : (rowP es S p k j).length = S := by simp [rowP]
theorem rowP_zero (es : List E3) (S : Nat) (p : Int → Bool) (k : Nat) : rowP es S p k 0 = List.replicate S 0 := by
  apply List.ext_getElem? ; intro i
  by_cases h : i < S
  · simp [rowP, h]
  · rw [List.getElem?_eq_none (by rw [rowP_length]; omega), List.getElem?_eq_none (by simp; omega)]
theorem rowP_full (es : List E3) (S : Nat) (p : Int → Bool) (k : Nat) : rowP es S p k es.length = rowK es S p (k + 1) := by simp [rowP, rowK, cw]
theorem rowP_get {es : List E3} {S : Nat} {p : Int → Bool} {k j s : Nat} (h : s < S) : (rowP es S p k j)[s]? = some ((((es.take j).filter fun e => e.f == (s : Int)).map fun e => cw es p k e.t).sum) := by simp [rowP, h]
theorem sum_snoc (l : List Int) (x : Int) : (l ++ [x]).sum = l.sum + x := by
  induction l with
  | nil => simp
  | cons y l ih => simp [ih]; omega
/-- One edge more. -/
theorem rowP_succ {es : List E3} {S : Nat} {p : Int → Bool} {k j : Nat} {e : E3} {x y : Int} (he : es[j]? = some e) {f t : Nat} (hf : e.f = f) (ht : e.t = t) (hS : f < S) (hT : t < S)
    (hx : (rowP es S p k j)[f]? = some x) (hy : (rowK es S p k)[t]? = some y) : (rowP es S p k j).set f (x + y) = rowP es S p k (j + 1) := by
  have hj := (List.getElem?_eq_some_iff.1 he).1
  have het : es.take (j + 1) = es.take j ++ [e] := by
    rw [List.take_succ_eq_append_getElem hj, (List.getElem?_eq_some_iff.1 he).2]
  rw [rowP_get hS] at hx
  rw [rowK_get hT] at hy
  apply List.ext_getElem?
  intro i
  by_cases hi : i < S
  · rw [rowP_get hi, het, List.filter_append]
    by_cases e1 : i = f
    · subst e1
      rw [List.getElem?_set_self (by rw [rowP_length]; exact hS)]
      have hb : (e.f == (i : Int)) = true := by simp [hf]
      simp only [List.filter_cons, hb, if_true, List.filter_nil, List.map_append, List.map_cons, List.map_nil]
      rw [sum_snoc, ← Option.some.inj hx, ← Option.some.inj hy, ht]
    · rw [List.getElem?_set_ne (fun h => e1 h.symm), rowP_get hi]
      have hb : (e.f == (i : Int)) = false := by simp; omega
      simp [List.filter_cons, hb]
  · rw [List.getElem?_eq_none (by rw [List.length_set, rowP_length]; omega), List.getElem?_eq_none (by rw [rowP_length]; omega)]
/-- The first row under way. -/
def row0 (S : Nat) (p : Int → Bool) (j : Nat) : List Int := (List.range S).map fun (s : Nat) => if s < j ∧ p (s : Int) = true then 1 else 0
theorem row0_length (S : Nat) (p : Int → Bool) (j : Nat) : (row0 S p j).length = S := by simp [row0]
theorem row0_zero (S : Nat) (p : Int → Bool) : row0 S p 0 = List.replicate S 0 := by
  apply List.ext_getElem?; intro i
  by_cases h : i < S
  · simp [row0, h]
  · rw [List.getElem?_eq_none (by rw [row0_length]; omega), List.getElem?_eq_none (by simp; omega)]
theorem row0_full (es : List E3) (S : Nat) (p : Int → Bool) : row0 S p S = rowK es S p 0 := by
  unfold row0 rowK
  apply List.map_congr_left
  intro s hs
  have := List.mem_range.1 hs
  simp [cw, this]
theorem row0_yes {S : Nat} {p : Int → Bool} {j : Nat} (h : j < S) (hp : p (j : Int) = true) : (row0 S p j).set j 1 = row0 S p (j + 1) := by
  apply List.ext_getElem?; intro i
  by_cases hi : i < S
  · by_cases e : i = j
    · subst e; rw [List.getElem?_set_self (by rw [row0_length]; exact h)]; simp [row0, h, hp]
    · rw [List.getElem?_set_ne (fun h => e h.symm)]
      simp only [row0, List.getElem?_map, List.getElem?_range hi, Option.map_some]
      by_cases h1 : i < j
      · simp [h1, show i < j + 1 by omega]
      · simp [h1, show ¬ i < j + 1 by omega]
  · rw [List.getElem?_eq_none (by rw [List.length_set, row0_length]; omega), List.getElem?_eq_none (by rw [row0_length]; omega)]
theorem row0_no {S : Nat} {p : Int → Bool} {j : Nat} (hp : p (j : Int) = false) : row0 S p j = row0 S p (j + 1) := by
  unfold row0
  apply List.map_congr_left
  intro s _
  by_cases e : s = j
  · subst e; simp [hp]
  · by_cases h1 : s < j
    · simp [h1, show s < j + 1 by omega]
    · simp [h1, show ¬ s < j + 1 by omega]

/-! ### What the numbers are -/
theorem sum_nonneg : ∀ {l : List Int}, (∀ x ∈ l, 0 ≤ x) → 0 ≤ l.sum
  | [], _ => by simp
  | x :: l, h => by
    have h1 := h x (by simp)
    have h2 := sum_nonneg (l := l) fun y hy => h y (by simp [hy])
    simp; omega
theorem sum_le : ∀ {l : List Int} {M : Int}, (∀ x ∈ l, x ≤ M) → l.sum ≤ l.length * M
  | [], _, _ => by simp
  | x :: l, M, h => by
    have h1 := h x (by simp)
    have h2 := sum_le (l := l) (M := M) fun y hy => h y (by simp [hy])
    simp only [List.sum_cons, List.length_cons]
    have h3 : ((l.length + 1 : Nat) : Int) * M = l.length * M + M := by rw [Int.natCast_add, Int.add_mul]; simp
    rw [h3]; omega
theorem cw_nonneg (es : List E3) (p : Int → Bool) : ∀ (k : Nat) (s : Int), 0 ≤ cw es p k s
  | 0, s => by rw [cw]; split <;> omega
  | k + 1, s => by
    rw [cw]
    refine sum_nonneg fun x hx => ?_
    obtain ⟨e, _, rfl⟩ := List.mem_map.1 hx
    exact cw_nonneg es p k e.t
theorem cw_le (es : List E3) (p : Int → Bool) (D : Nat) (hD : ∀ s : Int, (es.filter fun e => e.f == s).length ≤ D) : ∀ (k : Nat) (s : Int), cw es p k s ≤ ((D ^ k : Nat) : Int)
  | 0, s => by rw [cw]; split <;> simp
  | k + 1, s => by
    rw [cw]
    have h := sum_le (l := (es.filter fun e => e.f == s).map fun e => cw es p k e.t) (M := ((D ^ k : Nat) : Int)) fun x hx => by
      obtain ⟨e, _, rfl⟩ := List.mem_map.1 hx
      exact cw_le es p D hD k e.t
    rw [List.length_map] at h
    refine Int.le_trans h ?_
    rw [Nat.pow_succ, Nat.mul_comm, Int.natCast_mul]
    exact Int.mul_le_mul_of_nonneg_right (by have := hD s; omega) (by omega)
theorem cw_le_len (es : List E3) (p : Int → Bool) (k : Nat) (s : Int) : cw es p k s ≤ ((es.length ^ k : Nat) : Int) := cw_le es p es.length (fun s => List.length_filter_le _ _) k s
theorem cw_mono {es : List E3} {p q : Int → Bool} (h : ∀ s, p s = true → q s = true) : ∀ (k : Nat) (s : Int), cw es p k s ≤ cw es q k s
  | 0, s => by
    rw [cw, cw]
    by_cases hp : p s = true
    · rw [if_pos hp, if_pos (h s hp)]; omega
    · rw [if_neg hp]; split <;> omega
  | k + 1, s => by
    rw [cw, cw]
    have : ∀ l : List E3, (l.map fun e => cw es p k e.t).sum ≤ (l.map fun e => cw es q k e.t).sum := by
      intro l
      induction l with
      | nil => simp
      | cons e l ih => have := cw_mono (es := es) h k e.t; simp only [List.map_cons, List.sum_cons]; omega
    exact this _
theorem cw_congr {es : List E3} {p q : Int → Bool} (h : ∀ s, p s = q s) (k : Nat) (s : Int) : cw es p k s = cw es q k s := by
  have : p = q := funext h
  rw [this]

/-! ### The greatest principal set -/
def pin (set : List Int) (s : Int) : Bool := decide (s ∈ set)
def keepS (es : List E3) (n : Nat) (m : Int) (set : List Int) : List Int := set.filter fun s => decide (m ≤ cw es (pin set) n s)
def prin (es : List E3) (n : Nat) (m : Int) (set : List Int) : List Int :=
  if h : (keepS es n m set).length = set.length then set else prin es n m (keepS es n m set)
termination_by set.length
decreasing_by
  have := List.length_filter_le (fun s => decide (m ≤ cw es (pin set) n s)) set
  unfold keepS at h ⊢
  omega
theorem prin_stop {es : List E3} {n : Nat} {m : Int} {set : List Int} (h : (keepS es n m set).length = set.length) : prin es n m set = set := by rw [prin, dif_pos h]
theorem prin_go {es : List E3} {n : Nat} {m : Int} {set : List Int} (h : ¬ (keepS es n m set).length = set.length) : prin es n m set = prin es n m (keepS es n m set) := by rw [prin, dif_neg h]
theorem keepS_sub (es : List E3) (n : Nat) (m : Int) (set : List Int) : (keepS es n m set).Sublist set := List.filter_sublist
theorem keepS_lt {es : List E3} {n : Nat} {m : Int} {set : List Int} (h : ¬ (keepS es n m set).length = set.length) : (keepS es n m set).length < set.length := by
  have := (keepS_sub es n m set).length_le; omega
theorem prin_sub (es : List E3) (n : Nat) (m : Int) (set : List Int) : (prin es n m set).Sublist set := by
  by_cases h : (keepS es n m set).length = set.length
  · rw [prin_stop h]; exact List.Sublist.refl _
  · rw [prin_go h]
    have := keepS_lt h
    exact (prin_sub es n m (keepS es n m set)).trans (keepS_sub es n m set)
termination_by set.length
/-- A set is principal. -/
def Prcp (es : List E3) (n : Nat) (m : Int) (Y : List Int) : Prop := ∀ s ∈ Y, m ≤ cw es (pin Y) n s
theorem prin_prcp (es : List E3) (n : Nat) (m : Int) (set : List Int) : Prcp es n m (prin es n m set) := by
  by_cases h : (keepS es n m set).length = set.length
  · rw [prin_stop h]
    intro s hs
    have := List.filter_eq_self.1 ((keepS_sub es n m set).eq_of_length h) s hs
    simpa using this
  · rw [prin_go h]
    have := keepS_lt h
    exact prin_prcp es n m (keepS es n m set)
termination_by set.length
theorem prin_great {es : List E3} {n : Nat} {m : Int} {Y : List Int} (hY : Prcp es n m Y) (set : List Int) (h : ∀ s ∈ Y, s ∈ set) : ∀ s ∈ Y, s ∈ prin es n m set := by
  by_cases hl : (keepS es n m set).length = set.length
  · rw [prin_stop hl]; exact h
  · rw [prin_go hl]
    have := keepS_lt hl
    refine prin_great hY (keepS es n m set) fun s hs => ?_
    refine List.mem_filter.2 ⟨h s hs, ?_⟩
    have h1 := hY s hs
    have h2 : cw es (pin Y) n s ≤ cw es (pin set) n s := cw_mono (fun t ht => by
      unfold pin at ht ⊢
      exact decide_eq_true (h t (of_decide_eq_true ht))) n s
    simp; omega
termination_by set.length
theorem prin_anti {es : List E3} {n : Nat} {m m' : Int} (h : m ≤ m') (set : List Int) : ∀ s ∈ prin es n m' set, s ∈ prin es n m set :=
  prin_great (fun s hs => Int.le_trans h (prin_prcp es n m' set s hs)) set fun _ hs => (prin_sub es n m' set).subset hs
theorem prin_empty {es : List E3} {n : Nat} {m : Int} {set : List Int} (h : ∀ p s, cw es p n s < m) : prin es n m set = [] := by
  apply List.eq_nil_iff_forall_not_mem.2
  intro s hs
  have h1 := prin_prcp es n m set s hs
  have h2 := h (pin (prin es n m set)) s
  omega
end Go.Proofs.YtalipfnbpnkgnaaGreat

/- What a valid graph keeps to; plain. -/
namespace Go.Proofs.YtalipfnbpnkgnaaGreat
open Go.RowKit

theorem chkL_rng {L S : Int} : ∀ {es : List E3} {p : Option E3}, chkL L S p es = 0 → ∀ e ∈ es, ¬ edgeBad L S e
  | [], _, _ => fun e he => by cases he
  | e :: r, p, h => by
    by_cases hb : edgeBad L S e
    · rw [chk_bad hb] at h; cases h
    · have h2 : chkL L S (some e) r = 0 := by
        cases p with
        | none => rw [chkL, if_neg hb] at h; exact h
        | some q =>
          rw [chkL, if_neg hb] at h
          split at h
          · cases h
          · exact h
      intro e' he'
      rcases List.mem_cons.1 he' with rfl | he'
      · exact hb
      · exact chkL_rng h2 e' he'
/-- What a valid graph keeps to. -/
theorem chk_all {L S : Int} {es : List E3} (h : chk L S es = 0) : 1 ≤ L ∧ 0 ≤ S ∧ S ≤ 64 ∧ es.length ≤ 1024 ∧ ∀ e ∈ es, ¬ edgeBad L S e := by
  unfold chk at h
  split at h
  · cases h
  · split at h
    · cases h
    · split at h
      · cases h
      · exact ⟨by omega, by omega, by omega, by omega, chkL_rng h⟩
theorem chk_inS {L : Int} {S : Nat} {es : List E3} (h : chk L (S : Int) es = 0) : InS S es := fun e he => by
  have h1 := (chk_all h).2.2.2.2 e he
  unfold edgeBad at h1
  omega
def allP : Int → Bool := fun _ => true
end Go.Proofs.YtalipfnbpnkgnaaGreat

/- Rows of integers: made, set, held in tables. -/
namespace Go.Proofs.YtalipfnbpnkgnaaGreat
open Go.RowKit

/-- Cells of integers. -/
def civ (l : List Int) : List Value := l.flatMap fun z => [.bool (ineg z), .string (imag z)]
theorem civ_length (l : List Int) : (civ l).length = l.length * 2 := by
  induction l with
  | nil => rfl
  | cons e l ih => simp only [civ, List.flatMap_cons, List.length_append, List.length_cons] at ih ⊢; rw [ih]; simp; omega
theorem civ_append (l k : List Int) : civ (l ++ k) = civ l ++ civ k := by simp [civ]
theorem civ_cons (z : Int) (l : List Int) : civ (z :: l) = .bool (ineg z) :: .string (imag z) :: civ l := by simp [civ]
theorem civ_get {l : List Int} {k : Nat} {z : Int} (h : l[k]? = some z) : (civ l)[k * 2]? = some (.bool (ineg z)) ∧ (civ l)[k * 2 + 1]? = some (.string (imag z)) := by
  induction l generalizing k with
  | nil => simp at h
  | cons x l ih =>
    cases k with
    | zero => simp at h; subst h; exact ⟨rfl, rfl⟩
    | succ k =>
      have := ih (k := k) (by simpa using h)
      rw [civ, List.flatMap_cons]
      have e1 : (k + 1) * 2 = k * 2 + 2 := by omega
      rw [e1]
      exact this
theorem civ_set (l : List Int) (k : Nat) (z : Int) : ((civ l).set (k * 2) (.bool (ineg z))).set (k * 2 + 1) (.string (imag z)) = civ (l.set k z) := by
  induction l generalizing k with
  | nil => rfl
  | cons x l ih =>
    cases k with
    | zero => rfl
    | succ k =>
      rw [List.set_cons_succ, civ_cons, civ_cons, show (k + 1) * 2 = k * 2 + 1 + 1 by omega, List.set_cons_succ, List.set_cons_succ, List.set_cons_succ, List.set_cons_succ, ih]
/-- The cells of an integer of a slice, in a world in which nothing of it has changed. -/
theorem int_cells {w w' : World} {B b off : Nat} {l : List Int} {k : Nat} {z : Int} (hce : ∀ (j : Nat) (u : Value), (civ l)[j]? = some u → w.cell? ⟨b, off + j, none⟩ = some u) (hb : Below B w w') (hlt : b < B) (h : l[k]? = some z) :
    w'.cell? ⟨b, off + k * 2, none⟩ = some (.bool (ineg z)) ∧ w'.cell? ⟨b, off + k * 2 + 1, none⟩ = some (.string (imag z)) :=
  ⟨(hb.cell (p := ⟨b, off + k * 2, none⟩) hlt).trans (hce (k * 2) _ (civ_get h).1), (hb.cell (p := ⟨b, off + k * 2 + 1, none⟩) hlt).trans (hce (k * 2 + 1) _ (civ_get h).2)⟩
/-- An integer is not too long. -/
def small (z : Int) : Prop := (imag z).size ≤ 1099511627775
theorem small_of {z : Int} {m : Nat} (h : z.natAbs < 256 ^ m) (hm : m ≤ 1099511627775) : small z := by
  unfold small; rw [imag_size]; exact Nat.le_trans (bb_length_le h) hm
theorem infoZ : (Tryz.prog.info? 33).map (fun i => (i.zero, i.size, i.bytes)) = some (some (.agg #[.bool false, .string ⟨#[]⟩]), 2, 24) := by kernel_rfl
theorem ineg_zero : ineg 0 = false := rfl
theorem imag_zero : imag 0 = ⟨#[]⟩ := by simp [imag, bb_zero]
theorem zrow_int (c : Nat) : zrow (.agg #[.bool false, .string ⟨#[]⟩]) c = civ (List.replicate c 0) := by
  induction c with
  | zero => rfl
  | succ c ih =>
    rw [List.replicate_succ, civ_cons, ineg_zero, imag_zero, ← ih]
    simp [zrow, List.replicate_succ, Value.cells]
/-- 'make([]api.Int, n)'. -/
theorem mkI (n : Nat) (h : n ≤ 1000000) (N : Int) (hN : N = (n : Int)) (w : World) : (Instr.makeSlice 28 (.int .i64 N) (.int .i64 N)).run Tryz.prog w = .ok (.slice (some ⟨w.heap.size, 0, none⟩) n n) (w.alloc (.cells (zarr (.agg #[.bool false, .string ⟨#[]⟩]) n) 33)) :=
  mk_slice 28 33 _ 2 24 Tryz.underlying28 infoZ rfl .i64 .i64 n n (Nat.le_refl _) (by omega) (by omega) N N hN hN w
theorem blk_mkI (w : World) (n : Nat) : Blk (w.alloc (.cells (zarr (.agg #[.bool false, .string ⟨#[]⟩]) n) 33)) w.heap.size 33 (civ (List.replicate n 0)) := by
  have h := Blk.zero w 33 (.agg #[.bool false, .string ⟨#[]⟩]) n
  rwa [zrow_int] at h
theorem own_ne_blk {W : World} {base : Nat} {e t : TypeId} {size n b : Nat} {v : Value} {xs ys : List Value} (h : W.ownsRow base e size v n xs) (hb : Blk W b t ys) (hne : t ≠ e) : v.ownBlock ≠ some b := by
  rcases h.2 with ⟨rfl, _⟩ | ⟨g, cap, cur, rfl, _, hg, _⟩
  · simp [Value.ownBlock]
  · intro e'
    obtain rfl : g = b := by simpa [Value.ownBlock] using e'
    unfold Blk at hb
    rw [hb] at hg
    injection hg with hg
    injection hg with h1 h2
    exact hne h2

/-- A block of integers, as a slice. -/
theorem blk_row {w : World} {b : Nat} {l : List Int} (h : Blk w b 33 (civ l)) (hl : l.length ≤ 1000000) : Row w (.slice (some ⟨b, 0, none⟩) l.length l.length) l.length (civ l) := by
  have h2 := Row.ofBlk h (m := l.length) (cap := l.length) (Nat.le_refl _) (by unfold maxLen; omega) (civ l).length
  rwa [List.take_length] at h2
/-- Tables: a slice of rows. -/
def Tab (w : World) (v : Value) (rows : List (List Int)) : Prop :=
  ∃ rvs : List Value, rvs.length = rows.length ∧ Row w v rows.length rvs ∧ ∀ (i : Nat) (r : List Int), rows[i]? = some r → ∃ rv : Value, rvs[i]? = some rv ∧ Row w rv r.length (civ r)
theorem Tab.below {w w' : World} {v : Value} {rows : List (List Int)} {B : Nat} (h : Tab w v rows) (k : Below B w w') (hB : w.heap.size ≤ B) : Tab w' v rows := by
  obtain ⟨rvs, h1, h2, h3⟩ := h
  exact ⟨rvs, h1, h2.below k hB, fun i r hr => by obtain ⟨rv, h4, h5⟩ := h3 i r hr; exact ⟨rv, h4, h5.below k hB⟩⟩
theorem Tab.drew {w : World} {v : Value} {rows : List (List Int)} (h : Tab w v rows) : Tab w.drew v rows := h
/-! ### The numbers are not too long -/
theorem cw_small {es : List E3} (hl : es.length ≤ 65536) (p : Int → Bool) (k : Nat) (hk : k ≤ 100000) (s : Int) : small (cw es p k s) := by
  have h1 := cw_nonneg es p k s
  have h2 := cw_le_len es p k s
  have h3 : es.length ^ k ≤ (256 ^ 2) ^ k := Nat.pow_le_pow_left (by omega) k
  rw [← Nat.pow_mul] at h3
  refine small_of (m := 2 * k + 1) ?_ (by omega)
  have h4 : 256 ^ (2 * k) < 256 ^ (2 * k + 1) := Nat.pow_lt_pow_right (by decide) (by omega)
  omega
theorem rowP_small {es : List E3} (hl : es.length ≤ 65536) (S : Nat) (p : Int → Bool) (k j : Nat) (hk : k ≤ 10000) {f : Nat} {x : Int} (h : (rowP es S p k j)[f]? = some x) : small x := by
  have hf : f < S := by have := (List.getElem?_eq_some_iff.1 h).1; rwa [rowP_length] at this
  rw [rowP_get hf] at h
  obtain rfl := Option.some.inj h
  have h0 : ∀ y ∈ ((es.take j).filter fun e => e.f == (f : Int)).map fun e => cw es p k e.t, 0 ≤ y ∧ y ≤ ((es.length ^ k : Nat) : Int) := by
    intro y hy
    obtain ⟨e, _, rfl⟩ := List.mem_map.1 hy
    exact ⟨cw_nonneg _ _ _ _, cw_le_len _ _ _ _⟩
  have h1 := sum_nonneg fun y hy => (h0 y hy).1
  have h2 := sum_le fun y hy => (h0 y hy).2
  rw [List.length_map] at h2
  have h3 : ((es.take j).filter fun e => e.f == (f : Int)).length ≤ es.length := Nat.le_trans (List.length_filter_le _ _) (by rw [List.length_take]; omega)
  have h4 : ((((es.take j).filter fun e => e.f == (f : Int)).length : Nat) : Int) * ((es.length ^ k : Nat) : Int) ≤ ((es.length ^ (k + 1) : Nat) : Int) := by
    rw [Nat.pow_succ, Nat.mul_comm (es.length ^ k), Int.natCast_mul]
    exact Int.mul_le_mul_of_nonneg_right (by omega) (by omega)
  have h5 : es.length ^ (k + 1) ≤ (256 ^ 2) ^ (k + 1) := Nat.pow_le_pow_left (by omega) (k + 1)
  rw [← Nat.pow_mul] at h5
  refine small_of (m := 2 * (k + 1) + 1) ?_ (by omega)
  have h6 : 256 ^ (2 * (k + 1)) < 256 ^ (2 * (k + 1) + 1) := Nat.pow_lt_pow_right (by decide) (by omega)
  omega
end Go.Proofs.YtalipfnbpnkgnaaGreat


/- Contracts and plain laws of several functions, one after the other: Keep, PlainE, ERow, Shelf, ESet, Word. -/
import Derived.Deep.AppendLies
import Derived.Shelf.Strings.Builder1
import Derived.Shelf.Small.Bits
import Derived.Shelf.Small.Strs
import Derived.Shelf.Strings.BuilderF
import Derived.Shelf.Strings.BuilderK
import Derived.Shelf.Strconv.Itoa0
import Derived.Shelf.Strings.Search1
import Derived.Ground.Names2Prog
import Derived.Shelf.Slices.CompactI
import Derived.Shelf.Slices.SearchI
import Derived.Shelf.Slices.Cells
import Derived.Test.YtalipfnbpnkgnaaGreatProg
import Derived.BigQuiet
import Derived.Deep.QuietTactic
import Derived.Lib.IndexLaws
import Derived.Test.YtalipfnbpnkgnaaGreatPart6
import Derived.Test.YtalipfnbpnkgnaaGreatCheck
import Derived.Test.YtalipfnbpnkgnaaGreatPart3
/- A block is kept by whatever leaves the old blocks alone. -/
namespace Go.Proofs.YtalipfnbpnkgnaaGreat
open Go.RowKit
theorem Blk.keep {w w' : World} {b : Nat} {t : TypeId} {xs : List Value} (h : Blk w b t xs) (k : Below w.heap.size w w') : Blk w' b t xs := h.below k h.lt
/-- Two blocks laid one after the other, in a region that draws. -/
theorem two_new (w : World) (t t' : TypeId) (xs ys : List Value) : Blk ((w.alloc (.cells xs.toArray t (0, 0))).alloc (.cells ys.toArray t' (0, 0))).drew w.heap.size t xs ∧ Blk ((w.alloc (.cells xs.toArray t (0, 0))).alloc (.cells ys.toArray t' (0, 0))).drew (w.heap.size + 1) t' ys ∧ Below w.heap.size w ((w.alloc (.cells xs.toArray t (0, 0))).alloc (.cells ys.toArray t' (0, 0))).drew := by
  refine ⟨((Blk.new w t xs).alloc _).drew, ?_, (((Below.refl w.heap.size w).alloc (Nat.le_refl _) _).alloc (by simp) _).drew⟩
  have h := (Blk.new (w.alloc (.cells xs.toArray t (0, 0))) t' ys).drew
  rwa [World.size_alloc] at h
end Go.Proofs.YtalipfnbpnkgnaaGreat

/- Tables of numbers of words, in plain Lean: rows as the program adds them along the edges, and what they count. -/
namespace Go.Proofs.YtalipfnbpnkgnaaGreat
open Go.RowKit

/-- The number of words of k letters from s to states of p (paths, in general). -/
def cw (es : List E3) (p : Int → Bool) : Nat → Int → Int
  | 0, s => if p s = true then 1 else 0
  | k + 1, s => ((es.filter fun e => e.f == s).map fun e => cw es p k e.t).sum
/-- A row of the table. -/
def rowK (es : List E3) (S : Nat) (p : Int → Bool) (k : Nat) : List Int := (List.range S).map fun (s : Nat) => cw es p k (s : Int)
theorem rowK_length (es : List E3) (S : Nat) (p : Int → Bool) (k : Nat) : (rowK es S p k).length = S := by simp [rowK]
theorem rowK_get {es : List E3} {S : Nat} {p : Int → Bool} {k s : Nat} (h : s < S) : (rowK es S p k)[s]? = some (cw es p k (s : Int)) := by simp [rowK, h]
/-- The states of edges are told. -/
def InS (S : Nat) (es : List E3) : Prop := ∀ e ∈ es, 0 ≤ e.f ∧ e.f < S ∧ 0 ≤ e.t ∧ e.t < S
/-- A row under way: the first edges have been added. -/
def rowP (es : List E3) (S : Nat) (p : Int → Bool) (k : Nat) (j : Nat) : List Int := (List.range S).map fun (s : Nat) => (((es.take j).filter fun e => e.f == (s : Int)).map fun e => cw es p k e.t).sum
theorem rowP_length (es : List E3) (S : Nat) (p : Int → Bool) (k j : Nat) : (rowP es S p k j).length = S := by simp [rowP]
theorem rowP_zero (es : List E3) (S : Nat) (p : Int → Bool) (k : Nat) : rowP es S p k 0 = List.replicate S 0 := by
  apply List.ext_getElem? ; intro i
  by_cases h : i < S
  · simp [rowP, h]
  · rw [List.getElem?_eq_none (by rw [rowP_length]; omega), List.getElem?_eq_none (by simp; omega)]
theorem rowP_full (es : List E3) (S : Nat) (p : Int → Bool) (k : Nat) : rowP es S p k es.length = rowK es S p (k + 1) := by simp [rowP, rowK, cw]
theorem rowP_get {es : List E3} {S : Nat} {p : Int → Bool} {k j s : Nat} (h : s < S) : (rowP es S p k j)[s]? = some ((((es.take j).filter fun e => e.f == (s : Int)).map fun e => cw es p k e.t).sum) := by simp [rowP, h]
theorem sum_snoc (l : List Int) (x : Int) : (l ++ [x]).sum = l.sum + x := by
  induction l with
  | nil => simp
  | cons y l ih => simp [ih]; omega
/-- One edge more. -/
theorem rowP_succ {es : List E3} {S : Nat} {p : Int → Bool} {k j : Nat} {e : E3} {x y : Int} (he : es[j]? = some e) {f t : Nat} (hf : e.f = f) (ht : e.t = t) (hS : f < S) (hT : t < S)
    (hx : (rowP es S p k j)[f]? = some x) (hy : (rowK es S p k)[t]? = some y) : (rowP es S p k j).set f (x + y) = rowP es S p k (j + 1) := by
  have hj := (List.getElem?_eq_some_iff.1 he).1
  have het : es.take (j + 1) = es.take j ++ [e] := by
    rw [List.take_succ_eq_append_getElem hj, (List.getElem?_eq_some_iff.1 he).2]
  rw [rowP_get hS] at hx
  rw [rowK_get hT] at hy
  apply List.ext_getElem?
  intro i
  by_cases hi : i < S
  · rw [rowP_get hi, het, List.filter_append]
    by_cases e1 : i = f
    · subst e1
      rw [List.getElem?_set_self (by rw [rowP_length]; exact hS)]
      have hb : (e.f == (i : Int)) = true := by simp [hf]
      simp only [List.filter_cons, hb, if_true, List.filter_nil, List.map_append, List.map_cons, List.map_nil]
      rw [sum_snoc, ← Option.some.inj hx, ← Option.some.inj hy, ht]
    · rw [List.getElem?_set_ne (fun h => e1 h.symm), rowP_get hi]
      have hb : (e.f == (i : Int)) = false := by simp; omega
      simp [List.filter_cons, hb]
  · rw [List.getElem?_eq_none (by rw [List.length_set, rowP_length]; omega), List.getElem?_eq_none (by rw [rowP_length]; omega)]
/-- The first row under way. -/
def row0 (S : Nat) (p : Int → Bool) (j : Nat) : List Int := (List.range S).map fun (s : Nat) => if s < j ∧ p (s : Int) = true then 1 else 0
theorem row0_length (S : Nat) (p : Int → Bool) (j : Nat) : (row0 S p j).length = S := by simp [row0]
theorem row0_zero (S : Nat) (p : Int → Bool) : row0 S p 0 = List.replicate S 0 := by
  apply List.ext_getElem?; intro i
  by_cases h : i < S
  · simp [row0, h]
  · rw [List.getElem?_eq_none (by rw [row0_length]; omega), List.getElem?_eq_none (by simp; omega)]
theorem row0_full (es : List E3) (S : Nat) (p : Int → Bool) : row0 S p S = rowK es S p 0 := by
  unfold row0 rowK
  apply List.map_congr_left
  intro s hs
  have := List.mem_range.1 hs
  simp [cw, this]
theorem row0_yes {S : Nat} {p : Int → Bool} {j : Nat} (h : j < S) (hp : p (j : Int) = true) : (row0 S p j).set j 1 = row0 S p (j + 1) := by
  apply List.ext_getElem?; intro i
  by_cases hi : i < S
  · by_cases e : i = j
    · subst e; rw [List.getElem?_set_self (by rw [row0_length]; exact h)]; simp [row0, h, hp]
    · rw [List.getElem?_set_ne (fun h => e h.symm)]
      simp only [row0, List.getElem?_map, List.getElem?_range hi, Option.map_some]
      by_cases h1 : i < j
      · simp [h1, show i < j + 1 by omega]
      · simp [h1, show ¬ i < j + 1 by omega]
  · rw [List.getElem?_eq_none (by rw [List.length_set, row0_length]; omega), List.getElem?_eq_none (by rw [row0_length]; omega)]
theorem row0_no {S : Nat} {p : Int → Bool} {j : Nat} (hp : p (j : Int) = false) : row0 S p j = row0 S p (j + 1) := by
  unfold row0
  apply List.map_congr_left
  intro s _
  by_cases e : s = j
  · subst e; simp [hp]
  · by_cases h1 : s < j
    · simp [h1, show s < j + 1 by omega]
    · simp [h1, show ¬ s < j + 1 by omega]

/-! ### What the numbers are -/
theorem sum_nonneg : ∀ {l : List Int}, (∀ x ∈ l, 0 ≤ x) → 0 ≤ l.sum
  | [], _ => by simp
  | x :: l, h => by
    have h1 := h x (by simp)
    have h2 := sum_nonneg (l := l) fun y hy => h y (by simp [hy])
    simp; omega
theorem sum_le : ∀ {l : List Int} {M : Int}, (∀ x ∈ l, x ≤ M) → l.sum ≤ l.length * M
  | [], _, _ => by simp
  | x :: l, M, h => by
    have h1 := h x (by simp)
    have h2 := sum_le (l := l) (M := M) fun y hy => h y (by simp [hy])
    simp only [List.sum_cons, List.length_cons]
    have h3 : ((l.length + 1 : Nat) : Int) * M = l.length * M + M := by rw [Int.natCast_add, Int.add_mul]; simp
    rw [h3]; omega
theorem cw_nonneg (es : List E3) (p : Int → Bool) : ∀ (k : Nat) (s : Int), 0 ≤ cw es p k s
  | 0, s => by rw [cw]; split <;> omega
  | k + 1, s => by
    rw [cw]
    refine sum_nonneg fun x hx => ?_
    obtain ⟨e, _, rfl⟩ := List.mem_map.1 hx
    exact cw_nonneg es p k e.t
theorem cw_le (es : List E3) (p : Int → Bool) (D : Nat) (hD : ∀ s : Int, (es.filter fun e => e.f == s).length ≤ D) : ∀ (k : Nat) (s : Int), cw es p k s ≤ ((D ^ k : Nat) : Int)
  | 0, s => by rw [cw]; split <;> simp
  | k + 1, s => by
    rw [cw]
    have h := sum_le (l := (es.filter fun e => e.f == s).map fun e => cw es p k e.t) (M := ((D ^ k : Nat) : Int)) fun x hx => by
      obtain ⟨e, _, rfl⟩ := List.mem_map.1 hx
      exact cw_le es p D hD k e.t
    rw [List.length_map] at h
    refine Int.le_trans h ?_
    rw [Nat.pow_succ, Nat.mul_comm, Int.natCast_mul]
    exact Int.mul_le_mul_of_nonneg_right (by have := hD s; omega) (by omega)
theorem cw_le_len (es : List E3) (p : Int → Bool) (k : Nat) (s : Int) : cw es p k s ≤ ((es.length ^ k : Nat) : Int) := cw_le es p es.length (fun s => List.length_filter_le _ _) k s
theorem cw_mono {es : List E3} {p q : Int → Bool} (h : ∀ s, p s = true → q s = true) : ∀ (k : Nat) (s : Int), cw es p k s ≤ cw es q k s
  | 0, s => by
    rw [cw, cw]
    by_cases hp : p s = true
    · rw [if_pos hp, if_pos (h s hp)]; omega
    · rw [if_neg hp]; split <;> omega
  | k + 1, s => by
    rw [cw, cw]
    have : ∀ l : List E3, (l.map fun e => cw es p k e.t).sum ≤ (l.map fun e => cw es q k e.t).sum := by
      intro l
      induction l with
      | nil => simp
      | cons e l ih => have := cw_mono (es := es) h k e.t; simp only [List.map_cons, List.sum_cons]; omega
    exact this _
theorem cw_congr {es : List E3} {p q : Int → Bool} (h : ∀ s, p s = q s) (k : Nat) (s : Int) : cw es p k s = cw es q k s := by
  have : p = q := funext h
  rw [this]

/-! ### The greatest principal set -/
def pin (set : List Int) (s : Int) : Bool := decide (s ∈ set)
def keepS (es : List E3) (n : Nat) (m : Int) (set : List Int) : List Int := set.filter fun s => decide (m ≤ cw es (pin set) n s)
def prin (es : List E3) (n : Nat) (m : Int) (set : List Int) : List Int :=
  if h : (keepS es n m set).length = set.length then set else prin es n m (keepS es n m set)
termination_by set.length
decreasing_by
  have := List.length_filter_le (fun s => decide (m ≤ cw es (pin set) n s)) set
  unfold keepS at h ⊢
  omega
theorem prin_stop {es : List E3} {n : Nat} {m : Int} {set : List Int} (h : (keepS es n m set).length = set.length) : prin es n m set = set := by rw [prin, dif_pos h]
theorem prin_go {es : List E3} {n : Nat} {m : Int} {set : List Int} (h : ¬ (keepS es n m set).length = set.length) : prin es n m set = prin es n m (keepS es n m set) := by rw [prin, dif_neg h]
theorem keepS_sub (es : List E3) (n : Nat) (m : Int) (set : List Int) : (keepS es n m set).Sublist set := List.filter_sublist
theorem keepS_lt {es : List E3} {n : Nat} {m : Int} {set : List Int} (h : ¬ (keepS es n m set).length = set.length) : (keepS es n m set).length < set.length := by
  have := (keepS_sub es n m set).length_le; omega
theorem prin_sub (es : List E3) (n : Nat) (m : Int) (set : List Int) : (prin es n m set).Sublist set := by
  by_cases h : (keepS es n m set).length = set.length
  · rw [prin_stop h]; exact List.Sublist.refl _
  · rw [prin_go h]
    have := keepS_lt h
    exact (prin_sub es n m (keepS es n m set)).trans (keepS_sub es n m set)
termination_by set.length
/-- A set is principal. -/
def Prcp (es : List E3) (n : Nat) (m : Int) (Y : List Int) : Prop := ∀ s ∈ Y, m ≤ cw es (pin Y) n s
theorem prin_prcp (es : List E3) (n : Nat) (m : Int) (set : List Int) : Prcp es n m (prin es n m set) := by
  by_cases h : (keepS es n m set).length = set.length
  · rw [prin_stop h]
    intro s hs
    have := List.filter_eq_self.1 ((keepS_sub es n m set).eq_of_length h) s hs
    simpa using this
  · rw [prin_go h]
    have := keepS_lt h
    exact prin_prcp es n m (keepS es n m set)
termination_by set.length
theorem prin_great {es : List E3} {n : Nat} {m : Int} {Y : List Int} (hY : Prcp es n m Y) (set : List Int) (h : ∀ s ∈ Y, s ∈ set) : ∀ s ∈ Y, s ∈ prin es n m set := by
  by_cases hl : (keepS es n m set).length = set.length
  · rw [prin_stop hl]; exact h
  · rw [prin_go hl]
    have := keepS_lt hl
    refine prin_great hY (keepS es n m set) fun s hs => ?_
    refine List.mem_filter.2 ⟨h s hs, ?_⟩
    have h1 := hY s hs
    have h2 : cw es (pin Y) n s ≤ cw es (pin set) n s := cw_mono (fun t ht => by
      unfold pin at ht ⊢
      exact decide_eq_true (h t (of_decide_eq_true ht))) n s
    simp; omega
termination_by set.length
theorem prin_anti {es : List E3} {n : Nat} {m m' : Int} (h : m ≤ m') (set : List Int) : ∀ s ∈ prin es n m' set, s ∈ prin es n m set :=
  prin_great (fun s hs => Int.le_trans h (prin_prcp es n m' set s hs)) set fun _ hs => (prin_sub es n m' set).subset hs
theorem prin_empty {es : List E3} {n : Nat} {m : Int} {set : List Int} (h : ∀ p s, cw es p n s < m) : prin es n m set = [] := by
  apply List.eq_nil_iff_forall_not_mem.2
  intro s hs
  have h1 := prin_prcp es n m set s hs
  have h2 := h (pin (prin es n m set)) s
  omega
end Go.Proofs.YtalipfnbpnkgnaaGreat

/- Rows of integers: made, set, held in tables. -/
namespace Go.Proofs.YtalipfnbpnkgnaaGreat
open Go.RowKit

/-- Cells of integers. -/
def civ (l : List Int) : List Value := l.flatMap fun z => [.bool (ineg z), .string (imag z)]
theorem civ_length (l : List Int) : (civ l).length = l.length * 2 := by
  induction l with
  | nil => rfl
  | cons e l ih => simp only [civ, List.flatMap_cons, List.length_append, List.length_cons] at ih ⊢; rw [ih]; simp; omega
theorem civ_append (l k : List Int) : civ (l ++ k) = civ l ++ civ k := by simp [civ]
theorem civ_cons (z : Int) (l : List Int) : civ (z :: l) = .bool (ineg z) :: .string (imag z) :: civ l := by simp [civ]
theorem civ_get {l : List Int} {k : Nat} {z : Int} (h : l[k]? = some z) : (civ l)[k * 2]? = some (.bool (ineg z)) ∧ (civ l)[k * 2 + 1]? = some (.string (imag z)) := by
  induction l generalizing k with
  | nil => simp at h
  | cons x l ih =>
    cases k with
    | zero => simp at h; subst h; exact ⟨rfl, rfl⟩
    | succ k =>
      have := ih (k := k) (by simpa using h)
      rw [civ, List.flatMap_cons]
      have e1 : (k + 1) * 2 = k * 2 + 2 := by omega
      rw [e1]
      exact this
theorem civ_set (l : List Int) (k : Nat) (z : Int) : ((civ l).set (k * 2) (.bool (ineg z))).set (k * 2 + 1) (.string (imag z)) = civ (l.set k z) := by
  induction l generalizing k with
  | nil => rfl
  | cons x l ih =>
    cases k with
    | zero => rfl
    | succ k =>
      rw [List.set_cons_succ, civ_cons, civ_cons, show (k + 1) * 2 = k * 2 + 1 + 1 by omega, List.set_cons_succ, List.set_cons_succ, List.set_cons_succ, List.set_cons_succ, ih]
/-- The cells of an integer of a slice, in a world in which nothing of it has changed. -/
theorem int_cells {w w' : World} {B b off : Nat} {l : List Int} {k : Nat} {z : Int} (hce : ∀ (j : Nat) (u : Value), (civ l)[j]? = some u → w.cell? ⟨b, off + j, none⟩ = some u) (hb : Below B w w') (hlt : b < B) (h : l[k]? = some z) :
    w'.cell? ⟨b, off + k * 2, none⟩ = some (.bool (ineg z)) ∧ w'.cell? ⟨b, off + k * 2 + 1, none⟩ = some (.string (imag z)) :=
  ⟨(hb.cell (p := ⟨b, off + k * 2, none⟩) hlt).trans (hce (k * 2) _ (civ_get h).1), (hb.cell (p := ⟨b, off + k * 2 + 1, none⟩) hlt).trans (hce (k * 2 + 1) _ (civ_get h).2)⟩
/-- An integer is not too long. -/
def small (z : Int) : Prop := (imag z).size ≤ 1099511627775
theorem small_of {z : Int} {m : Nat} (h : z.natAbs < 256 ^ m) (hm : m ≤ 1099511627775) : small z := by
  unfold small; rw [imag_size]; exact Nat.le_trans (bb_length_le h) hm
theorem infoZ : (Tryz.prog.info? 33).map (fun i => (i.zero, i.size, i.bytes)) = some (some (.agg #[.bool false, .string ⟨#[]⟩]), 2, 24) := by kernel_rfl
theorem ineg_zero : ineg 0 = false := rfl
theorem imag_zero : imag 0 = ⟨#[]⟩ := by simp [imag, bb_zero]
theorem zrow_int (c : Nat) : zrow (.agg #[.bool false, .string ⟨#[]⟩]) c = civ (List.replicate c 0) := by
  induction c with
  | zero => rfl
  | succ c ih =>
    rw [List.replicate_succ, civ_cons, ineg_zero, imag_zero, ← ih]
    simp [zrow, List.replicate_succ, Value.cells]
/-- 'make([]api.Int, n)'. -/
theorem mkI (n : Nat) (h : n ≤ 1000000) (N : Int) (hN : N = (n : Int)) (w : World) : (Instr.makeSlice 28 (.int .i64 N) (.int .i64 N)).run Tryz.prog w = .ok (.slice (some ⟨w.heap.size, 0, none⟩) n n) (w.alloc (.cells (zarr (.agg #[.bool false, .string ⟨#[]⟩]) n) 33)) :=
  mk_slice 28 33 _ 2 24 Tryz.underlying28 infoZ rfl .i64 .i64 n n (Nat.le_refl _) (by omega) (by omega) N N hN hN w
theorem blk_mkI (w : World) (n : Nat) : Blk (w.alloc (.cells (zarr (.agg #[.bool false, .string ⟨#[]⟩]) n) 33)) w.heap.size 33 (civ (List.replicate n 0)) := by
  have h := Blk.zero w 33 (.agg #[.bool false, .string ⟨#[]⟩]) n
  rwa [zrow_int] at h
theorem own_ne_blk {W : World} {base : Nat} {e t : TypeId} {size n b : Nat} {v : Value} {xs ys : List Value} (h : W.ownsRow base e size v n xs) (hb : Blk W b t ys) (hne : t ≠ e) : v.ownBlock ≠ some b := by
  rcases h.2 with ⟨rfl, _⟩ | ⟨g, cap, cur, rfl, _, hg, _⟩
  · simp [Value.ownBlock]
  · intro e'
    obtain rfl : g = b := by simpa [Value.ownBlock] using e'
    unfold Blk at hb
    rw [hb] at hg
    injection hg with hg
    injection hg with h1 h2
    exact hne h2

/-- A block of integers, as a slice. -/
theorem blk_row {w : World} {b : Nat} {l : List Int} (h : Blk w b 33 (civ l)) (hl : l.length ≤ 1000000) : Row w (.slice (some ⟨b, 0, none⟩) l.length l.length) l.length (civ l) := by
  have h2 := Row.ofBlk h (m := l.length) (cap := l.length) (Nat.le_refl _) (by unfold maxLen; omega) (civ l).length
  rwa [List.take_length] at h2
/-- Tables: a slice of rows. -/
def Tab (w : World) (v : Value) (rows : List (List Int)) : Prop :=
  ∃ rvs : List Value, rvs.length = rows.length ∧ Row w v rows.length rvs ∧ ∀ (i : Nat) (r : List Int), rows[i]? = some r → ∃ rv : Value, rvs[i]? = some rv ∧ Row w rv r.length (civ r)
theorem Tab.below {w w' : World} {v : Value} {rows : List (List Int)} {B : Nat} (h : Tab w v rows) (k : Below B w w') (hB : w.heap.size ≤ B) : Tab w' v rows := by
  obtain ⟨rvs, h1, h2, h3⟩ := h
  exact ⟨rvs, h1, h2.below k hB, fun i r hr => by obtain ⟨rv, h4, h5⟩ := h3 i r hr; exact ⟨rv, h4, h5.below k hB⟩⟩
theorem Tab.drew {w : World} {v : Value} {rows : List (List Int)} (h : Tab w v rows) : Tab w.drew v rows := h
/-! ### The numbers are not too long -/
theorem cw_small {es : List E3} (hl : es.length ≤ 65536) (p : Int → Bool) (k : Nat) (hk : k ≤ 100000) (s : Int) : small (cw es p k s) := by
  have h1 := cw_nonneg es p k s
  have h2 := cw_le_len es p k s
  have h3 : es.length ^ k ≤ (256 ^ 2) ^ k := Nat.pow_le_pow_left (by omega) k
  rw [← Nat.pow_mul] at h3
  refine small_of (m := 2 * k + 1) ?_ (by omega)
  have h4 : 256 ^ (2 * k) < 256 ^ (2 * k + 1) := Nat.pow_lt_pow_right (by decide) (by omega)
  omega
theorem rowP_small {es : List E3} (hl : es.length ≤ 65536) (S : Nat) (p : Int → Bool) (k j : Nat) (hk : k ≤ 10000) {f : Nat} {x : Int} (h : (rowP es S p k j)[f]? = some x) : small x := by
  have hf : f < S := by have := (List.getElem?_eq_some_iff.1 h).1; rwa [rowP_length] at this
  rw [rowP_get hf] at h
  obtain rfl := Option.some.inj h
  have h0 : ∀ y ∈ ((es.take j).filter fun e => e.f == (f : Int)).map fun e => cw es p k e.t, 0 ≤ y ∧ y ≤ ((es.length ^ k : Nat) : Int) := by
    intro y hy
    obtain ⟨e, _, rfl⟩ := List.mem_map.1 hy
    exact ⟨cw_nonneg _ _ _ _, cw_le_len _ _ _ _⟩
  have h1 := sum_nonneg fun y hy => (h0 y hy).1
  have h2 := sum_le fun y hy => (h0 y hy).2
  rw [List.length_map] at h2
  have h3 : ((es.take j).filter fun e => e.f == (f : Int)).length ≤ es.length := Nat.le_trans (List.length_filter_le _ _) (by rw [List.length_take]; omega)
  have h4 : ((((es.take j).filter fun e => e.f == (f : Int)).length : Nat) : Int) * ((es.length ^ k : Nat) : Int) ≤ ((es.length ^ (k + 1) : Nat) : Int) := by
    rw [Nat.pow_succ, Nat.mul_comm (es.length ^ k), Int.natCast_mul]
    exact Int.mul_le_mul_of_nonneg_right (by omega) (by omega)
  have h5 : es.length ^ (k + 1) ≤ (256 ^ 2) ^ (k + 1) := Nat.pow_le_pow_left (by omega) (k + 1)
  rw [← Nat.pow_mul] at h5
  refine small_of (m := 2 * (k + 1) + 1) ?_ (by omega)
  have h6 : 256 ^ (2 * (k + 1)) < 256 ^ (2 * (k + 1) + 1) := Nat.pow_lt_pow_right (by decide) (by omega)
  omega
end Go.Proofs.YtalipfnbpnkgnaaGreat

/-
  DERIVED: THE SHELF's CONTRACTS AT THIS DUMP, IN PLAIN WORDS (tools/lay-plain.mjs out of 'TryzShelf.lean', which tools/lay-shelf.mjs wrote): THE SAME DECLARATIONS UNDER THE SAME NAMES: 'import', 'namespace', 'open', 'def', 'theorem' AND NOTHING ELSE: no command of the shelf's: FOR A HAND-IN. Each laying: the table of numbers ('.._ren') and one theorem, a field a fact of the dump's own or the kernel's comparison; each contract: ONE APPLICATION.
-/
namespace Go.Proofs
open Go.Shelf
def Tryz.lays128_ren : Go.Shelf.Ren := ⟨fun | 128 => 125 | n => n, fun | 51 => 103 | 3 => 3 | 4 => 4 | 46 => 104 | 5 => 5 | 9 => 9 | n => n, fun | n => n⟩
theorem Tryz.lays128 : Go.Proofs.Lays.n128 Tryz.prog Tryz.lays128_ren := {
  mixed := by kernel_rfl
  f128 := Tryz.func125.trans (congrArg some (by kernel_rfl))
  t3 := Tryz.underlying3
  a3 := Tryz.isAgg3
  z3 := Tryz.sizeOf3
  v3 := Tryz.zeroValue3
  t4 := Tryz.underlying4
  a4 := Tryz.isAgg4
  z4 := Tryz.sizeOf4
  v4 := Tryz.zeroValue4
  t5 := Tryz.underlying5
  a5 := Tryz.isAgg5
  z5 := Tryz.sizeOf5
  v5 := Tryz.zeroValue5
  t9 := Tryz.underlying9
  a9 := Tryz.isAgg9
  z9 := Tryz.sizeOf9
  v9 := Tryz.zeroValue9
  t46 := Tryz.underlying104
  a46 := Tryz.isAgg104
  z46 := Tryz.sizeOf104
  v46 := Tryz.zeroValue104
  t51 := Tryz.underlying103
  a51 := Tryz.isAgg103
  z51 := Tryz.sizeOf103
  v51 := Tryz.zeroValue103 }
/-- bits.Len32: "Len32 returns the minimum number of bits required to represent x; the result is 0 for x == 0.": IT RETURNS 'Lib.bitLen x'; the world is as it was. ('h0', 'h1': x is a uint32.) (LAID: no walk: one application.) -/
theorem Tryz.bits_Len32 (x : Int) (w : World) (h0 : 0 ≤ x) (h1 : x ≤ 4294967295) :
    Calls Tryz.prog 125 #[.int .u32 x] w fun e w' => e = .returned (.int .i64 (Lib.bitLen x.toNat)) ∧ w' = w := Any.bits_Len32 Tryz.lays128 x w h0 h1
def Tryz.lays125_ren : Go.Shelf.Ren := ⟨fun | 125 => 123 | 128 => 125 | 129 => 145 | n => n, fun | 46 => 104 | 3 => 3 | 51 => 103 | 53 => 101 | 4 => 4 | 5 => 5 | 9 => 9 | n => n, fun | n => n⟩
theorem Tryz.lays125 : Go.Proofs.Lays.n125 Tryz.prog Tryz.lays125_ren := {
  mixed := by kernel_rfl
  f125 := Tryz.func123.trans (congrArg some (by kernel_rfl))
  f128 := Tryz.func125.trans (congrArg some (by kernel_rfl))
  f129 := Tryz.func145.trans (congrArg some (by kernel_rfl))
  t3 := Tryz.underlying3
  a3 := Tryz.isAgg3
  z3 := Tryz.sizeOf3
  v3 := Tryz.zeroValue3
  t4 := Tryz.underlying4
  a4 := Tryz.isAgg4
  z4 := Tryz.sizeOf4
  v4 := Tryz.zeroValue4
  t5 := Tryz.underlying5
  a5 := Tryz.isAgg5
  z5 := Tryz.sizeOf5
  v5 := Tryz.zeroValue5
  t9 := Tryz.underlying9
  a9 := Tryz.isAgg9
  z9 := Tryz.sizeOf9
  v9 := Tryz.zeroValue9
  t46 := Tryz.underlying104
  a46 := Tryz.isAgg104
  z46 := Tryz.sizeOf104
  v46 := Tryz.zeroValue104
  t51 := Tryz.underlying103
  a51 := Tryz.isAgg103
  z51 := Tryz.sizeOf103
  v51 := Tryz.zeroValue103
  t53 := Tryz.underlying101
  a53 := Tryz.isAgg101
  z53 := Tryz.sizeOf101
  v53 := Tryz.zeroValue101 }
/-- bits.Len: "Len returns the minimum number of bits required to represent x; the result is 0 for x == 0.": IT RETURNS 'Lib.bitLen x'; the world is as it was. (A uint has 64 bits in the model.) ITS CALLEE bits.Len64 IS MET BY ITS OWN CONTRACT OFF THE SHELF (lay that first). (LAID: no walk: one application.) -/
theorem Tryz.bits_Len (x : Int) (w : World) (h0 : 0 ≤ x) (h1 : x ≤ 18446744073709551615) :
    Calls Tryz.prog 123 #[.int .u64 x] w fun e w' => e = .returned (.int .i64 (Lib.bitLen x.toNat)) ∧ w' = w := Any.bits_Len Tryz.lays125 x w h0 h1
def Tryz.lays137_ren : Go.Shelf.Ren := ⟨fun | 137 => 101 | 217 => 126 | 266 => 146 | n => n, fun | 9 => 9 | 5 => 5 | 3 => 3 | n => n, fun | n => n⟩
theorem Tryz.lays137 : Go.Proofs.Lays.n137 Tryz.prog Tryz.lays137_ren := {
  mixed := by kernel_rfl
  f137 := Tryz.func101.trans (congrArg some (by kernel_rfl))
  f217 := Tryz.func126.trans (congrArg some (by kernel_rfl))
  f266 := Tryz.func146.trans (congrArg some (by kernel_rfl))
  t3 := Tryz.underlying3
  a3 := Tryz.isAgg3
  z3 := Tryz.sizeOf3
  v3 := Tryz.zeroValue3
  t5 := Tryz.underlying5
  a5 := Tryz.isAgg5
  z5 := Tryz.sizeOf5
  v5 := Tryz.zeroValue5
  t9 := Tryz.underlying9
  a9 := Tryz.isAgg9
  z9 := Tryz.sizeOf9
  v9 := Tryz.zeroValue9 }
open Go.RowKit in
/-- strings.IndexByte: "IndexByte returns the index of the first instance of c in s, or -1 if c is not present in s.": IT RETURNS 'Lib.indexByte s c'; the world is as it was. (LAID: no walk: one application.) -/
theorem Tryz.strings_IndexByte (s : ByteArray) (c : Int) (w : World) :
    Calls Tryz.prog 101 #[.string s, .int .u8 c] w fun e w' => e = .returned (.int .i64 (Lib.indexByte s.data.toList c.toNat.toUInt8)) ∧ w' = w := Any.strings_IndexByte Tryz.lays137 s c w
def Tryz.lays129_ren : Go.Shelf.Ren := ⟨fun | 129 => 145 | n => n, fun | 53 => 101 | 3 => 3 | 4 => 4 | 46 => 104 | 5 => 5 | 9 => 9 | n => n, fun | n => n⟩
theorem Tryz.lays129 : Go.Proofs.Lays.n129 Tryz.prog Tryz.lays129_ren := {
  mixed := by kernel_rfl
  f129 := Tryz.func145.trans (congrArg some (by kernel_rfl))
  t3 := Tryz.underlying3
  a3 := Tryz.isAgg3
  z3 := Tryz.sizeOf3
  v3 := Tryz.zeroValue3
  t4 := Tryz.underlying4
  a4 := Tryz.isAgg4
  z4 := Tryz.sizeOf4
  v4 := Tryz.zeroValue4
  t5 := Tryz.underlying5
  a5 := Tryz.isAgg5
  z5 := Tryz.sizeOf5
  v5 := Tryz.zeroValue5
  t9 := Tryz.underlying9
  a9 := Tryz.isAgg9
  z9 := Tryz.sizeOf9
  v9 := Tryz.zeroValue9
  t46 := Tryz.underlying104
  a46 := Tryz.isAgg104
  z46 := Tryz.sizeOf104
  v46 := Tryz.zeroValue104
  t53 := Tryz.underlying101
  a53 := Tryz.isAgg101
  z53 := Tryz.sizeOf101
  v53 := Tryz.zeroValue101 }
/-- bits.Len64: "Len64 returns the minimum number of bits required to represent x; the result is 0 for x == 0.": IT RETURNS 'Lib.bitLen x'; the world is as it was. ('h0', 'h1': x is a uint64.) (LAID: no walk: one application.) -/
theorem Tryz.bits_Len64 (x : Int) (w : World) (h0 : 0 ≤ x) (h1 : x ≤ 18446744073709551615) :
    Calls Tryz.prog 145 #[.int .u64 x] w fun e w' => e = .returned (.int .i64 (Lib.bitLen x.toNat)) ∧ w' = w := Any.bits_Len64 Tryz.lays129 x w h0 h1
def Tryz.lays217_ren : Go.Shelf.Ren := ⟨fun | 217 => 126 | 266 => 146 | n => n, fun | 9 => 9 | 5 => 5 | 3 => 3 | n => n, fun | n => n⟩
theorem Tryz.lays217 : Go.Proofs.Lays.n217 Tryz.prog Tryz.lays217_ren := {
  mixed := by kernel_rfl
  f217 := Tryz.func126.trans (congrArg some (by kernel_rfl))
  f266 := Tryz.func146.trans (congrArg some (by kernel_rfl))
  t3 := Tryz.underlying3
  a3 := Tryz.isAgg3
  z3 := Tryz.sizeOf3
  v3 := Tryz.zeroValue3
  t5 := Tryz.underlying5
  a5 := Tryz.isAgg5
  z5 := Tryz.sizeOf5
  v5 := Tryz.zeroValue5
  t9 := Tryz.underlying9
  a9 := Tryz.isAgg9
  z9 := Tryz.sizeOf9
  v9 := Tryz.zeroValue9 }
open Go.RowKit Go.Lib in
/-- internal/stringslite.IndexByte (what strings.IndexByte calls): IT RETURNS 'Lib.indexByte s c'; the world is as it was. (LAID: no walk: one application.) -/
theorem Tryz.stringslite_IndexByte (s : ByteArray) (c : Int) (w : World) :
    Calls Tryz.prog 126 #[.string s, .int .u8 c] w fun e w' => e = .returned (.int .i64 (Lib.indexByte s.data.toList c.toNat.toUInt8)) ∧ w' = w := Any.stringslite_IndexByte Tryz.lays217 s c w
def Tryz.laysNm220_ren : Go.Shelf.Ren := ⟨fun | 20 => 135 | n => n, fun | 22 => 25 | 3 => 3 | 4 => 4 | 0 => 0 | n => n, fun | n => n⟩
theorem Tryz.laysNm220 : Go.Proofs.Lays2.n20 Tryz.prog Tryz.laysNm220_ren := {
  mixed := by kernel_rfl
  f20 := Tryz.func135.trans (congrArg some (by kernel_rfl))
  t0 := Tryz.underlying0
  a0 := Tryz.isAgg0
  z0 := Tryz.sizeOf0
  v0 := Tryz.zeroValue0
  t3 := Tryz.underlying3
  a3 := Tryz.isAgg3
  z3 := Tryz.sizeOf3
  v3 := Tryz.zeroValue3
  t4 := Tryz.underlying4
  a4 := Tryz.isAgg4
  z4 := Tryz.sizeOf4
  v4 := Tryz.zeroValue4
  t22 := Tryz.underlying25
  a22 := Tryz.isAgg25
  z22 := Tryz.sizeOf25
  v22 := Tryz.zeroValue25
  i3 := by kernel_rfl }
open Go.RowKit Go.Lib Go.Sort in
/-- slices.Compact at []int, over an array: the library's two loops are walked. (LAID: no walk: one application.) -/
theorem Tryz.slices_Compact_int_arr (blk off cap : Nat) (d : Array Int) (w : World) (hH : Holds encI w blk off d) (hsz : d.size ≤ 9223372036854775807) (hcap : d.size ≤ cap) :
    Calls Tryz.prog 135 #[.slice (some ⟨blk, off, none⟩) d.size cap] w fun e w' => e = .returned (.slice (some ⟨blk, off, none⟩) (compactUpTo d d.size).length cap) ∧ ∃ q, w' = putRow encI (Sort.ahead w q) blk off (compactUpTo d d.size ++ List.replicate (d.size - (compactUpTo d d.size).length) 0).toArray := Any.slices_Compact_int_arr Tryz.laysNm220 blk off cap d w hH hsz hcap
open Go.RowKit Go.Lib Go.Sort in
/-- slices.Compact at []int: "Compact replaces consecutive runs of equal elements with a single copy. This is like the uniq command found on Unix. Compact modifies the contents of the slice s and returns the modified slice, which may have a smaller length. Compact zeroes the elements between the new length and the original length. The result preserves the nilness of s.": IT RETURNS THE SLICE CUT TO 'Lib.compact zs'; ITS CELLS HOLD 'Lib.compact zs', THEN ZERO VALUES up to the old length; all else is as it was, but for the count of draws. IN THE WORDS OF slices.Sort's CONTRACT ('Holds', 'putRow'): so the everyday 'slices.Sort(xs); xs = slices.Compact(xs)' goes from the one contract to the other. It asks 'zs.length ≤ cap' (every slice's: the reslicing 's[:k]' looks at it). Length 0, nil: '.._empty'. (LAID: no walk: one application.) -/
theorem Tryz.slices_Compact_int (blk off cap : Nat) (zs : List Int) (w : World) (hH : Holds (Value.int .i64) w blk off zs.toArray) (hsz : zs.length ≤ 9223372036854775807) (hcap : zs.length ≤ cap) :
    Calls Tryz.prog 135 #[.slice (some ⟨blk, off, none⟩) zs.length cap] w fun e w' => e = .returned (.slice (some ⟨blk, off, none⟩) (Lib.compact zs).length cap) ∧ ∃ q, w' = putRow (Value.int .i64) (Sort.ahead w q) blk off (Lib.compact zs ++ List.replicate (zs.length - (Lib.compact zs).length) 0).toArray := Any.slices_Compact_int Tryz.laysNm220 blk off cap zs w hH hsz hcap
open Go.RowKit Go.Lib Go.Sort in
/-- The same at a slice of length 0, a nil one too: it comes back as it is. (LAID: no walk: one application.) -/
theorem Tryz.slices_Compact_int_empty (a : Option Addr) (cap : Nat) (w : World) :
    Calls Tryz.prog 135 #[.slice a 0 cap] w fun e w' => e = .returned (.slice a 0 cap) ∧ w' = w := Any.slices_Compact_int_empty Tryz.laysNm220 a cap w
def Tryz.laysNm237_ren : Go.Shelf.Ren := ⟨fun | 37 => 127 | n => n, fun | 3 => 3 | 4 => 4 | n => n, fun | n => n⟩
theorem Tryz.laysNm237 : Go.Proofs.Lays2.n37 Tryz.prog Tryz.laysNm237_ren := {
  mixed := by kernel_rfl
  f37 := Tryz.func127.trans (congrArg some (by kernel_rfl))
  t3 := Tryz.underlying3
  a3 := Tryz.isAgg3
  z3 := Tryz.sizeOf3
  v3 := Tryz.zeroValue3
  t4 := Tryz.underlying4
  a4 := Tryz.isAgg4
  z4 := Tryz.sizeOf4
  v4 := Tryz.zeroValue4 }
open Go.RowKit Go.Lib in
/-- cmp.isNaN[int]: 'x != x': false. (LAID: no walk: one application.) -/
theorem Tryz.cmp_isNaN_int2 (x : Int) (w : World) :
    Calls Tryz.prog 127 #[.int .i64 x] w fun e w' => e = .returned (.bool false) ∧ w' = w := Any.cmp_isNaN_int2 Tryz.laysNm237 x w
def Tryz.laysNm232_ren : Go.Shelf.Ren := ⟨fun | 32 => 107 | n => n, fun | 3 => 3 | 4 => 4 | n => n, fun | n => n⟩
theorem Tryz.laysNm232 : Go.Proofs.Lays2.n32 Tryz.prog Tryz.laysNm232_ren := {
  mixed := by kernel_rfl
  f32 := Tryz.func107.trans (congrArg some (by kernel_rfl))
  t3 := Tryz.underlying3
  a3 := Tryz.isAgg3
  z3 := Tryz.sizeOf3
  v3 := Tryz.zeroValue3
  t4 := Tryz.underlying4
  a4 := Tryz.isAgg4
  z4 := Tryz.sizeOf4
  v4 := Tryz.zeroValue4 }
open Go.RowKit Go.Lib in
/-- slices.isNaN[int]: 'x != x': false. (LAID: no walk: one application.) -/
theorem Tryz.slices_isNaN_int2 (x : Int) (w : World) :
    Calls Tryz.prog 107 #[.int .i64 x] w fun e w' => e = .returned (.bool false) ∧ w' = w := Any.slices_isNaN_int2 Tryz.laysNm232 x w
def Tryz.laysNm231_ren : Go.Shelf.Ren := ⟨fun | 31 => 106 | 37 => 127 | n => n, fun | 3 => 3 | 4 => 4 | n => n, fun | n => n⟩
theorem Tryz.laysNm231 : Go.Proofs.Lays2.n31 Tryz.prog Tryz.laysNm231_ren := {
  mixed := by kernel_rfl
  f31 := Tryz.func106.trans (congrArg some (by kernel_rfl))
  f37 := Tryz.func127.trans (congrArg some (by kernel_rfl))
  t3 := Tryz.underlying3
  a3 := Tryz.isAgg3
  z3 := Tryz.sizeOf3
  v3 := Tryz.zeroValue3
  t4 := Tryz.underlying4
  a4 := Tryz.isAgg4
  z4 := Tryz.sizeOf4
  v4 := Tryz.zeroValue4 }
open Go.RowKit Go.Lib in
/-- cmp.Less[int]: "Less reports whether x is less than y.": 'x < y'; the world is as it was. (LAID: no walk: one application.) -/
theorem Tryz.cmp_Less_int2 (x y : Int) (w : World) :
    Calls Tryz.prog 106 #[.int .i64 x, .int .i64 y] w fun e w' => e = .returned (.bool (decide (x < y))) ∧ w' = w := Any.cmp_Less_int2 Tryz.laysNm231 x y w
def Tryz.laysNm225_ren : Go.Shelf.Ren := ⟨fun | 25 => 72 | 31 => 106 | 32 => 107 | 37 => 127 | n => n, fun | 22 => 25 | 3 => 3 | 4 => 4 | 40 => 104 | 0 => 0 | n => n, fun | n => n⟩
theorem Tryz.laysNm225 : Go.Proofs.Lays2.n25 Tryz.prog Tryz.laysNm225_ren := {
  mixed := by kernel_rfl
  f25 := Tryz.func72.trans (congrArg some (by kernel_rfl))
  f31 := Tryz.func106.trans (congrArg some (by kernel_rfl))
  f32 := Tryz.func107.trans (congrArg some (by kernel_rfl))
  f37 := Tryz.func127.trans (congrArg some (by kernel_rfl))
  t0 := Tryz.underlying0
  a0 := Tryz.isAgg0
  z0 := Tryz.sizeOf0
  v0 := Tryz.zeroValue0
  t3 := Tryz.underlying3
  a3 := Tryz.isAgg3
  z3 := Tryz.sizeOf3
  v3 := Tryz.zeroValue3
  t4 := Tryz.underlying4
  a4 := Tryz.isAgg4
  z4 := Tryz.sizeOf4
  v4 := Tryz.zeroValue4
  t22 := Tryz.underlying25
  a22 := Tryz.isAgg25
  z22 := Tryz.sizeOf25
  v22 := Tryz.zeroValue25
  t40 := Tryz.underlying104
  a40 := Tryz.isAgg104
  z40 := Tryz.sizeOf104
  v40 := Tryz.zeroValue104 }
open Go.RowKit Go.Lib in
/-- slices.BinarySearch at []int: "BinarySearch searches for target in a sorted slice and returns the earliest position where target is found, or the position where target would appear in the sort order; it also returns a bool saying whether the target is really found in the slice. The slice must be sorted in increasing order.": OF A SORTED SLICE IT RETURNS how many elements are less than the target, and whether the target is among the elements; the world is as it was but for the count of draws. 'zs': what the cells behind the slice's address hold; 'zs.take n': its elements. (Of a slice that is not sorted: no contract here.) (LAID: no walk: one application.) -/
theorem Tryz.slices_BinarySearch_int (b off n c : Nat) (zs : List Int) (x : Int) (w : World) (hz : n ≤ zs.length) (hbig : n < 4611686018427387904) (hc : ∀ j, j < zs.length → w.cell? ⟨b, off + j, none⟩ = some (.int .i64 (zs.getD j 0))) (hs : (zs.take n).Pairwise (· ≤ ·)) :
    Calls Tryz.prog 72 #[.slice (some ⟨b, off, none⟩) n c, .int .i64 x] w fun e w' => e = .returned (.tuple #[.int .i64 ((zs.take n).countP (· < x) : Nat), .bool ((zs.take n).contains x)]) ∧ ∃ q, w' = w.drewN q := Any.slices_BinarySearch_int Tryz.laysNm225 b off n c zs x w hz hbig hc hs
open Go.RowKit Go.Lib Go.Sort in
/-- slices.Compact at []int, of an argument: the slice cut to 'Lib.compact (elements)'; the n cells hold that, then zeros. (LAID: no walk: one application.) -/
theorem Tryz.slices_Compact_int_cells (b off n c : Nat) (zs : List Int) (w : World) (hz : n ≤ zs.length) (hbig : n ≤ 9223372036854775807) (hcap : n ≤ c) (hc : ∀ j, j < zs.length → w.cell? ⟨b, off + j, none⟩ = some (.int .i64 (zs.getD j 0))) (hf : ∀ j, j < n → w.frozen? ⟨b, off + j, none⟩ = false) :
    Calls Tryz.prog 135 #[.slice (some ⟨b, off, none⟩) n c] w fun e w' => e = .returned (.slice (some ⟨b, off, none⟩) (Lib.compact (zs.take n)).length c) ∧ ∃ q, w' = (w.drewN q).setCells b off ((Lib.compact (zs.take n) ++ List.replicate (n - (Lib.compact (zs.take n)).length) 0).map (Value.int .i64)) := Any.slices_Compact_int_cells Tryz.laysNm220 b off n c zs w hz hbig hcap hc hf
end Go.Proofs

/- enumerative.in: whether a state belongs to a set. -/
namespace Go.Proofs.YtalipfnbpnkgnaaGreat
open Go.RowKit

/-- What slices.BinarySearch tells of a set. -/
def BsRet (w : World) (b : Bool) (e : Ending) (w' : World) : Prop := Below w.heap.size w w' ∧ ∃ i : Int, e = .returned (.tuple #[.int .i64 i, .bool b])
set_option maxRecDepth 100000 in
set_option maxHeartbeats 800000 in
theorem bs_any (set : List Int) (v : Value) (x : Int) (w : World) (hr : Row w v set.length (ci set)) (hs : set.Pairwise (· < ·)) (hl : set.length ≤ 1000000) :
    Calls Tryz.prog 72 #[v, .int .i64 x] w (BsRet w (pin set x)) := by
  rcases hr with ⟨rfl, h1, h2⟩ | ⟨b, off, cap, rfl, h1, h2, h3, h4⟩
  · obtain rfl : set = [] := List.length_eq_zero_iff.1 h1
    have hp : pin [] x = false := by simp [pin]
    rw [hp]
    go_enter Tryz.func72, Tryz.ntmps72
    go_wp2_with fail
    go_loop [7, 8] (fun i j => i = .int .i64 0 ∧ j = .int .i64 0) (fun _ _ => 0)
    case atStart => exact ⟨rfl, rfl⟩
    case round =>
      obtain ⟨rfl, rfl⟩ := hrel
      go_wp2_with fail
      go_ret2
      exact ⟨Below.refl _ _, _, rfl⟩
  · have hc := Tryz.slices_BinarySearch_int b off set.length cap set x w (Nat.le_refl _) (by omega) (fun j hj => h4 j _ (by rw [ci_get (x := set.getD j 0)]; simp [List.getD, hj])) (by rw [List.take_length]; exact hs.imp (by omega))
    refine hc.mono ?_
    rintro e w' ⟨rfl, q, rfl⟩
    refine ⟨below_drewN (Below.refl w.heap.size w) q, (((set.take set.length).countP (· < x) : Nat) : Int), ?_⟩
    have : (set.take set.length).contains x = pin set x := by rw [List.take_length]; unfold pin; rw [List.contains_eq_mem]
    rw [this]
theorem isin_any (set : List Int) (v : Value) (p : Nat) (x : Int) (w : World) (hc : w.cell? ⟨p, 0, none⟩ = some v) (hr : Row w v set.length (ci set)) (hs : set.Pairwise (· < ·)) (hl : set.length ≤ 1000000) :
    Calls Tryz.prog 71 #[.int .i64 x, .pointer (some ⟨p, 0, none⟩)] w (Ret w (.bool (pin set x))) := by
  obtain ⟨a, cap, rfl, -⟩ := hr.slice
  have hbs := bs_any set _ x w hr hs hl
  have HBS := Lib.hid hbs; clear hbs
  clear hr hs
  go_enter Tryz.func71, Tryz.ntmps71
  go_wp2_with fail
  go_at_call 72
  refine HBS.out.mono ?_
  rintro e w1 ⟨hq, i, rfl⟩
  have HQ := Lib.hid hq; clear hq
  go_wp2_with fail
  go_ret
  exact ⟨HQ.out, rfl⟩
end Go.Proofs.YtalipfnbpnkgnaaGreat

/- The contract of word.Check: the error of a word over the alphabet of q letters; it changes nothing. -/
namespace Go.Proofs.YtalipfnbpnkgnaaGreat
open Go.RowKit

/-- All letters. -/
def letters : List UInt8 := [48, 49, 50, 51, 52, 53, 54, 55, 56, 57, 97, 98, 99, 100, 101, 102]
abbrev lettersS : ByteArray := ⟨#[48, 49, 50, 51, 52, 53, 54, 55, 56, 57, 97, 98, 99, 100, 101, 102]⟩
/-- Whether c is one of the first q letters. -/
def isLetter (q : Nat) (c : UInt8) : Bool := (letters.take q).contains c
/-- The error of a word. -/
def wchk (q : Int) (l : List UInt8) : Int :=
  if q < 1 ∨ 16 < q then 12 else if 65536 < l.length then 4 else if l.all (isLetter q.toNat) then 0 else 13
theorem idx_neg {l : List UInt8} {c : UInt8} (h : l.contains c = false) : Lib.indexByte l c = -1 := by
  have h1 := Lib.indexByte_ge l c
  rcases Int.lt_or_le (Lib.indexByte l c) 0 with h2 | h2
  · omega
  · obtain ⟨o, ho⟩ := Int.eq_ofNat_of_zero_le h2
    have h3 := (Lib.indexByte_some ho).1
    have h4 : c ∈ l := List.mem_of_getElem? h3
    rw [← List.contains_iff_mem, h] at h4
    cases h4
theorem idx_pos {l : List UInt8} {c : UInt8} (h : l.contains c = true) : 0 ≤ Lib.indexByte l c := by
  have h1 := Lib.indexByte_ge l c
  rcases Int.lt_or_le (Lib.indexByte l c) 0 with h2 | h2
  · have h3 := Lib.indexByte_none (show Lib.indexByte l c = -1 by omega)
    rw [List.contains_iff_mem] at h
    obtain ⟨k, hk⟩ := List.getElem?_of_mem h
    exact absurd hk (h3 k)
  · exact h2

/-- Whether there is an alphabet of q letters. -/
def knownB (q : Int) : Bool := decide (1 ≤ q ∧ q ≤ 16)
set_option maxRecDepth 100000 in
set_option maxHeartbeats 1600000 in
theorem known_any (q : Int) (w : World) : Calls Tryz.prog 100 #[.int .i64 q] w fun e w' => e = .returned (.bool (knownB q)) ∧ w = w' := by
  by_cases h1 : 1 ≤ q
  · by_cases h2 : q ≤ 16
    · have hd : knownB q = true := by simp [knownB, h1, h2]
      have HD := Lib.hid hd; clear hd
      go_enter Tryz.func100, Tryz.ntmps100
      go_wp2
      go_ret
      exact ⟨by rw [HD.out]; rfl, rfl⟩
    · have hd : knownB q = false := by simp [knownB]; omega
      have HD := Lib.hid hd; clear hd
      go_enter Tryz.func100, Tryz.ntmps100
      go_wp2
      go_ret
      exact ⟨by rw [HD.out]; rfl, rfl⟩
  · have hd : knownB q = false := by simp [knownB]; omega
    have HD := Lib.hid hd; clear hd
    go_enter Tryz.func100, Tryz.ntmps100
    go_wp2
    go_ret
    exact ⟨by rw [HD.out]; rfl, rfl⟩

theorem take_extract (q : Nat) : (lettersS.extract 0 q).data.toList = letters.take q := by
  rw [Lib.extract_data]; rfl

set_option maxRecDepth 100000 in
set_option maxHeartbeats 1600000 in
/-- word.Check. -/
theorem wcheck_any (q : Int) (s : ByteArray) (w : World) (hs : s.size ≤ 9223372036854775807) :
    Calls Tryz.prog 68 #[.int .i64 q, .string s] w (Ret w (.int .i64 (wchk q s.data.toList))) := by
  by_cases h1 : 1 ≤ q ∧ q ≤ 16
  · have hd : knownB q = true := by simp [knownB, h1]
    by_cases h2 : 65536 < s.size
    · have hc : wchk q s.data.toList = 4 := by rw [wchk, if_neg (by omega), if_pos (by rw [bytes_size]; exact h2)]
      have HC := Lib.hid hc; clear hc
      go_enter Tryz.func68, Tryz.ntmps68
      go_wp2_with (go_at_call 100; refine (known_any _ _).mono ?_; rintro e w' ⟨rfl, rfl⟩; rw [hd])
      go_ret
      exact ⟨Below.refl _ _, by rw [HC.out]; rfl⟩
    · obtain ⟨hq1, hq2⟩ := h1
      obtain ⟨n, rfl⟩ : ∃ n : Nat, q = (n : Int) := ⟨q.toNat, by omega⟩
      have hc : wchk (n : Int) s.data.toList = if s.data.toList.all (isLetter n) then 0 else 13 := by
        rw [wchk, if_neg (by omega), if_neg (by rw [bytes_size]; omega)]; rfl
      have HC := Lib.hid hc; clear hc
      have hsl : ∀ wx : World, (Instr.slice 9 (.string lettersS) none (some (.int .i64 (n : Int))) none).run Tryz.prog wx = .ok (.string (lettersS.extract 0 n)) wx := by
        intro wx
        have h := run_slice_string_h (P := Tryz.prog) wx 9 lettersS Tryz.underlying9 .i64 (n : Int) (by omega) (by show (n : Int) ≤ 16; omega)
        rw [h, Int.toNat_natCast]
      go_enter Tryz.func68, Tryz.ntmps68
      go_wp2_with (go_at_call 100; refine (known_any _ _).mono ?_; rintro e w' ⟨rfl, rfl⟩; rw [hd])
      go_loopw [16] (fun i wr => ∃ k : Nat, k ≤ s.size ∧ i = .int .i64 k ∧ Below w.heap.size w wr ∧ s.data.toList.all (isLetter n) = (s.data.toList.drop k).all (isLetter n)) (fun i _ => s.size - (intOf i).toNat)
      case atStart => exact ⟨0, Nat.zero_le _, rfl, Below.refl _ _, rfl⟩
      case round =>
        obtain ⟨k, hk, rfl, hbel, he⟩ := hrel
        have HB := Lib.hid hbel; clear hbel
        by_cases hlt : k < s.size
        · rw [drop_at s k hlt, List.all_cons] at he
          have hc8 : ((s[k].toNat : Int)).toNat.toUInt8 = s[k] := by simp
          by_cases hl : isLetter n s[k] = true
          · have hi := idx_pos hl
            rw [hl, Bool.true_and] at he
            have HE := Lib.hid he; clear he
            have hi2 : (0 : Int) ≤ Lib.indexByte (List.take n [48, 49, 50, 51, 52, 53, 54, 55, 56, 57, 97, 98, 99, 100, 101, 102]) s[k] := hi
            clear hi hl
            go_wp2_with fail
            go_quiet ((go_at_call 101; exact Calls.quiet_of_same (Tryz.strings_IndexByte _ _ _)))
            go_wp2_with fail
            go_roundw
            case rel => exact ⟨k + 1, by omega, by go_num, below_drewN HB.out _, HE.out⟩
            case measure => simp [intOf]; omega
          · have hl2 : isLetter n s[k] = false := by simpa using hl
            have hi := idx_neg hl2
            rw [hl2, Bool.false_and] at he
            have HE := Lib.hid he; clear he
            have hi2 : Lib.indexByte (List.take n [48, 49, 50, 51, 52, 53, 54, 55, 56, 57, 97, 98, 99, 100, 101, 102]) s[k] < 0 := by show Lib.indexByte (letters.take n) s[k] < 0; omega
            clear hi hl hl2
            go_wp2_with fail
            go_quiet ((go_at_call 101; exact Calls.quiet_of_same (Tryz.strings_IndexByte _ _ _)))
            go_wp2_with fail
            go_ret
            exact ⟨below_drewN HB.out _, by rw [HC.out, HE.out]; rfl⟩
        · have e1 : s.data.toList.drop k = [] := List.drop_of_length_le (by rw [bytes_size]; omega)
          rw [e1] at he
          have HE := Lib.hid he; clear he e1
          go_wp2_with fail
          go_ret
          exact ⟨HB.out, by rw [HC.out, HE.out]; rfl⟩
  · have hd : knownB q = false := by rw [knownB, decide_eq_false_iff_not]; exact h1
    have hc : wchk q s.data.toList = 12 := by rw [wchk, if_pos (by omega)]
    have HC := Lib.hid hc; clear hc
    go_enter Tryz.func68, Tryz.ntmps68
    go_wp2_with (go_at_call 100; refine (known_any _ _).mono ?_; rintro e w' ⟨rfl, rfl⟩; rw [hd])
    go_ret
    exact ⟨Below.refl _ _, by rw [HC.out]; rfl⟩
end Go.Proofs.YtalipfnbpnkgnaaGreat


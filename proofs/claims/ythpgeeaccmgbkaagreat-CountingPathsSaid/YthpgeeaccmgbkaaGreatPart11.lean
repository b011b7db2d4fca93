/- Contracts and plain laws of several functions, one after the other: Keep, PlainE, AppRow, ERow, PlainD, EqInt, Mob, EqI. -/
import Derived.Laws.OwnMore
import Derived.Maps.AppendAt
import Derived.Deep.RegionHeld3
import Derived.Deep.AppendLies
import Derived.Laws.StructEq
import Derived.BigQuiet
import Derived.Test.YthpgeeaccmgbkaaGreatPart4
import Derived.Test.YthpgeeaccmgbkaaGreatCheck
import Derived.Test.YthpgeeaccmgbkaaGreatPart3
/- A block is kept by whatever leaves the old blocks alone. -/
namespace Go.Proofs.YthpgeeaccmgbkaaGreat
open Go.RowKit
theorem Blk.keep {w w' : World} {b : Nat} {t : TypeId} {xs : List Value} (h : Blk w b t xs) (k : Below w.heap.size w w') : Blk w' b t xs := h.below k h.lt
/-- Two blocks laid one after the other, in a region that draws. -/
theorem two_new (w : World) (t t' : TypeId) (xs ys : List Value) : Blk ((w.alloc (.cells xs.toArray t (0, 0))).alloc (.cells ys.toArray t' (0, 0))).drew w.heap.size t xs ∧ Blk ((w.alloc (.cells xs.toArray t (0, 0))).alloc (.cells ys.toArray t' (0, 0))).drew (w.heap.size + 1) t' ys ∧ Below w.heap.size w ((w.alloc (.cells xs.toArray t (0, 0))).alloc (.cells ys.toArray t' (0, 0))).drew := by
  refine ⟨((Blk.new w t xs).alloc _).drew, ?_, (((Below.refl w.heap.size w).alloc (Nat.le_refl _) _).alloc (by simp) _).drew⟩
  have h := (Blk.new (w.alloc (.cells xs.toArray t (0, 0))) t' ys).drew
  rwa [World.size_alloc] at h
end Go.Proofs.YthpgeeaccmgbkaaGreat

/- Tables of numbers of words, in plain Lean: rows as the program adds them along the edges, and what they count. -/
namespace Go.Proofs.YthpgeeaccmgbkaaGreat
open Go.RowKit

/-- The number of words of k letters from s to states of p (paths, in general). -/
def cw (es : List E3) (p : Int → Bool) : Nat → Int → Int
  | 0, s => if p s = true then 1 else 0
  | k + 1, s => ((es.filter fun e => e.f == s).map fun e => cw es p k e.t).sum
/-- A row of the table. -/
def rowK (es : List E3) (S : Nat) (p : Int → Bool) (k : Nat) : List Int := (List.range S).map fun (s : Nat) => cw es p k (s : Int)
theorem rowK_length (es : List E3) (S : Nat) (p : Int → Bool) (k : Nat) : (rowK es S p k).length = S := by simp [rowK]
theorem rowK_get {es : List E3} {S : Nat} {p : Int → Bool} {k s : Nat} (h : s < S) : (rowK es S p k)[s]? = some (cw es p k (s : Int)) := by simp [rowK, h]
/-- The states of edges are told. -/
def InS (S : Nat) (es : List E3) : Prop := ∀ e ∈ es, 0 ≤ e.f ∧ e.f < S ∧ 0 ≤ e.t ∧ e.t < S
/-- A row under way: the first edges have been added. -/
def rowP (es : List E3) (S : Nat) (p : Int → Bool) (k : Nat) (j : Nat) : List Int := (List.range S).map fun (s : Nat) => (((es.take j).filter fun e => e.f == (s : Int)).map fun e => cw es p k e.t).sum
theorem rowP_length (es : List E3) (S : Nat) (p : Int → Bool) (k j : Nat) : (rowP es S p k j).length = S := by simp [rowP]
theorem rowP_zero (es : List E3) (S : Nat) (p : Int → Bool) (k : Nat) : rowP es S p k 0 = List.replicate S 0 := by
  apply List.ext_getElem? ; intro i
  by_cases h : i < S
  · simp [rowP, h]
  · rw [List.getElem?_eq_none (by rw [rowP_length]; omega), List.getElem?_eq_none (by simp; omega)]
theorem rowP_full (es : List E3) (S : Nat) (p : Int → Bool) (k : Nat) : rowP es S p k es.length = rowK es S p (k + 1) := by simp [rowP, rowK, cw]
theorem rowP_get {es : List E3} {S : Nat} {p : Int → Bool} {k j s : Nat} (h : s < S) : (rowP es S p k j)[s]? = some ((((es.take j).filter fun e => e.f == (s : Int)).map fun e => cw es p k e.t).sum) := by simp [rowP, h]
theorem sum_snoc (l : List Int) (x : Int) : (l ++ [x]).sum = l.sum + x := by
  induction l with
  | nil => simp
  | cons y l ih => simp [ih]; omega
/-- One edge more. -/
theorem rowP_succ {es : List E3} {S : Nat} {p : Int → Bool} {k j : Nat} {e : E3} {x y : Int} (he : es[j]? = some e) {f t : Nat} (hf : e.f = f) (ht : e.t = t) (hS : f < S) (hT : t < S)
    (hx : (rowP es S p k j)[f]? = some x) (hy : (rowK es S p k)[t]? = some y) : (rowP es S p k j).set f (x + y) = rowP es S p k (j + 1) := by
  have hj := (List.getElem?_eq_some_iff.1 he).1
  have het : es.take (j + 1) = es.take j ++ [e] := by
    rw [List.take_succ_eq_append_getElem hj, (List.getElem?_eq_some_iff.1 he).2]
  rw [rowP_get hS] at hx
  rw [rowK_get hT] at hy
  apply List.ext_getElem?
  intro i
  by_cases hi : i < S
  · rw [rowP_get hi, het, List.filter_append]
    by_cases e1 : i = f
    · subst e1
      rw [List.getElem?_set_self (by rw [rowP_length]; exact hS)]
      have hb : (e.f == (i : Int)) = true := by simp [hf]
      simp only [List.filter_cons, hb, if_true, List.filter_nil, List.map_append, List.map_cons, List.map_nil]
      rw [sum_snoc, ← Option.some.inj hx, ← Option.some.inj hy, ht]
    · rw [List.getElem?_set_ne (fun h => e1 h.symm), rowP_get hi]
      have hb : (e.f == (i : Int)) = false := by simp; omega
      simp [List.filter_cons, hb]
  · rw [List.getElem?_eq_none (by rw [List.length_set, rowP_length]; omega), List.getElem?_eq_none (by rw [rowP_length]; omega)]
/-- The first row under way. -/
def row0 (S : Nat) (p : Int → Bool) (j : Nat) : List Int := (List.range S).map fun (s : Nat) => if s < j ∧ p (s : Int) = true then 1 else 0
theorem row0_length (S : Nat) (p : Int → Bool) (j : Nat) : (row0 S p j).length = S := by simp [row0]
theorem row0_zero (S : Nat) (p : Int → Bool) : row0 S p 0 = List.replicate S 0 := by
  apply List.ext_getElem?; intro i
  by_cases h : i < S
  · simp [row0, h]
  · rw [List.getElem?_eq_none (by rw [row0_length]; omega), List.getElem?_eq_none (by simp; omega)]
theorem row0_full (es : List E3) (S : Nat) (p : Int → Bool) : row0 S p S = rowK es S p 0 := by
  unfold row0 rowK
  apply List.map_congr_left
  intro s hs
  have := List.mem_range.1 hs
  simp [cw, this]
theorem row0_yes {S : Nat} {p : Int → Bool} {j : Nat} (h : j < S) (hp : p (j : Int) = true) : (row0 S p j).set j 1 = row0 S p (j + 1) := by
  apply List.ext_getElem?; intro i
  by_cases hi : i < S
  · by_cases e : i = j
    · subst e; rw [List.getElem?_set_self (by rw [row0_length]; exact h)]; simp [row0, h, hp]
    · rw [List.getElem?_set_ne (fun h => e h.symm)]
      simp only [row0, List.getElem?_map, List.getElem?_range hi, Option.map_some]
      by_cases h1 : i < j
      · simp [h1, show i < j + 1 by omega]
      · simp [h1, show ¬ i < j + 1 by omega]
  · rw [List.getElem?_eq_none (by rw [List.length_set, row0_length]; omega), List.getElem?_eq_none (by rw [row0_length]; omega)]
theorem row0_no {S : Nat} {p : Int → Bool} {j : Nat} (hp : p (j : Int) = false) : row0 S p j = row0 S p (j + 1) := by
  unfold row0
  apply List.map_congr_left
  intro s _
  by_cases e : s = j
  · subst e; simp [hp]
  · by_cases h1 : s < j
    · simp [h1, show s < j + 1 by omega]
    · simp [h1, show ¬ s < j + 1 by omega]

/-! ### What the numbers are -/
theorem sum_nonneg : ∀ {l : List Int}, (∀ x ∈ l, 0 ≤ x) → 0 ≤ l.sum
  | [], _ => by simp
  | x :: l, h => by
    have h1 := h x (by simp)
    have h2 := sum_nonneg (l := l) fun y hy => h y (by simp [hy])
    simp; omega
theorem sum_le : ∀ {l : List Int} {M : Int}, (∀ x ∈ l, x ≤ M) → l.sum ≤ l.length * M
  | [], _, _ => by simp
  | x :: l, M, h => by
    have h1 := h x (by simp)
    have h2 := sum_le (l := l) (M := M) fun y hy => h y (by simp [hy])
    simp only [List.sum_cons, List.length_cons]
    have h3 : ((l.length + 1 : Nat) : Int) * M = l.length * M + M := by rw [Int.natCast_add, Int.add_mul]; simp
    rw [h3]; omega
theorem cw_nonneg (es : List E3) (p : Int → Bool) : ∀ (k : Nat) (s : Int), 0 ≤ cw es p k s
  | 0, s => by rw [cw]; split <;> omega
  | k + 1, s => by
    rw [cw]
    refine sum_nonneg fun x hx => ?_
    obtain ⟨e, _, rfl⟩ := List.mem_map.1 hx
    exact cw_nonneg es p k e.t
theorem cw_le (es : List E3) (p : Int → Bool) (D : Nat) (hD : ∀ s : Int, (es.filter fun e => e.f == s).length ≤ D) : ∀ (k : Nat) (s : Int), cw es p k s ≤ ((D ^ k : Nat) : Int)
  | 0, s => by rw [cw]; split <;> simp
  | k + 1, s => by
    rw [cw]
    have h := sum_le (l := (es.filter fun e => e.f == s).map fun e => cw es p k e.t) (M := ((D ^ k : Nat) : Int)) fun x hx => by
      obtain ⟨e, _, rfl⟩ := List.mem_map.1 hx
      exact cw_le es p D hD k e.t
    rw [List.length_map] at h
    refine Int.le_trans h ?_
    rw [Nat.pow_succ, Nat.mul_comm, Int.natCast_mul]
    exact Int.mul_le_mul_of_nonneg_right (by have := hD s; omega) (by omega)
theorem cw_le_len (es : List E3) (p : Int → Bool) (k : Nat) (s : Int) : cw es p k s ≤ ((es.length ^ k : Nat) : Int) := cw_le es p es.length (fun s => List.length_filter_le _ _) k s
theorem cw_mono {es : List E3} {p q : Int → Bool} (h : ∀ s, p s = true → q s = true) : ∀ (k : Nat) (s : Int), cw es p k s ≤ cw es q k s
  | 0, s => by
    rw [cw, cw]
    by_cases hp : p s = true
    · rw [if_pos hp, if_pos (h s hp)]; omega
    · rw [if_neg hp]; split <;> omega
  | k + 1, s => by
    rw [cw, cw]
    have : ∀ l : List E3, (l.map fun e => cw es p k e.t).sum ≤ (l.map fun e => cw es q k e.t).sum := by
      intro l
      induction l with
      | nil => simp
      | cons e l ih => have := cw_mono (es := es) h k e.t; simp only [List.map_cons, List.sum_cons]; omega
    exact this _
theorem cw_congr {es : List E3} {p q : Int → Bool} (h : ∀ s, p s = q s) (k : Nat) (s : Int) : cw es p k s = cw es q k s := by
  have : p = q := funext h
  rw [this]

/-! ### The greatest principal set -/
def pin (set : List Int) (s : Int) : Bool := decide (s ∈ set)
def keepS (es : List E3) (n : Nat) (m : Int) (set : List Int) : List Int := set.filter fun s => decide (m ≤ cw es (pin set) n s)
def prin (es : List E3) (n : Nat) (m : Int) (set : List Int) : List Int :=
  if h : (keepS es n m set).length = set.length then set else prin es n m (keepS es n m set)
termination_by set.length
decreasing_by
  have := List.length_filter_le (fun s => decide (m ≤ cw es (pin set) n s)) set
  unfold keepS at h ⊢
  omega
theorem prin_stop {es : List E3} {n : Nat} {m : Int} {set : List Int} (h : (keepS es n m set).length = set.length) : prin es n m set = set := by rw [prin, dif_pos h]
theorem prin_go {es : List E3} {n : Nat} {m : Int} {set : List Int} (h : ¬ (keepS es n m set).length = set.length) : prin es n m set = prin es n m (keepS es n m set) := by rw [prin, dif_neg h]
theorem keepS_sub (es : List E3) (n : Nat) (m : Int) (set : List Int) : (keepS es n m set).Sublist set := List.filter_sublist
theorem keepS_lt {es : List E3} {n : Nat} {m : Int} {set : List Int} (h : ¬ (keepS es n m set).length = set.length) : (keepS es n m set).length < set.length := by
  have := (keepS_sub es n m set).length_le; omega
theorem prin_sub (es : List E3) (n : Nat) (m : Int) (set : List Int) : (prin es n m set).Sublist set := by
  by_cases h : (keepS es n m set).length = set.length
  · rw [prin_stop h]; exact List.Sublist.refl _
  · rw [prin_go h]
    have := keepS_lt h
    exact (prin_sub es n m (keepS es n m set)).trans (keepS_sub es n m set)
termination_by set.length
/-- A set is principal. -/
def Prcp (es : List E3) (n : Nat) (m : Int) (Y : List Int) : Prop := ∀ s ∈ Y, m ≤ cw es (pin Y) n s
theorem prin_prcp (es : List E3) (n : Nat) (m : Int) (set : List Int) : Prcp es n m (prin es n m set) := by
  by_cases h : (keepS es n m set).length = set.length
  · rw [prin_stop h]
    intro s hs
    have := List.filter_eq_self.1 ((keepS_sub es n m set).eq_of_length h) s hs
    simpa using this
  · rw [prin_go h]
    have := keepS_lt h
    exact prin_prcp es n m (keepS es n m set)
termination_by set.length
theorem prin_great {es : List E3} {n : Nat} {m : Int} {Y : List Int} (hY : Prcp es n m Y) (set : List Int) (h : ∀ s ∈ Y, s ∈ set) : ∀ s ∈ Y, s ∈ prin es n m set := by
  by_cases hl : (keepS es n m set).length = set.length
  · rw [prin_stop hl]; exact h
  · rw [prin_go hl]
    have := keepS_lt hl
    refine prin_great hY (keepS es n m set) fun s hs => ?_
    refine List.mem_filter.2 ⟨h s hs, ?_⟩
    have h1 := hY s hs
    have h2 : cw es (pin Y) n s ≤ cw es (pin set) n s := cw_mono (fun t ht => by
      unfold pin at ht ⊢
      exact decide_eq_true (h t (of_decide_eq_true ht))) n s
    simp; omega
termination_by set.length
theorem prin_anti {es : List E3} {n : Nat} {m m' : Int} (h : m ≤ m') (set : List Int) : ∀ s ∈ prin es n m' set, s ∈ prin es n m set :=
  prin_great (fun s hs => Int.le_trans h (prin_prcp es n m' set s hs)) set fun _ hs => (prin_sub es n m' set).subset hs
theorem prin_empty {es : List E3} {n : Nat} {m : Int} {set : List Int} (h : ∀ p s, cw es p n s < m) : prin es n m set = [] := by
  apply List.eq_nil_iff_forall_not_mem.2
  intro s hs
  have h1 := prin_prcp es n m set s hs
  have h2 := h (pin (prin es n m set)) s
  omega
end Go.Proofs.YthpgeeaccmgbkaaGreat

/- append of a whole row (nil or not, empty or not) to a slice of the call's own: at a step of a region that draws its order. -/
namespace Go.Proofs.YthpgeeaccmgbkaaGreat
open Go.RowKit

theorem run_append_row {P : Program} (w : World) (base : Nat) (t ty e : TypeId) (z : Value) (size bytes : Nat) (ht : P.underlying t = some (.slice e)) (hinfo : (P.info? e).map (fun i => (i.zero, i.size, i.bytes)) = some (some z, size, bytes))
    (hzs : z.cells.size = size) (hsz : 0 < size) (v : Value) (n : Nat) (xs : List Value) (hown : w.ownsRow base e size v n xs)
    (sv : Value) (m : Nat) (news : List Value) (hrow : Row w sv m news) (hl : news.length = m * size) (h1 : ∀ u ∈ news, u.oneCell' = true)
    (h63 : n + m ≤ maxLen) (hbytes : (n + m) * bytes ≤ 140737488355328) (hbase : base ≤ w.heap.size) :
    ∃ v' w', (Builtin.append_ #[t, t] ty #[v, sv]).run P w = .ok v' w' ∧ w'.ownsRow base e size v' (n + m) (xs ++ news) ∧ w.grownBy w' v.ownBlock := by
  obtain ⟨i, hi, hz0, hz1, hz2⟩ := info_parts hinfo
  rcases hrow with ⟨rfl, rfl, rfl⟩ | ⟨b, off, cap, rfl, h2, h3, h4, h5⟩
  · refine ⟨v, w, run_append_owned_none (P := P) (w := w) base t ty e i size ht hi v n xs hown, by simpa using hown, ⟨rfl, rfl, rfl, Nat.le_refl _, fun _ _ _ => rfl⟩⟩
  · obtain ⟨v', w', r1, r2, r3, -⟩ := run_append_own_at (P := P) w base t ty e i z size bytes ht hi hz0 hz1 hz2 hzs hsz v n xs hown ⟨b, off, none⟩ m cap news hl (fun j u hu => by
      have := h5 j u hu
      unfold Addr.add
      split
      · rename_i h0; subst h0; exact this
      · exact this) h1 h63 hbytes hbase
    exact ⟨v', w', r1, r2, r3⟩
theorem step_append_row {P : Program} {w : World} {ops : Array Oper} {o : Oper} {a : Act} {K : Act → World → Prop} {Q : Exit → Act → World → Prop} {E : Prop} (hgd : o.guard = none) (s x : Operand) (t : TypeId)
    (ho : o.op = .call { callee := .builtin .append, args := #[s, x], argTypes := #[t, t] })
    (base : Nat) (e : TypeId) (z : Value) (size bytes : Nat) (ht : P.underlying t = some (.slice e)) (hinfo : (P.info? e).map (fun i => (i.zero, i.size, i.bytes)) = some (some z, size, bytes))
    (hzs : z.cells.size = size) (hsz : 0 < size) (v : Value) (n : Nat) (xs : List Value) (hs : a.eval s = v) (hown : w.ownsRow base e size v n xs)
    (sv : Value) (m : Nat) (news : List Value) (hx : a.eval x = sv) (hrow : Row w sv m news) (hl : news.length = m * size) (h1 : ∀ u ∈ news, u.oneCell' = true)
    (h63 : n + m ≤ maxLen) (hbytes : (n + m) * bytes ≤ 140737488355328) (hbase : base ≤ w.heap.size)
    (h : ∀ v' w', w'.ownsRow base e size v' (n + m) (xs ++ news) → w.grownBy w' v.ownBlock → K (a.put o.dst v') w') :
    if Region.wanted o (yielded ops a.tmps) = true then Oper.wp P o a w K Q else E := by
  have hw : Region.wanted o (yielded ops a.tmps) = true := by simp [Region.wanted, hgd]
  rw [if_pos hw]
  obtain ⟨v', w', hr, h2, h3⟩ := run_append_row (P := P) w base t o.type e z size bytes ht hinfo hzs hsz v n xs hown sv m news hrow hl h1 h63 hbytes hbase
  unfold Oper.wp execOp
  simp only [ho, resolve, invoke, builtin, Sem.run_bind, Sem.run_pure, Result.andThen_ok, List.map_toArray, List.map_cons, List.map_nil, hs, hx, hr]
  exact h v' w' h2 h3
theorem Blk.grown {w w' : World} {b : Nat} {t : TypeId} {xs : List Value} {row : Option Nat} (h : Blk w b t xs) (hg : w.grownBy w' row) (hne : row ≠ some b) : Blk w' b t xs := h.of_block (hg.block b h.lt hne.symm)
theorem Row.le {w : World} {a : Option Addr} {m c : Nat} {xs : List Value} (h : Row w (.slice a m c) m xs) : m ≤ c := by
  rcases h with ⟨hv, hn, -⟩ | ⟨b, off, cap, hv, h1, -⟩
  · omega
  · simp only [Value.slice.injEq] at hv; omega
/-- 's[:p]' of a row. -/
theorem sl_to {P : Program} (t e : TypeId) (size : Nat) (ht : P.underlying t = some (.slice e)) (hz : ∀ w, (Go.sizeOf e).run P w = .ok size w) (a : Option Addr) (m c p : Nat) (hp : p ≤ m) (hc : m ≤ c) :
    ∃ a' c', (∀ w, (Instr.slice t (.slice a m c) none (some (.int .i64 (p : Int))) none).run P w = .ok (.slice a' p c') w) ∧
      ∀ W xs, Row W (.slice a m c) m xs → Row W (.slice a' p c') p (xs.take (p * size)) := by
  have ht' : P.underlying t = some (.slice (P.elem t)) := by simp [Program.elem, ht]
  have he : P.elem t = e := by simp [Program.elem, ht]
  refine ⟨if c = 0 then a else a.map (·.add (0 * size)), c, fun w => ?_, ?_⟩
  · rw [run_slice_h w t a m c ht' .i64 (p : Int) (by omega) (by omega), he, hz]
    simp only [Result.andThen, sliced, Int.toNat_natCast, Nat.sub_zero]
  · intro W xs h
    have h2 := h.take (p * size)
    rcases h2 with ⟨hv, hn, hx⟩ | ⟨b, off, cap, hv, h3, h4, h5, h6⟩
    · simp only [Value.slice.injEq] at hv
      obtain ⟨rfl, rfl, rfl⟩ := hv
      obtain rfl : p = 0 := by omega
      exact .inl ⟨by simp, rfl, hx⟩
    · simp only [Value.slice.injEq] at hv
      obtain ⟨rfl, -, rfl⟩ := hv
      refine .inr ⟨b, off, c, by simp [Addr.add], by omega, h4, h5, h6⟩
/-- 's[p:]' of a row. -/
theorem sl_from {P : Program} (t e : TypeId) (size : Nat) (ht : P.underlying t = some (.slice e)) (hz : ∀ w, (Go.sizeOf e).run P w = .ok size w) (hs : 0 < size) (a : Option Addr) (m c p : Nat) (hp : p ≤ m) (hc : m ≤ c) :
    ∃ a' c', (∀ w, (Instr.slice t (.slice a m c) (some (.int .i64 (p : Int))) none none).run P w = .ok (.slice a' (m - p) c') w) ∧
      ∀ W xs, Row W (.slice a m c) m xs → xs.length = m * size → Row W (.slice a' (m - p) c') (m - p) (xs.drop (p * size)) := by
  have ht' : P.underlying t = some (.slice (P.elem t)) := by simp [Program.elem, ht]
  have he : P.elem t = e := by simp [Program.elem, ht]
  refine ⟨if c = p then a else a.map (·.add (p * size)), c - p, fun w => ?_, ?_⟩
  · rw [run_slice_l w t a m c ht' .i64 (p : Int) (by omega) (by omega), he, hz]
    simp only [Result.andThen, sliced, Int.toNat_natCast]
  · intro W xs h hl
    rcases h with ⟨hv, hn, hx⟩ | ⟨b, off, cap, hv, h3, h4, h5, h6⟩
    · simp only [Value.slice.injEq] at hv
      obtain ⟨rfl, rfl, rfl⟩ := hv
      obtain rfl : p = 0 := by omega
      exact .inl ⟨by simp, by omega, by simp [hx]⟩
    · simp only [Value.slice.injEq] at hv
      obtain ⟨rfl, -, rfl⟩ := hv
      by_cases hcp : c = p
      · subst hcp
        obtain rfl : m = c := by omega
        refine .inr ⟨b, off, 0, by simp, by omega, by omega, h5, fun j u hu => ?_⟩
        rw [List.drop_of_length_le (by omega)] at hu
        simp at hu
      · refine .inr ⟨b, off + p * size, c - p, ?_, by omega, by omega, h5, fun j u hu => ?_⟩
        · rw [if_neg hcp]
          simp only [Option.map_some, Addr.add]
          split
          · rename_i h0; rw [h0]; rfl
          · rfl
        · rw [List.getElem?_drop] at hu
          have := h6 _ _ hu
          rwa [← Nat.add_assoc] at this
end Go.Proofs.YthpgeeaccmgbkaaGreat

/- Rows of integers: made, set, held in tables. -/
namespace Go.Proofs.YthpgeeaccmgbkaaGreat
open Go.RowKit

/-- Cells of integers. -/
def civ (l : List Int) : List Value := l.flatMap fun z => [.bool (ineg z), .string (imag z)]
theorem civ_length (l : List Int) : (civ l).length = l.length * 2 := by
  induction l with
  | nil => rfl
  | cons e l ih => simp only [civ, List.flatMap_cons, List.length_append, List.length_cons] at ih ⊢; rw [ih]; simp; omega
theorem civ_append (l k : List Int) : civ (l ++ k) = civ l ++ civ k := by simp [civ]
theorem civ_cons (z : Int) (l : List Int) : civ (z :: l) = .bool (ineg z) :: .string (imag z) :: civ l := by simp [civ]
theorem civ_get {l : List Int} {k : Nat} {z : Int} (h : l[k]? = some z) : (civ l)[k * 2]? = some (.bool (ineg z)) ∧ (civ l)[k * 2 + 1]? = some (.string (imag z)) := by
  induction l generalizing k with
  | nil => simp at h
  | cons x l ih =>
    cases k with
    | zero => simp at h; subst h; exact ⟨rfl, rfl⟩
    | succ k =>
      have := ih (k := k) (by simpa using h)
      rw [civ, List.flatMap_cons]
      have e1 : (k + 1) * 2 = k * 2 + 2 := by omega
      rw [e1]
      exact this
theorem civ_set (l : List Int) (k : Nat) (z : Int) : ((civ l).set (k * 2) (.bool (ineg z))).set (k * 2 + 1) (.string (imag z)) = civ (l.set k z) := by
  induction l generalizing k with
  | nil => rfl
  | cons x l ih =>
    cases k with
    | zero => rfl
    | succ k =>
      rw [List.set_cons_succ, civ_cons, civ_cons, show (k + 1) * 2 = k * 2 + 1 + 1 by omega, List.set_cons_succ, List.set_cons_succ, List.set_cons_succ, List.set_cons_succ, ih]
/-- The cells of an integer of a slice, in a world in which nothing of it has changed. -/
theorem int_cells {w w' : World} {B b off : Nat} {l : List Int} {k : Nat} {z : Int} (hce : ∀ (j : Nat) (u : Value), (civ l)[j]? = some u → w.cell? ⟨b, off + j, none⟩ = some u) (hb : Below B w w') (hlt : b < B) (h : l[k]? = some z) :
    w'.cell? ⟨b, off + k * 2, none⟩ = some (.bool (ineg z)) ∧ w'.cell? ⟨b, off + k * 2 + 1, none⟩ = some (.string (imag z)) :=
  ⟨(hb.cell (p := ⟨b, off + k * 2, none⟩) hlt).trans (hce (k * 2) _ (civ_get h).1), (hb.cell (p := ⟨b, off + k * 2 + 1, none⟩) hlt).trans (hce (k * 2 + 1) _ (civ_get h).2)⟩
/-- An integer is not too long. -/
def small (z : Int) : Prop := (imag z).size ≤ 1099511627775
theorem small_of {z : Int} {m : Nat} (h : z.natAbs < 256 ^ m) (hm : m ≤ 1099511627775) : small z := by
  unfold small; rw [imag_size]; exact Nat.le_trans (bb_length_le h) hm
theorem infoZ : (Tryz.prog.info? 28).map (fun i => (i.zero, i.size, i.bytes)) = some (some (.agg #[.bool false, .string ⟨#[]⟩]), 2, 24) := by kernel_rfl
theorem ineg_zero : ineg 0 = false := rfl
theorem imag_zero : imag 0 = ⟨#[]⟩ := by simp [imag, bb_zero]
theorem zrow_int (c : Nat) : zrow (.agg #[.bool false, .string ⟨#[]⟩]) c = civ (List.replicate c 0) := by
  induction c with
  | zero => rfl
  | succ c ih =>
    rw [List.replicate_succ, civ_cons, ineg_zero, imag_zero, ← ih]
    simp [zrow, List.replicate_succ, Value.cells]
/-- 'make([]api.Int, n)'. -/
theorem mkI (n : Nat) (h : n ≤ 1000000) (N : Int) (hN : N = (n : Int)) (w : World) : (Instr.makeSlice 32 (.int .i64 N) (.int .i64 N)).run Tryz.prog w = .ok (.slice (some ⟨w.heap.size, 0, none⟩) n n) (w.alloc (.cells (zarr (.agg #[.bool false, .string ⟨#[]⟩]) n) 28)) :=
  mk_slice 32 28 _ 2 24 Tryz.underlying32 infoZ rfl .i64 .i64 n n (Nat.le_refl _) (by omega) (by omega) N N hN hN w
theorem blk_mkI (w : World) (n : Nat) : Blk (w.alloc (.cells (zarr (.agg #[.bool false, .string ⟨#[]⟩]) n) 28)) w.heap.size 28 (civ (List.replicate n 0)) := by
  have h := Blk.zero w 28 (.agg #[.bool false, .string ⟨#[]⟩]) n
  rwa [zrow_int] at h
theorem own_ne_blk {W : World} {base : Nat} {e t : TypeId} {size n b : Nat} {v : Value} {xs ys : List Value} (h : W.ownsRow base e size v n xs) (hb : Blk W b t ys) (hne : t ≠ e) : v.ownBlock ≠ some b := by
  rcases h.2 with ⟨rfl, _⟩ | ⟨g, cap, cur, rfl, _, hg, _⟩
  · simp [Value.ownBlock]
  · intro e'
    obtain rfl : g = b := by simpa [Value.ownBlock] using e'
    unfold Blk at hb
    rw [hb] at hg
    injection hg with hg
    injection hg with h1 h2
    exact hne h2

/-- A block of integers, as a slice. -/
theorem blk_row {w : World} {b : Nat} {l : List Int} (h : Blk w b 28 (civ l)) (hl : l.length ≤ 1000000) : Row w (.slice (some ⟨b, 0, none⟩) l.length l.length) l.length (civ l) := by
  have h2 := Row.ofBlk h (m := l.length) (cap := l.length) (Nat.le_refl _) (by unfold maxLen; omega) (civ l).length
  rwa [List.take_length] at h2
/-- Tables: a slice of rows. -/
def Tab (w : World) (v : Value) (rows : List (List Int)) : Prop :=
  ∃ rvs : List Value, rvs.length = rows.length ∧ Row w v rows.length rvs ∧ ∀ (i : Nat) (r : List Int), rows[i]? = some r → ∃ rv : Value, rvs[i]? = some rv ∧ Row w rv r.length (civ r)
theorem Tab.below {w w' : World} {v : Value} {rows : List (List Int)} {B : Nat} (h : Tab w v rows) (k : Below B w w') (hB : w.heap.size ≤ B) : Tab w' v rows := by
  obtain ⟨rvs, h1, h2, h3⟩ := h
  exact ⟨rvs, h1, h2.below k hB, fun i r hr => by obtain ⟨rv, h4, h5⟩ := h3 i r hr; exact ⟨rv, h4, h5.below k hB⟩⟩
theorem Tab.drew {w : World} {v : Value} {rows : List (List Int)} (h : Tab w v rows) : Tab w.drew v rows := h
/-! ### The numbers are not too long -/
theorem cw_small {es : List E3} (hl : es.length ≤ 65536) (p : Int → Bool) (k : Nat) (hk : k ≤ 100000) (s : Int) : small (cw es p k s) := by
  have h1 := cw_nonneg es p k s
  have h2 := cw_le_len es p k s
  have h3 : es.length ^ k ≤ (256 ^ 2) ^ k := Nat.pow_le_pow_left (by omega) k
  rw [← Nat.pow_mul] at h3
  refine small_of (m := 2 * k + 1) ?_ (by omega)
  have h4 : 256 ^ (2 * k) < 256 ^ (2 * k + 1) := Nat.pow_lt_pow_right (by decide) (by omega)
  omega
theorem rowP_small {es : List E3} (hl : es.length ≤ 65536) (S : Nat) (p : Int → Bool) (k j : Nat) (hk : k ≤ 10000) {f : Nat} {x : Int} (h : (rowP es S p k j)[f]? = some x) : small x := by
  have hf : f < S := by have := (List.getElem?_eq_some_iff.1 h).1; rwa [rowP_length] at this
  rw [rowP_get hf] at h
  obtain rfl := Option.some.inj h
  have h0 : ∀ y ∈ ((es.take j).filter fun e => e.f == (f : Int)).map fun e => cw es p k e.t, 0 ≤ y ∧ y ≤ ((es.length ^ k : Nat) : Int) := by
    intro y hy
    obtain ⟨e, _, rfl⟩ := List.mem_map.1 hy
    exact ⟨cw_nonneg _ _ _ _, cw_le_len _ _ _ _⟩
  have h1 := sum_nonneg fun y hy => (h0 y hy).1
  have h2 := sum_le fun y hy => (h0 y hy).2
  rw [List.length_map] at h2
  have h3 : ((es.take j).filter fun e => e.f == (f : Int)).length ≤ es.length := Nat.le_trans (List.length_filter_le _ _) (by rw [List.length_take]; omega)
  have h4 : ((((es.take j).filter fun e => e.f == (f : Int)).length : Nat) : Int) * ((es.length ^ k : Nat) : Int) ≤ ((es.length ^ (k + 1) : Nat) : Int) := by
    rw [Nat.pow_succ, Nat.mul_comm (es.length ^ k), Int.natCast_mul]
    exact Int.mul_le_mul_of_nonneg_right (by omega) (by omega)
  have h5 : es.length ^ (k + 1) ≤ (256 ^ 2) ^ (k + 1) := Nat.pow_le_pow_left (by omega) (k + 1)
  rw [← Nat.pow_mul] at h5
  refine small_of (m := 2 * (k + 1) + 1) ?_ (by omega)
  have h6 : 256 ^ (2 * (k + 1)) < 256 ^ (2 * (k + 1) + 1) := Nat.pow_lt_pow_right (by decide) (by omega)
  omega
end Go.Proofs.YthpgeeaccmgbkaaGreat

/- Sums; the paths to one state; plain. -/
namespace Go.Proofs.YthpgeeaccmgbkaaGreat
open Go.RowKit

theorem sum_zero' {α : Type} (l : List α) : (l.map fun _ => (0 : Int)).sum = 0 := by
  induction l with
  | nil => rfl
  | cons x l ih => simp [ih]
theorem sum_add' {α : Type} (l : List α) (f g : α → Int) : (l.map fun x => f x + g x).sum = (l.map f).sum + (l.map g).sum := by
  induction l with
  | nil => rfl
  | cons x l ih => simp only [List.map_cons, List.sum_cons, ih]; omega
theorem sum_swap {α β : Type} (l : List α) (m : List β) (f : α → β → Int) : (l.map fun x => (m.map fun y => f x y).sum).sum = (m.map fun y => (l.map fun x => f x y).sum).sum := by
  induction l with
  | nil => simp only [List.map_nil, List.sum_nil]; exact (sum_zero' m).symm
  | cons x l ih => simp only [List.map_cons, List.sum_cons, ih]; exact (sum_add' m _ _).symm
theorem sum_filter' {α : Type} (l : List α) (q : α → Bool) (f : α → Int) : ((l.filter q).map f).sum = (l.map fun x => if q x = true then f x else 0).sum := by
  induction l with
  | nil => rfl
  | cons x l ih =>
    cases h : q x with
    | true => simp [List.filter_cons, h, ih]
    | false => simp [List.filter_cons, h, ih]
def ind (t : Int) : Int → Bool := fun x => x == t
theorem cw_ind0 (es : List E3) (s t : Int) : cw es (ind t) 0 s = if s = t then 1 else 0 := by
  unfold ind; rw [cw]; simp
end Go.Proofs.YthpgeeaccmgbkaaGreat

/- Equality of two integers as the program compares them. -/
namespace Go.Proofs.YthpgeeaccmgbkaaGreat
open Go.RowKit

theorem iqType : Tryz.prog.underlying 28 = some (.struct (Tryz.prog.fieldsOf 28)) := by kernel_rfl
theorem iqStood : Tryz.prog.stoodInHeld 28 = false := by kernel_rfl
theorem iqFlds : (Tryz.prog.fieldsOf 28).toList.map (fun f => (f.type, f.offset, f.name == "_")) = [(4, 0, false), (9, 1, false)] := by kernel_rfl
set_option maxRecDepth 100000 in
theorem eqIn_int (a b : Bool) (s t : ByteArray) (w : World) : (Op.equalIn 10000 28 (.agg #[.bool a, .string s]) (.agg #[.bool b, .string t])).run Tryz.prog w = .ok (a == b && s == t) w := by
  have e : ∀ fs, (Tryz.prog.fieldsOf 28).toList = fs → (Op.eqFields 9999 #[.bool a, .string s] #[.bool b, .string t] fs).run Tryz.prog w = .ok (a == b && s == t) w := by
    intro fs hfs
    have hm := iqFlds
    rw [hfs] at hm
    match fs, hm with
    | [f0, f1], hm =>
      simp only [List.map_cons, List.map_nil, List.cons.injEq, Prod.mk.injEq, and_true] at hm
      obtain ⟨⟨t0, o0, n0⟩, ⟨t1, o1, n1⟩⟩ := hm
      rw [beq_eq_false_iff_ne] at n0 n1
      simp [Op.eqFields, n0, n1, t0, o0, t1, o1, Go.part, Tryz.isAgg4, Tryz.isAgg9, run_equalIn_bool', run_equalIn_string, Tryz.underlying4, Tryz.underlying9]
      rw [beq_toListBytes]
      by_cases h1 : a = b <;> by_cases h2 : s.toList = t.toList <;> simp [h1, h2]
  exact (run_equalIn_struct (P := Tryz.prog) w 9999 28 _ _ iqType iqStood).trans (e _ rfl)
theorem eql_int (x y : Int) (w : World) : (binOp .eql 28 (.agg #[.bool (ineg x), .string (imag x)]) (.agg #[.bool (ineg y), .string (imag y)])).run Tryz.prog w = .ok (.bool (ineg x == ineg y && imag x == imag y)) w := by
  rw [run_eql_struct, eqIn_int]; rfl

end Go.Proofs.YthpgeeaccmgbkaaGreat

/- Divisors, with the sign that counting.divisors gives them: plain. -/
namespace Go.Proofs.YthpgeeaccmgbkaaGreat

/-- The loop over the factors. -/
def mobL : Nat → Nat → Nat → Int → Int
  | 0, _, _, s => s
  | f + 1, m, p, s => if m ≤ 1 then s else if m % p ≠ 0 then mobL f m (p + 1) s else if (m / p) % p = 0 then 0 else mobL f (m / p) (p + 1) (-s)
def mu (k : Nat) : Int := mobL (k + 1) k 2 1
theorem mobL_end {f m p : Nat} {s : Int} (h : m ≤ 1) : mobL f m p s = s := by
  cases f with
  | zero => rfl
  | succ f => rw [mobL, if_pos h]
theorem mobL_next {f m p : Nat} {s : Int} (h : ¬ m ≤ 1) (h2 : m % p ≠ 0) : mobL (f + 1) m p s = mobL f m (p + 1) s := by rw [mobL, if_neg h, if_pos h2]
theorem mobL_sq {f m p : Nat} {s : Int} (h : ¬ m ≤ 1) (h2 : m % p = 0) (h3 : (m / p) % p = 0) : mobL (f + 1) m p s = 0 := by rw [mobL, if_neg h, if_neg (by omega), if_pos h3]
theorem mobL_div {f m p : Nat} {s : Int} (h : ¬ m ≤ 1) (h2 : m % p = 0) (h3 : (m / p) % p ≠ 0) : mobL (f + 1) m p s = mobL f (m / p) (p + 1) (-s) := by rw [mobL, if_neg h, if_neg (by omega), if_neg h3]
theorem mobL_le : ∀ (f m p : Nat) (s : Int), -1 ≤ s → s ≤ 1 → -1 ≤ mobL f m p s ∧ mobL f m p s ≤ 1
  | 0, _, _, s, h1, h2 => ⟨h1, h2⟩
  | f + 1, m, p, s, h1, h2 => by
    rw [mobL]
    split
    · exact ⟨h1, h2⟩
    · split
      · exact mobL_le f _ _ _ h1 h2
      · split
        · omega
        · exact mobL_le f _ _ _ (by omega) (by omega)
theorem mu_le (k : Nat) : -1 ≤ mu k ∧ mu k ≤ 1 := mobL_le _ _ _ _ (by omega) (by omega)
/-- No factor below p. -/
def NoFac (m p : Nat) : Prop := ∀ q, 2 ≤ q → q < p → m % q ≠ 0
theorem NoFac.le {m p : Nat} (h : NoFac m p) (hm : ¬ m ≤ 1) : p ≤ m := by
  refine Nat.le_of_not_lt fun hlt => h m (by omega) hlt (Nat.mod_self m)
theorem NoFac.two (m : Nat) : NoFac m 2 := fun q h1 h2 => by omega
theorem NoFac.next {m p : Nat} (h : NoFac m p) (hp : m % p ≠ 0) : NoFac m (p + 1) := fun q h1 h2 => by
  by_cases e : q = p
  · subst e; exact hp
  · exact h q h1 (by omega)
theorem NoFac.div {m p : Nat} (h : NoFac m p) (hd : m % p = 0) (hp : (m / p) % p ≠ 0) : NoFac (m / p) (p + 1) := fun q h1 h2 => by
  by_cases e : q = p
  · subst e; exact hp
  · intro e2
    refine h q h1 (by omega) ?_
    have h3 : q ∣ m / p := Nat.dvd_of_mod_eq_zero e2
    have h4 : m / p ∣ m := Nat.div_dvd_of_dvd (Nat.dvd_of_mod_eq_zero hd)
    exact Nat.mod_eq_zero_of_dvd (Nat.dvd_trans h3 h4)
/-- The divisors up to j, with their signs. -/
def divL (n j : Nat) : List (Nat × Int) := ((List.range j).filter fun i => n % (i + 1) == 0).map fun i => (i + 1, mu (n / (i + 1)))
theorem divL_zero (n : Nat) : divL n 0 = [] := rfl
theorem divL_yes {n j : Nat} (h : n % (j + 1) = 0) : divL n (j + 1) = divL n j ++ [(j + 1, mu (n / (j + 1)))] := by
  simp [divL, List.range_succ, h]
theorem divL_no {n j : Nat} (h : n % (j + 1) ≠ 0) : divL n (j + 1) = divL n j := by
  simp [divL, List.range_succ, h]
theorem divL_len_le (n : Nat) {i j : Nat} (h : i ≤ j) : (divL n i).length ≤ (divL n j).length := by
  induction j with
  | zero => have : i = 0 := by omega
            subst this; exact Nat.le_refl _
  | succ j ih =>
    by_cases e : i = j + 1
    · subst e; exact Nat.le_refl _
    · refine Nat.le_trans (ih (by omega)) ?_
      by_cases hj : n % (j + 1) = 0
      · rw [divL_yes hj]; simp
      · rw [divL_no hj]; exact Nat.le_refl _
theorem divL_pre (n : Nat) {i j : Nat} (h : i ≤ j) : ∃ r, divL n j = divL n i ++ r := by
  induction j with
  | zero => have : i = 0 := by omega
            subst this; exact ⟨[], by simp⟩
  | succ j ih =>
    by_cases e : i = j + 1
    · subst e; exact ⟨[], by simp⟩
    · obtain ⟨r, hr⟩ := ih (by omega)
      by_cases hj : n % (j + 1) = 0
      · rw [divL_yes hj, hr]; exact ⟨r ++ [(j + 1, mu (n / (j + 1)))], by simp⟩
      · rw [divL_no hj]; exact ⟨r, hr⟩
/-- A divisor's place in the list. -/
theorem divL_at {n j k : Nat} (h : n % (j + 1) = 0) (hj : j < k) : (divL n k)[(divL n j).length]? = some (j + 1, mu (n / (j + 1))) := by
  obtain ⟨r, hr⟩ := divL_pre n (i := j + 1) (j := k) (by omega)
  rw [hr, divL_yes h]
  simp
end Go.Proofs.YthpgeeaccmgbkaaGreat

/- slices.Equal at integers: of equal rows. -/
namespace Go.Proofs.YthpgeeaccmgbkaaGreat
open Go.RowKit

theorem eqIn_same (b : Bool) (s : ByteArray) (w : World) : (Op.equalIn 10000 28 (.agg #[.bool b, .string s]) (.agg #[.bool b, .string s])).run Tryz.prog w = .ok true w := by
  rw [eqIn_int]; have h : (s == s) = true := by rw [beq_toListBytes]; simp
  simp [h]
set_option maxRecDepth 100000 in
set_option maxHeartbeats 3200000 in
theorem equalI_yes (l : List Int) (va vb : Value) (w : World) (ha : Row w va l.length (civ l)) (hb : Row w vb l.length (civ l)) :
    Calls Tryz.prog 18 #[va, vb] w (Ret w (.bool true)) := by
  obtain ⟨a1, c1, rfl, hle⟩ := ha.slice
  obtain ⟨a2, c2, rfl, -⟩ := hb.slice
  obtain ⟨n, hn⟩ : ∃ n, n = l.length := ⟨_, rfl⟩
  rw [← hn] at ha hb hle ⊢
  have HA := Lib.hid ha; clear ha
  have HB := Lib.hid hb; clear hb
  have HN := Lib.hid hn; clear hn
  have hne : ((n : Int) != (n : Int)) = false := by simp
  go_enter Tryz.func18, Tryz.ntmps18
  go_wp2_with fail
  go_loopw [5, 13] (fun _ i wr => ∃ k : Nat, k ≤ n ∧ i = .int .i64 k ∧ Below w.heap.size w wr) (fun _ i _ => n - (intOf i).toNat)
  case atStart => exact ⟨0, Nat.zero_le _, rfl, Below.refl _ _⟩
  case round =>
    obtain ⟨k, hk, rfl, hbel⟩ := hrel
    have HBEL := Lib.hid hbel; clear hbel
    by_cases hlt : k < n
    · have hget : l[k]? = some (l[k]'(by rw [← HN.out]; exact hlt)) := List.getElem?_eq_getElem _
      obtain ⟨x, hx⟩ : ∃ x, x = l[k]'(by rw [← HN.out]; exact hlt) := ⟨_, rfl⟩
      rw [← hx] at hget
      obtain ⟨b1, o1, rfl, hb1, hc1⟩ := HA.out.at_ (by omega)
      obtain ⟨b2, o2, rfl, hb2, hc2⟩ := HB.out.at_ (by omega)
      obtain ⟨x0, x1⟩ := int_cells hc1 HBEL.out hb1 hget
      obtain ⟨x2, x3⟩ := int_cells hc2 HBEL.out hb2 hget
      have hxx := fun w' => eqIn_same (ineg x) (imag x) w'
      clear hx hget hc1 hc2
      go_wp2_with fail
      go_quiet (fail)
      go_wp2_with fail
      go_roundw
      case rel => exact ⟨k + 1, by omega, by go_num, below_drewN HBEL.out _⟩
      case measure => simp [intOf]; omega
    · obtain rfl : k = n := by omega
      go_wp2_with fail
      go_ret
      exact ⟨HBEL.out, rfl⟩
end Go.Proofs.YthpgeeaccmgbkaaGreat


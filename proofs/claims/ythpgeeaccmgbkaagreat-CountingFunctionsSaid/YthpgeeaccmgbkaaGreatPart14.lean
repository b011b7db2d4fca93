/- Contracts and plain laws of several functions, one after the other: EqInt, Keep, PlainE, AppRow, ERow, EqI, PlainD, NeckA, Mob, PsA, PsG, RevI. -/
import Derived.Laws.StructEq
import Derived.Laws.OwnMore
import Derived.Maps.AppendAt
import Derived.Deep.RegionHeld3
import Derived.Deep.AppendLies
import Derived.BigQuiet
import Derived.Test.YthpgeeaccmgbkaaGreatPart5
import Derived.Test.YthpgeeaccmgbkaaGreatPart9
import Derived.Test.YthpgeeaccmgbkaaGreatCheck
/- Equality of two integers as the program compares them. -/
namespace Go.Proofs.YthpgeeaccmgbkaaGreat
open Go.RowKit

theorem iqType : Tryz.prog.underlying 28 = some (.struct (Tryz.prog.fieldsOf 28)) := by kernel_rfl
theorem iqStood : Tryz.prog.stoodInHeld 28 = false := by kernel_rfl
theorem iqFlds : (Tryz.prog.fieldsOf 28).toList.map (fun f => (f.type, f.offset, f.name == "_")) = [(4, 0, false), (9, 1, false)] := by kernel_rfl
set_option maxRecDepth 100000 in
theorem eqIn_int (a b : Bool) (s t : ByteArray) (w : World) : (Op.equalIn 10000 28 (.agg #[.bool a, .string s]) (.agg #[.bool b, .string t])).run Tryz.prog w = .ok (a == b && s == t) w := by
  have e : ∀ fs, (Tryz.prog.fieldsOf 28).toList = fs → (Op.eqFields 9999 #[.bool a, .string s] #[.bool b, .string t] fs).run Tryz.prog w = .ok (a == b && s == t) w := by
    intro fs hfs
    have hm := iqFlds
    rw [hfs] at hm
    match fs, hm with
    | [f0, f1], hm =>
      simp only [List.map_cons, List.map_nil, List.cons.injEq, Prod.mk.injEq, and_true] at hm
      obtain ⟨⟨t0, o0, n0⟩, ⟨t1, o1, n1⟩⟩ := hm
      rw [beq_eq_false_iff_ne] at n0 n1
      simp [Op.eqFields, n0, n1, t0, o0, t1, o1, Go.part, Tryz.isAgg4, Tryz.isAgg9, run_equalIn_bool', run_equalIn_string, Tryz.underlying4, Tryz.underlying9]
      rw [beq_toListBytes]
      by_cases h1 : a = b <;> by_cases h2 : s.toList = t.toList <;> simp [h1, h2]
  exact (run_equalIn_struct (P := Tryz.prog) w 9999 28 _ _ iqType iqStood).trans (e _ rfl)
end Go.Proofs.YthpgeeaccmgbkaaGreat

/- A block is kept by whatever leaves the old blocks alone. -/
namespace Go.Proofs.YthpgeeaccmgbkaaGreat
open Go.RowKit
theorem Blk.keep {w w' : World} {b : Nat} {t : TypeId} {xs : List Value} (h : Blk w b t xs) (k : Below w.heap.size w w') : Blk w' b t xs := h.below k h.lt
end Go.Proofs.YthpgeeaccmgbkaaGreat

/- Tables of numbers of words, in plain Lean: rows as the program adds them along the edges, and what they count. -/
namespace Go.Proofs.YthpgeeaccmgbkaaGreat
open Go.RowKit

/-- The number of words of k letters from s to states of p (paths, in general). -/
def cw (es : List E3) (p : Int → Bool) : Nat → Int → Int
  | 0, s => if p s = true then 1 else 0
  | k + 1, s => ((es.filter fun e => e.f == s).map fun e => cw es p k e.t).sum
/-- A row of the table. -/
def rowK (es : List E3) (S : Nat) (p : Int → Bool) (k : Nat) : List Int := (List.range S).map fun (s : Nat) => cw es p k (s : Int)
theorem rowK_get {es : List E3} {S : Nat} {p : Int → Bool} {k s : Nat} (h : s < S) : (rowK es S p k)[s]? = some (cw es p k (s : Int)) := by simp [rowK, h]
/-- The states of edges are told. -/
def InS (S : Nat) (es : List E3) : Prop := ∀ e ∈ es, 0 ≤ e.f ∧ e.f < S ∧ 0 ≤ e.t ∧ e.t < S
/-- A row under way: the first edges have been added. -/
def rowP (es : List E3) (S : Nat) (p : Int → Bool) (k : Nat) (j : Nat) : List Int := (List.range S).map fun (s : Nat) => (((es.take j).filter fun e => e.f == (s : Int)).map fun e => cw es p k e.t).sum
theorem rowP_length (es : List E3) (S : Nat) (p : Int → Bool) (k j : Nat) : (rowP es S p k j).length = S := by simp [rowP]
theorem rowP_zero (es : List E3) (S : Nat) (p : Int → Bool) (k : Nat) : rowP es S p k 0 = List.replicate S 0 := by
  apply List.ext_getElem? ; intro i
  by_cases h : i < S
  · simp [rowP, h]
  · rw [List.getElem?_eq_none (by rw [rowP_length]; omega), List.getElem?_eq_none (by simp; omega)]
theorem rowP_full (es : List E3) (S : Nat) (p : Int → Bool) (k : Nat) : rowP es S p k es.length = rowK es S p (k + 1) := by simp [rowP, rowK, cw]
theorem rowP_get {es : List E3} {S : Nat} {p : Int → Bool} {k j s : Nat} (h : s < S) : (rowP es S p k j)[s]? = some ((((es.take j).filter fun e => e.f == (s : Int)).map fun e => cw es p k e.t).sum) := by simp [rowP, h]
theorem sum_snoc (l : List Int) (x : Int) : (l ++ [x]).sum = l.sum + x := by
  induction l with
  | nil => simp
  | cons y l ih => simp [ih]; omega
/-- One edge more. -/
theorem rowP_succ {es : List E3} {S : Nat} {p : Int → Bool} {k j : Nat} {e : E3} {x y : Int} (he : es[j]? = some e) {f t : Nat} (hf : e.f = f) (ht : e.t = t) (hS : f < S) (hT : t < S)
    (hx : (rowP es S p k j)[f]? = some x) (hy : (rowK es S p k)[t]? = some y) : (rowP es S p k j).set f (x + y) = rowP es S p k (j + 1) := by
  have hj := (List.getElem?_eq_some_iff.1 he).1
  have het : es.take (j + 1) = es.take j ++ [e] := by
    rw [List.take_succ_eq_append_getElem hj, (List.getElem?_eq_some_iff.1 he).2]
  rw [rowP_get hS] at hx
  rw [rowK_get hT] at hy
  apply List.ext_getElem?
  intro i
  by_cases hi : i < S
  · rw [rowP_get hi, het, List.filter_append]
    by_cases e1 : i = f
    · subst e1
      rw [List.getElem?_set_self (by rw [rowP_length]; exact hS)]
      have hb : (e.f == (i : Int)) = true := by simp [hf]
      simp only [List.filter_cons, hb, if_true, List.filter_nil, List.map_append, List.map_cons, List.map_nil]
      rw [sum_snoc, ← Option.some.inj hx, ← Option.some.inj hy, ht]
    · rw [List.getElem?_set_ne (fun h => e1 h.symm), rowP_get hi]
      have hb : (e.f == (i : Int)) = false := by simp; omega
      simp [List.filter_cons, hb]
  · rw [List.getElem?_eq_none (by rw [List.length_set, rowP_length]; omega), List.getElem?_eq_none (by rw [rowP_length]; omega)]
/-- The first row under way. -/
def row0 (S : Nat) (p : Int → Bool) (j : Nat) : List Int := (List.range S).map fun (s : Nat) => if s < j ∧ p (s : Int) = true then 1 else 0
theorem row0_length (S : Nat) (p : Int → Bool) (j : Nat) : (row0 S p j).length = S := by simp [row0]
theorem row0_zero (S : Nat) (p : Int → Bool) : row0 S p 0 = List.replicate S 0 := by
  apply List.ext_getElem?; intro i
  by_cases h : i < S
  · simp [row0, h]
  · rw [List.getElem?_eq_none (by rw [row0_length]; omega), List.getElem?_eq_none (by simp; omega)]
theorem row0_full (es : List E3) (S : Nat) (p : Int → Bool) : row0 S p S = rowK es S p 0 := by
  unfold row0 rowK
  apply List.map_congr_left
  intro s hs
  have := List.mem_range.1 hs
  simp [cw, this]
theorem row0_yes {S : Nat} {p : Int → Bool} {j : Nat} (h : j < S) (hp : p (j : Int) = true) : (row0 S p j).set j 1 = row0 S p (j + 1) := by
  apply List.ext_getElem?; intro i
  by_cases hi : i < S
  · by_cases e : i = j
    · subst e; rw [List.getElem?_set_self (by rw [row0_length]; exact h)]; simp [row0, h, hp]
    · rw [List.getElem?_set_ne (fun h => e h.symm)]
      simp only [row0, List.getElem?_map, List.getElem?_range hi, Option.map_some]
      by_cases h1 : i < j
      · simp [h1, show i < j + 1 by omega]
      · simp [h1, show ¬ i < j + 1 by omega]
  · rw [List.getElem?_eq_none (by rw [List.length_set, row0_length]; omega), List.getElem?_eq_none (by rw [row0_length]; omega)]
theorem row0_no {S : Nat} {p : Int → Bool} {j : Nat} (hp : p (j : Int) = false) : row0 S p j = row0 S p (j + 1) := by
  unfold row0
  apply List.map_congr_left
  intro s _
  by_cases e : s = j
  · subst e; simp [hp]
  · by_cases h1 : s < j
    · simp [h1, show s < j + 1 by omega]
    · simp [h1, show ¬ s < j + 1 by omega]

/-! ### What the numbers are -/
theorem sum_nonneg : ∀ {l : List Int}, (∀ x ∈ l, 0 ≤ x) → 0 ≤ l.sum
  | [], _ => by simp
  | x :: l, h => by
    have h1 := h x (by simp)
    have h2 := sum_nonneg (l := l) fun y hy => h y (by simp [hy])
    simp; omega
theorem sum_le : ∀ {l : List Int} {M : Int}, (∀ x ∈ l, x ≤ M) → l.sum ≤ l.length * M
  | [], _, _ => by simp
  | x :: l, M, h => by
    have h1 := h x (by simp)
    have h2 := sum_le (l := l) (M := M) fun y hy => h y (by simp [hy])
    simp only [List.sum_cons, List.length_cons]
    have h3 : ((l.length + 1 : Nat) : Int) * M = l.length * M + M := by rw [Int.natCast_add, Int.add_mul]; simp
    rw [h3]; omega
theorem cw_nonneg (es : List E3) (p : Int → Bool) : ∀ (k : Nat) (s : Int), 0 ≤ cw es p k s
  | 0, s => by rw [cw]; split <;> omega
  | k + 1, s => by
    rw [cw]
    refine sum_nonneg fun x hx => ?_
    obtain ⟨e, _, rfl⟩ := List.mem_map.1 hx
    exact cw_nonneg es p k e.t
theorem cw_le (es : List E3) (p : Int → Bool) (D : Nat) (hD : ∀ s : Int, (es.filter fun e => e.f == s).length ≤ D) : ∀ (k : Nat) (s : Int), cw es p k s ≤ ((D ^ k : Nat) : Int)
  | 0, s => by rw [cw]; split <;> simp
  | k + 1, s => by
    rw [cw]
    have h := sum_le (l := (es.filter fun e => e.f == s).map fun e => cw es p k e.t) (M := ((D ^ k : Nat) : Int)) fun x hx => by
      obtain ⟨e, _, rfl⟩ := List.mem_map.1 hx
      exact cw_le es p D hD k e.t
    rw [List.length_map] at h
    refine Int.le_trans h ?_
    rw [Nat.pow_succ, Nat.mul_comm, Int.natCast_mul]
    exact Int.mul_le_mul_of_nonneg_right (by have := hD s; omega) (by omega)
theorem cw_le_len (es : List E3) (p : Int → Bool) (k : Nat) (s : Int) : cw es p k s ≤ ((es.length ^ k : Nat) : Int) := cw_le es p es.length (fun s => List.length_filter_le _ _) k s
end Go.Proofs.YthpgeeaccmgbkaaGreat

/- append of a whole row (nil or not, empty or not) to a slice of the call's own: at a step of a region that draws its order. -/
namespace Go.Proofs.YthpgeeaccmgbkaaGreat
open Go.RowKit

theorem run_append_row {P : Program} (w : World) (base : Nat) (t ty e : TypeId) (z : Value) (size bytes : Nat) (ht : P.underlying t = some (.slice e)) (hinfo : (P.info? e).map (fun i => (i.zero, i.size, i.bytes)) = some (some z, size, bytes))
    (hzs : z.cells.size = size) (hsz : 0 < size) (v : Value) (n : Nat) (xs : List Value) (hown : w.ownsRow base e size v n xs)
    (sv : Value) (m : Nat) (news : List Value) (hrow : Row w sv m news) (hl : news.length = m * size) (h1 : ∀ u ∈ news, u.oneCell' = true)
    (h63 : n + m ≤ maxLen) (hbytes : (n + m) * bytes ≤ 140737488355328) (hbase : base ≤ w.heap.size) :
    ∃ v' w', (Builtin.append_ #[t, t] ty #[v, sv]).run P w = .ok v' w' ∧ w'.ownsRow base e size v' (n + m) (xs ++ news) ∧ w.grownBy w' v.ownBlock := by
  obtain ⟨i, hi, hz0, hz1, hz2⟩ := info_parts hinfo
  rcases hrow with ⟨rfl, rfl, rfl⟩ | ⟨b, off, cap, rfl, h2, h3, h4, h5⟩
  · refine ⟨v, w, run_append_owned_none (P := P) (w := w) base t ty e i size ht hi v n xs hown, by simpa using hown, ⟨rfl, rfl, rfl, Nat.le_refl _, fun _ _ _ => rfl⟩⟩
  · obtain ⟨v', w', r1, r2, r3, -⟩ := run_append_own_at (P := P) w base t ty e i z size bytes ht hi hz0 hz1 hz2 hzs hsz v n xs hown ⟨b, off, none⟩ m cap news hl (fun j u hu => by
      have := h5 j u hu
      unfold Addr.add
      split
      · rename_i h0; subst h0; exact this
      · exact this) h1 h63 hbytes hbase
    exact ⟨v', w', r1, r2, r3⟩
theorem step_append_row {P : Program} {w : World} {ops : Array Oper} {o : Oper} {a : Act} {K : Act → World → Prop} {Q : Exit → Act → World → Prop} {E : Prop} (hgd : o.guard = none) (s x : Operand) (t : TypeId)
    (ho : o.op = .call { callee := .builtin .append, args := #[s, x], argTypes := #[t, t] })
    (base : Nat) (e : TypeId) (z : Value) (size bytes : Nat) (ht : P.underlying t = some (.slice e)) (hinfo : (P.info? e).map (fun i => (i.zero, i.size, i.bytes)) = some (some z, size, bytes))
    (hzs : z.cells.size = size) (hsz : 0 < size) (v : Value) (n : Nat) (xs : List Value) (hs : a.eval s = v) (hown : w.ownsRow base e size v n xs)
    (sv : Value) (m : Nat) (news : List Value) (hx : a.eval x = sv) (hrow : Row w sv m news) (hl : news.length = m * size) (h1 : ∀ u ∈ news, u.oneCell' = true)
    (h63 : n + m ≤ maxLen) (hbytes : (n + m) * bytes ≤ 140737488355328) (hbase : base ≤ w.heap.size)
    (h : ∀ v' w', w'.ownsRow base e size v' (n + m) (xs ++ news) → w.grownBy w' v.ownBlock → K (a.put o.dst v') w') :
    if Region.wanted o (yielded ops a.tmps) = true then Oper.wp P o a w K Q else E := by
  have hw : Region.wanted o (yielded ops a.tmps) = true := by simp [Region.wanted, hgd]
  rw [if_pos hw]
  obtain ⟨v', w', hr, h2, h3⟩ := run_append_row (P := P) w base t o.type e z size bytes ht hinfo hzs hsz v n xs hown sv m news hrow hl h1 h63 hbytes hbase
  unfold Oper.wp execOp
  simp only [ho, resolve, invoke, builtin, Sem.run_bind, Sem.run_pure, Result.andThen_ok, List.map_toArray, List.map_cons, List.map_nil, hs, hx, hr]
  exact h v' w' h2 h3
theorem Blk.grown {w w' : World} {b : Nat} {t : TypeId} {xs : List Value} {row : Option Nat} (h : Blk w b t xs) (hg : w.grownBy w' row) (hne : row ≠ some b) : Blk w' b t xs := h.of_block (hg.block b h.lt hne.symm)
theorem Row.le {w : World} {a : Option Addr} {m c : Nat} {xs : List Value} (h : Row w (.slice a m c) m xs) : m ≤ c := by
  rcases h with ⟨hv, hn, -⟩ | ⟨b, off, cap, hv, h1, -⟩
  · omega
  · simp only [Value.slice.injEq] at hv; omega
end Go.Proofs.YthpgeeaccmgbkaaGreat

/- Rows of integers: made, set, held in tables. -/
namespace Go.Proofs.YthpgeeaccmgbkaaGreat
open Go.RowKit

/-- Cells of integers. -/
def civ (l : List Int) : List Value := l.flatMap fun z => [.bool (ineg z), .string (imag z)]
theorem civ_length (l : List Int) : (civ l).length = l.length * 2 := by
  induction l with
  | nil => rfl
  | cons e l ih => simp only [civ, List.flatMap_cons, List.length_append, List.length_cons] at ih ⊢; rw [ih]; simp; omega
theorem civ_append (l k : List Int) : civ (l ++ k) = civ l ++ civ k := by simp [civ]
theorem civ_cons (z : Int) (l : List Int) : civ (z :: l) = .bool (ineg z) :: .string (imag z) :: civ l := by simp [civ]
theorem civ_get {l : List Int} {k : Nat} {z : Int} (h : l[k]? = some z) : (civ l)[k * 2]? = some (.bool (ineg z)) ∧ (civ l)[k * 2 + 1]? = some (.string (imag z)) := by
  induction l generalizing k with
  | nil => simp at h
  | cons x l ih =>
    cases k with
    | zero => simp at h; subst h; exact ⟨rfl, rfl⟩
    | succ k =>
      have := ih (k := k) (by simpa using h)
      rw [civ, List.flatMap_cons]
      have e1 : (k + 1) * 2 = k * 2 + 2 := by omega
      rw [e1]
      exact this
theorem civ_set (l : List Int) (k : Nat) (z : Int) : ((civ l).set (k * 2) (.bool (ineg z))).set (k * 2 + 1) (.string (imag z)) = civ (l.set k z) := by
  induction l generalizing k with
  | nil => rfl
  | cons x l ih =>
    cases k with
    | zero => rfl
    | succ k =>
      rw [List.set_cons_succ, civ_cons, civ_cons, show (k + 1) * 2 = k * 2 + 1 + 1 by omega, List.set_cons_succ, List.set_cons_succ, List.set_cons_succ, List.set_cons_succ, ih]
/-- The cells of an integer of a slice, in a world in which nothing of it has changed. -/
theorem int_cells {w w' : World} {B b off : Nat} {l : List Int} {k : Nat} {z : Int} (hce : ∀ (j : Nat) (u : Value), (civ l)[j]? = some u → w.cell? ⟨b, off + j, none⟩ = some u) (hb : Below B w w') (hlt : b < B) (h : l[k]? = some z) :
    w'.cell? ⟨b, off + k * 2, none⟩ = some (.bool (ineg z)) ∧ w'.cell? ⟨b, off + k * 2 + 1, none⟩ = some (.string (imag z)) :=
  ⟨(hb.cell (p := ⟨b, off + k * 2, none⟩) hlt).trans (hce (k * 2) _ (civ_get h).1), (hb.cell (p := ⟨b, off + k * 2 + 1, none⟩) hlt).trans (hce (k * 2 + 1) _ (civ_get h).2)⟩
/-- An integer is not too long. -/
def small (z : Int) : Prop := (imag z).size ≤ 1099511627775
theorem small_of {z : Int} {m : Nat} (h : z.natAbs < 256 ^ m) (hm : m ≤ 1099511627775) : small z := by
  unfold small; rw [imag_size]; exact Nat.le_trans (bb_length_le h) hm
theorem infoZ : (Tryz.prog.info? 28).map (fun i => (i.zero, i.size, i.bytes)) = some (some (.agg #[.bool false, .string ⟨#[]⟩]), 2, 24) := by kernel_rfl
theorem ineg_zero : ineg 0 = false := rfl
theorem imag_zero : imag 0 = ⟨#[]⟩ := by simp [imag, bb_zero]
theorem zrow_int (c : Nat) : zrow (.agg #[.bool false, .string ⟨#[]⟩]) c = civ (List.replicate c 0) := by
  induction c with
  | zero => rfl
  | succ c ih =>
    rw [List.replicate_succ, civ_cons, ineg_zero, imag_zero, ← ih]
    simp [zrow, List.replicate_succ, Value.cells]
/-- 'make([]api.Int, n)'. -/
theorem mkI (n : Nat) (h : n ≤ 1000000) (N : Int) (hN : N = (n : Int)) (w : World) : (Instr.makeSlice 32 (.int .i64 N) (.int .i64 N)).run Tryz.prog w = .ok (.slice (some ⟨w.heap.size, 0, none⟩) n n) (w.alloc (.cells (zarr (.agg #[.bool false, .string ⟨#[]⟩]) n) 28)) :=
  mk_slice 32 28 _ 2 24 Tryz.underlying32 infoZ rfl .i64 .i64 n n (Nat.le_refl _) (by omega) (by omega) N N hN hN w
theorem blk_mkI (w : World) (n : Nat) : Blk (w.alloc (.cells (zarr (.agg #[.bool false, .string ⟨#[]⟩]) n) 28)) w.heap.size 28 (civ (List.replicate n 0)) := by
  have h := Blk.zero w 28 (.agg #[.bool false, .string ⟨#[]⟩]) n
  rwa [zrow_int] at h
/-- A block of integers, as a slice. -/
theorem blk_row {w : World} {b : Nat} {l : List Int} (h : Blk w b 28 (civ l)) (hl : l.length ≤ 1000000) : Row w (.slice (some ⟨b, 0, none⟩) l.length l.length) l.length (civ l) := by
  have h2 := Row.ofBlk h (m := l.length) (cap := l.length) (Nat.le_refl _) (by unfold maxLen; omega) (civ l).length
  rwa [List.take_length] at h2
/-- Tables: a slice of rows. -/
def Tab (w : World) (v : Value) (rows : List (List Int)) : Prop :=
  ∃ rvs : List Value, rvs.length = rows.length ∧ Row w v rows.length rvs ∧ ∀ (i : Nat) (r : List Int), rows[i]? = some r → ∃ rv : Value, rvs[i]? = some rv ∧ Row w rv r.length (civ r)
theorem Tab.below {w w' : World} {v : Value} {rows : List (List Int)} {B : Nat} (h : Tab w v rows) (k : Below B w w') (hB : w.heap.size ≤ B) : Tab w' v rows := by
  obtain ⟨rvs, h1, h2, h3⟩ := h
  exact ⟨rvs, h1, h2.below k hB, fun i r hr => by obtain ⟨rv, h4, h5⟩ := h3 i r hr; exact ⟨rv, h4, h5.below k hB⟩⟩
theorem Tab.drew {w : World} {v : Value} {rows : List (List Int)} (h : Tab w v rows) : Tab w.drew v rows := h
/-! ### The numbers are not too long -/
theorem cw_small {es : List E3} (hl : es.length ≤ 65536) (p : Int → Bool) (k : Nat) (hk : k ≤ 100000) (s : Int) : small (cw es p k s) := by
  have h1 := cw_nonneg es p k s
  have h2 := cw_le_len es p k s
  have h3 : es.length ^ k ≤ (256 ^ 2) ^ k := Nat.pow_le_pow_left (by omega) k
  rw [← Nat.pow_mul] at h3
  refine small_of (m := 2 * k + 1) ?_ (by omega)
  have h4 : 256 ^ (2 * k) < 256 ^ (2 * k + 1) := Nat.pow_lt_pow_right (by decide) (by omega)
  omega
theorem rowP_small {es : List E3} (hl : es.length ≤ 65536) (S : Nat) (p : Int → Bool) (k j : Nat) (hk : k ≤ 10000) {f : Nat} {x : Int} (h : (rowP es S p k j)[f]? = some x) : small x := by
  have hf : f < S := by have := (List.getElem?_eq_some_iff.1 h).1; rwa [rowP_length] at this
  rw [rowP_get hf] at h
  obtain rfl := Option.some.inj h
  have h0 : ∀ y ∈ ((es.take j).filter fun e => e.f == (f : Int)).map fun e => cw es p k e.t, 0 ≤ y ∧ y ≤ ((es.length ^ k : Nat) : Int) := by
    intro y hy
    obtain ⟨e, _, rfl⟩ := List.mem_map.1 hy
    exact ⟨cw_nonneg _ _ _ _, cw_le_len _ _ _ _⟩
  have h1 := sum_nonneg fun y hy => (h0 y hy).1
  have h2 := sum_le fun y hy => (h0 y hy).2
  rw [List.length_map] at h2
  have h3 : ((es.take j).filter fun e => e.f == (f : Int)).length ≤ es.length := Nat.le_trans (List.length_filter_le _ _) (by rw [List.length_take]; omega)
  have h4 : ((((es.take j).filter fun e => e.f == (f : Int)).length : Nat) : Int) * ((es.length ^ k : Nat) : Int) ≤ ((es.length ^ (k + 1) : Nat) : Int) := by
    rw [Nat.pow_succ, Nat.mul_comm (es.length ^ k), Int.natCast_mul]
    exact Int.mul_le_mul_of_nonneg_right (by omega) (by omega)
  have h5 : es.length ^ (k + 1) ≤ (256 ^ 2) ^ (k + 1) := Nat.pow_le_pow_left (by omega) (k + 1)
  rw [← Nat.pow_mul] at h5
  refine small_of (m := 2 * (k + 1) + 1) ?_ (by omega)
  have h6 : 256 ^ (2 * (k + 1)) < 256 ^ (2 * (k + 1) + 1) := Nat.pow_lt_pow_right (by decide) (by omega)
  omega
end Go.Proofs.YthpgeeaccmgbkaaGreat

/- slices.Equal at integers: of equal rows. -/
namespace Go.Proofs.YthpgeeaccmgbkaaGreat
open Go.RowKit

theorem eqIn_same (b : Bool) (s : ByteArray) (w : World) : (Op.equalIn 10000 28 (.agg #[.bool b, .string s]) (.agg #[.bool b, .string s])).run Tryz.prog w = .ok true w := by
  rw [eqIn_int]; have h : (s == s) = true := by rw [beq_toListBytes]; simp
  simp [h]
set_option maxRecDepth 100000 in
set_option maxHeartbeats 3200000 in
theorem equalI_yes (l : List Int) (va vb : Value) (w : World) (ha : Row w va l.length (civ l)) (hb : Row w vb l.length (civ l)) :
    Calls Tryz.prog 18 #[va, vb] w (Ret w (.bool true)) := by
  obtain ⟨a1, c1, rfl, hle⟩ := ha.slice
  obtain ⟨a2, c2, rfl, -⟩ := hb.slice
  obtain ⟨n, hn⟩ : ∃ n, n = l.length := ⟨_, rfl⟩
  rw [← hn] at ha hb hle ⊢
  have HA := Lib.hid ha; clear ha
  have HB := Lib.hid hb; clear hb
  have HN := Lib.hid hn; clear hn
  have hne : ((n : Int) != (n : Int)) = false := by simp
  go_enter Tryz.func18, Tryz.ntmps18
  go_wp2_with fail
  go_loopw [5, 13] (fun _ i wr => ∃ k : Nat, k ≤ n ∧ i = .int .i64 k ∧ Below w.heap.size w wr) (fun _ i _ => n - (intOf i).toNat)
  case atStart => exact ⟨0, Nat.zero_le _, rfl, Below.refl _ _⟩
  case round =>
    obtain ⟨k, hk, rfl, hbel⟩ := hrel
    have HBEL := Lib.hid hbel; clear hbel
    by_cases hlt : k < n
    · have hget : l[k]? = some (l[k]'(by rw [← HN.out]; exact hlt)) := List.getElem?_eq_getElem _
      obtain ⟨x, hx⟩ : ∃ x, x = l[k]'(by rw [← HN.out]; exact hlt) := ⟨_, rfl⟩
      rw [← hx] at hget
      obtain ⟨b1, o1, rfl, hb1, hc1⟩ := HA.out.at_ (by omega)
      obtain ⟨b2, o2, rfl, hb2, hc2⟩ := HB.out.at_ (by omega)
      obtain ⟨x0, x1⟩ := int_cells hc1 HBEL.out hb1 hget
      obtain ⟨x2, x3⟩ := int_cells hc2 HBEL.out hb2 hget
      have hxx := fun w' => eqIn_same (ineg x) (imag x) w'
      clear hx hget hc1 hc2
      go_wp2_with fail
      go_quiet (fail)
      go_wp2_with fail
      go_roundw
      case rel => exact ⟨k + 1, by omega, by go_num, below_drewN HBEL.out _⟩
      case measure => simp [intOf]; omega
    · obtain rfl : k = n := by omega
      go_wp2_with fail
      go_ret
      exact ⟨HBEL.out, rfl⟩
end Go.Proofs.YthpgeeaccmgbkaaGreat

/- Sums; the paths to one state; plain. -/
namespace Go.Proofs.YthpgeeaccmgbkaaGreat
open Go.RowKit

theorem sum_zero' {α : Type} (l : List α) : (l.map fun _ => (0 : Int)).sum = 0 := by
  induction l with
  | nil => rfl
  | cons x l ih => simp [ih]
theorem sum_add' {α : Type} (l : List α) (f g : α → Int) : (l.map fun x => f x + g x).sum = (l.map f).sum + (l.map g).sum := by
  induction l with
  | nil => rfl
  | cons x l ih => simp only [List.map_cons, List.sum_cons, ih]; omega
theorem sum_swap {α β : Type} (l : List α) (m : List β) (f : α → β → Int) : (l.map fun x => (m.map fun y => f x y).sum).sum = (m.map fun y => (l.map fun x => f x y).sum).sum := by
  induction l with
  | nil => simp only [List.map_nil, List.sum_nil]; exact (sum_zero' m).symm
  | cons x l ih => simp only [List.map_cons, List.sum_cons, ih]; exact (sum_add' m _ _).symm
def ind (t : Int) : Int → Bool := fun x => x == t
theorem cw_ind0 (es : List E3) (s t : Int) : cw es (ind t) 0 s = if s = t then 1 else 0 := by
  unfold ind; rw [cw]; simp
end Go.Proofs.YthpgeeaccmgbkaaGreat

/- A rotation without fixed points: n divides the number of words; plain. -/
namespace Go.Proofs.YthpgeeaccmgbkaaGreat
open Go.RowKit

end Go.Proofs.YthpgeeaccmgbkaaGreat

/- Divisors, with the sign that counting.divisors gives them: plain. -/
namespace Go.Proofs.YthpgeeaccmgbkaaGreat

/-- The loop over the factors. -/
def mobL : Nat → Nat → Nat → Int → Int
  | 0, _, _, s => s
  | f + 1, m, p, s => if m ≤ 1 then s else if m % p ≠ 0 then mobL f m (p + 1) s else if (m / p) % p = 0 then 0 else mobL f (m / p) (p + 1) (-s)
def mu (k : Nat) : Int := mobL (k + 1) k 2 1
theorem mobL_end {f m p : Nat} {s : Int} (h : m ≤ 1) : mobL f m p s = s := by
  cases f with
  | zero => rfl
  | succ f => rw [mobL, if_pos h]
theorem mobL_next {f m p : Nat} {s : Int} (h : ¬ m ≤ 1) (h2 : m % p ≠ 0) : mobL (f + 1) m p s = mobL f m (p + 1) s := by rw [mobL, if_neg h, if_pos h2]
theorem mobL_sq {f m p : Nat} {s : Int} (h : ¬ m ≤ 1) (h2 : m % p = 0) (h3 : (m / p) % p = 0) : mobL (f + 1) m p s = 0 := by rw [mobL, if_neg h, if_neg (by omega), if_pos h3]
theorem mobL_div {f m p : Nat} {s : Int} (h : ¬ m ≤ 1) (h2 : m % p = 0) (h3 : (m / p) % p ≠ 0) : mobL (f + 1) m p s = mobL f (m / p) (p + 1) (-s) := by rw [mobL, if_neg h, if_neg (by omega), if_neg h3]
theorem mobL_le : ∀ (f m p : Nat) (s : Int), -1 ≤ s → s ≤ 1 → -1 ≤ mobL f m p s ∧ mobL f m p s ≤ 1
  | 0, _, _, s, h1, h2 => ⟨h1, h2⟩
  | f + 1, m, p, s, h1, h2 => by
    rw [mobL]
    split
    · exact ⟨h1, h2⟩
    · split
      · exact mobL_le f _ _ _ h1 h2
      · split
        · omega
        · exact mobL_le f _ _ _ (by omega) (by omega)
theorem mu_le (k : Nat) : -1 ≤ mu k ∧ mu k ≤ 1 := mobL_le _ _ _ _ (by omega) (by omega)
/-- No factor below p. -/
def NoFac (m p : Nat) : Prop := ∀ q, 2 ≤ q → q < p → m % q ≠ 0
theorem NoFac.le {m p : Nat} (h : NoFac m p) (hm : ¬ m ≤ 1) : p ≤ m := by
  refine Nat.le_of_not_lt fun hlt => h m (by omega) hlt (Nat.mod_self m)
theorem NoFac.two (m : Nat) : NoFac m 2 := fun q h1 h2 => by omega
theorem NoFac.next {m p : Nat} (h : NoFac m p) (hp : m % p ≠ 0) : NoFac m (p + 1) := fun q h1 h2 => by
  by_cases e : q = p
  · subst e; exact hp
  · exact h q h1 (by omega)
theorem NoFac.div {m p : Nat} (h : NoFac m p) (hd : m % p = 0) (hp : (m / p) % p ≠ 0) : NoFac (m / p) (p + 1) := fun q h1 h2 => by
  by_cases e : q = p
  · subst e; exact hp
  · intro e2
    refine h q h1 (by omega) ?_
    have h3 : q ∣ m / p := Nat.dvd_of_mod_eq_zero e2
    have h4 : m / p ∣ m := Nat.div_dvd_of_dvd (Nat.dvd_of_mod_eq_zero hd)
    exact Nat.mod_eq_zero_of_dvd (Nat.dvd_trans h3 h4)
/-- The divisors up to j, with their signs. -/
def divL (n j : Nat) : List (Nat × Int) := ((List.range j).filter fun i => n % (i + 1) == 0).map fun i => (i + 1, mu (n / (i + 1)))
theorem divL_zero (n : Nat) : divL n 0 = [] := rfl
theorem divL_yes {n j : Nat} (h : n % (j + 1) = 0) : divL n (j + 1) = divL n j ++ [(j + 1, mu (n / (j + 1)))] := by
  simp [divL, List.range_succ, h]
theorem divL_no {n j : Nat} (h : n % (j + 1) ≠ 0) : divL n (j + 1) = divL n j := by
  simp [divL, List.range_succ, h]
theorem divL_pre (n : Nat) {i j : Nat} (h : i ≤ j) : ∃ r, divL n j = divL n i ++ r := by
  induction j with
  | zero => have : i = 0 := by omega
            subst this; exact ⟨[], by simp⟩
  | succ j ih =>
    by_cases e : i = j + 1
    · subst e; exact ⟨[], by simp⟩
    · obtain ⟨r, hr⟩ := ih (by omega)
      by_cases hj : n % (j + 1) = 0
      · rw [divL_yes hj, hr]; exact ⟨r ++ [(j + 1, mu (n / (j + 1)))], by simp⟩
      · rw [divL_no hj]; exact ⟨r, hr⟩
/-- A divisor's place in the list. -/
theorem divL_at {n j k : Nat} (h : n % (j + 1) = 0) (hj : j < k) : (divL n k)[(divL n j).length]? = some (j + 1, mu (n / (j + 1))) := by
  obtain ⟨r, hr⟩ := divL_pre n (i := j + 1) (j := k) (by omega)
  rw [hr, divL_yes h]
  simp
end Go.Proofs.YthpgeeaccmgbkaaGreat

/- Power series with integer coefficients, plain. -/
namespace Go.Proofs.YthpgeeaccmgbkaaGreat

abbrev PS := Nat → Int
def tlS (f : PS) : PS := fun n => f (n + 1)
/-- The product. -/
def pm (f g : PS) : Nat → Int
  | 0 => f 0 * g 0
  | n + 1 => f 0 * g (n + 1) + pm (tlS f) g n
def psz (f : PS) : PS
  | 0 => 0
  | n + 1 => f n
def psC (c : Int) : PS := fun n => if n = 0 then c else 0
def psth (f : PS) : PS := fun n => (n : Int) * f n
theorem pm_congr {f f' g g' : PS} (n : Nat) (hf : ∀ k, k ≤ n → f k = f' k) (hg : ∀ k, k ≤ n → g k = g' k) : pm f g n = pm f' g' n := by
  induction n generalizing f f' with
  | zero => simp only [pm]; rw [hf 0 (Nat.le_refl _), hg 0 (Nat.le_refl _)]
  | succ n ih =>
    simp only [pm]
    rw [hf 0 (Nat.zero_le _), hg (n + 1) (Nat.le_refl _), ih (f := tlS f) (f' := tlS f') (fun k hk => hf (k + 1) (by omega)) (fun k hk => hg k (by omega))]
theorem pm_addl (f f' g : PS) (n : Nat) : pm (fun k => f k + f' k) g n = pm f g n + pm f' g n := by
  induction n generalizing f f' with
  | zero => simp only [pm, Int.add_mul]
  | succ n ih =>
    simp only [pm, Int.add_mul]
    have : tlS (fun k => f k + f' k) = fun k => tlS f k + tlS f' k := rfl
    rw [this, ih]; omega
theorem pm_smull (c : Int) (f g : PS) (n : Nat) : pm (fun k => c * f k) g n = c * pm f g n := by
  induction n generalizing f with
  | zero => simp only [pm, Int.mul_assoc]
  | succ n ih =>
    simp only [pm]
    have : tlS (fun k => c * f k) = fun k => c * tlS f k := rfl
    rw [this, ih, Int.mul_add, Int.mul_assoc]
theorem pm_zerol (g : PS) (n : Nat) : pm (fun _ => 0) g n = 0 := by
  induction n with
  | zero => simp [pm]
  | succ n ih =>
    simp only [pm]
    have : tlS (fun _ => 0) = fun _ => 0 := rfl
    rw [this, ih]; simp
theorem pm_suml {α : Type} (l : List α) (f : α → PS) (g : PS) (n : Nat) : pm (fun k => (l.map fun x => f x k).sum) g n = (l.map fun x => pm (f x) g n).sum := by
  induction l with
  | nil => simp only [List.map_nil, List.sum_nil]; exact pm_zerol g n
  | cons x l ih => simp only [List.map_cons, List.sum_cons]; rw [pm_addl, ih]
theorem pm_constl (c : Int) (g : PS) (n : Nat) : pm (psC c) g n = c * g n := by
  cases n with
  | zero => simp [pm, psC]
  | succ n =>
    simp only [pm]
    have : tlS (psC c) = fun _ => 0 := by funext k; simp [tlS, psC]
    rw [this, pm_zerol]; simp [psC]
theorem pm_zl (f g : PS) : pm (psz f) g = psz (pm f g) := by
  funext n
  cases n with
  | zero => simp [pm, psz]
  | succ n =>
    simp only [pm]
    have : tlS (psz f) = f := rfl
    rw [this]; simp [psz]
theorem pm_right (f g : PS) (n : Nat) : pm f g (n + 1) = pm f (tlS g) n + f (n + 1) * g 0 := by
  induction n generalizing f with
  | zero => simp only [pm]; rfl
  | succ n ih =>
    have e1 : pm f g (n + 1 + 1) = f 0 * g (n + 1 + 1) + pm (tlS f) g (n + 1) := rfl
    have e2 : pm f (tlS g) (n + 1) = f 0 * tlS g (n + 1) + pm (tlS f) (tlS g) n := rfl
    rw [e1, e2, ih]
    have e3 : tlS g (n + 1) = g (n + 1 + 1) := rfl
    have e4 : tlS f (n + 1) = f (n + 1 + 1) := rfl
    rw [e3, e4]; omega
theorem pm_comm (f g : PS) : pm f g = pm g f := by
  funext n
  induction n generalizing f with
  | zero => simp only [pm, Int.mul_comm]
  | succ n ih =>
    have e1 : pm f g (n + 1) = f 0 * g (n + 1) + pm (tlS f) g n := rfl
    rw [pm_right g f, e1, ih, Int.mul_comm]; omega
theorem pm_assoc (f g h : PS) : pm (pm f g) h = pm f (pm g h) := by
  funext n
  induction n generalizing f with
  | zero => simp only [pm, Int.mul_assoc]
  | succ n ih =>
    have e1 : pm (pm f g) h (n + 1) = pm f g 0 * h (n + 1) + pm (tlS (pm f g)) h n := rfl
    have e2 : tlS (pm f g) = fun k => f 0 * tlS g k + pm (tlS f) g k := rfl
    have e3 : pm f (pm g h) (n + 1) = f 0 * pm g h (n + 1) + pm (tlS f) (pm g h) n := rfl
    have e4 : pm g h (n + 1) = g 0 * h (n + 1) + pm (tlS g) h n := rfl
    have e5 : pm f g 0 = f 0 * g 0 := rfl
    rw [e1, e2, pm_addl (fun k => f 0 * tlS g k) (pm (tlS f) g), pm_smull, ih, e3, e4, e5, Int.mul_add, Int.mul_assoc]; omega
theorem pm_addr (f g g' : PS) (n : Nat) : pm f (fun k => g k + g' k) n = pm f g n + pm f g' n := by
  rw [pm_comm, pm_addl, pm_comm g, pm_comm g']
theorem pm_smulr (c : Int) (f g : PS) (n : Nat) : pm f (fun k => c * g k) n = c * pm f g n := by
  rw [pm_comm, pm_smull, pm_comm]
theorem pm_sumr {α : Type} (l : List α) (f : PS) (g : α → PS) (n : Nat) : pm f (fun k => (l.map fun x => g x k).sum) n = (l.map fun x => pm f (g x) n).sum := by
  rw [pm_comm, pm_suml]
  congr 1
  refine List.map_congr_left fun x _ => ?_
  rw [pm_comm]
theorem pm_zr (f g : PS) : pm f (psz g) = psz (pm f g) := by rw [pm_comm, pm_zl, pm_comm]
theorem pm_one (f : PS) : pm f (psC 1) = f := by funext n; rw [pm_comm, pm_constl]; simp
/-- Leibniz' rule. -/
theorem pm_theta (f g : PS) (n : Nat) : (n : Int) * pm f g n = pm (psth f) g n + pm f (psth g) n := by
  induction n generalizing f with
  | zero => simp [pm, psth]
  | succ n ih =>
    have e0 : tlS (psth f) = fun k => tlS f k + psth (tlS f) k := by
      funext k
      show ((k + 1 : Nat) : Int) * f (k + 1) = f (k + 1) + (k : Int) * f (k + 1)
      rw [show ((k + 1 : Nat) : Int) = 1 + (k : Int) by omega, Int.add_mul, Int.one_mul]
    have e1 : pm (psth f) g (n + 1) = psth f 0 * g (n + 1) + pm (tlS (psth f)) g n := rfl
    have e2 : pm f (psth g) (n + 1) = f 0 * psth g (n + 1) + pm (tlS f) (psth g) n := rfl
    have e3 : pm f g (n + 1) = f 0 * g (n + 1) + pm (tlS f) g n := rfl
    have e4 : psth f 0 = 0 := by simp [psth]
    have e5 : psth g (n + 1) = ((n + 1 : Nat) : Int) * g (n + 1) := rfl
    have e6 := ih (tlS f)
    rw [e1, e0, pm_addl, e2, e3, e4, e5, Int.mul_add, show ((n + 1 : Nat) : Int) * pm (tlS f) g n = (n : Int) * pm (tlS f) g n + pm (tlS f) g n by rw [show ((n + 1 : Nat) : Int) = (n : Int) + 1 by omega, Int.add_mul, Int.one_mul], e6, Int.mul_left_comm]
    omega
/-- Coefficients from n on are 0. -/
def degB (n : Nat) (f : PS) : Prop := ∀ k, n ≤ k → f k = 0
theorem degB.mono {m n : Nat} {f : PS} (h : degB m f) (hmn : m ≤ n) : degB n f := fun k hk => h k (by omega)
theorem degB_z {n : Nat} {f : PS} (h : degB n f) : degB (n + 1) (psz f) := fun k hk => by
  cases k with
  | zero => omega
  | succ k => exact h k (by omega)
/-- A series that begins with 1 and has the logarithmic derivative -T is the only one. -/
theorem ps_unique {f g T : PS} (hT : T 0 = 0) (hf0 : f 0 = g 0) (hf : ∀ n : Nat, (n : Int) * f n = - pm T f n) (hg : ∀ n : Nat, (n : Int) * g n = - pm T g n) : f = g := by
  funext n
  induction n using Nat.strongRecOn with
  | _ n ih =>
    cases n with
    | zero => exact hf0
    | succ n =>
      have h1 := hf (n + 1)
      have h2 := hg (n + 1)
      have e : pm T f (n + 1) = pm T g (n + 1) := by
        show T 0 * f (n + 1) + pm (tlS T) f n = T 0 * g (n + 1) + pm (tlS T) g n
        rw [hT, Int.zero_mul, Int.zero_mul, pm_congr n (fun k _ => rfl) (fun k hk => ih k (by omega))]
      rw [e, ← h2] at h1
      exact Int.eq_of_mul_eq_mul_left (by omega) h1
/-- A series that begins with 1 may be cancelled: multiplied by its inverse. -/
theorem ps_sum_const {α : Type} (l : List α) : ∀ (n : Nat) (f g : α → PS) (X : PS), (∀ p q, (l.map fun i => f i p * g i q).sum = X (p + q)) → (l.map fun i => pm (f i) (g i) n).sum = ((n : Int) + 1) * X n
  | 0, f, g, X, h => by
    have := h 0 0
    simp only [pm]
    rw [this]; simp
  | n + 1, f, g, X, h => by
    have h1 := ps_sum_const l n (fun i => tlS (f i)) g (tlS X) (fun p q => by
      have := h (p + 1) q
      rw [show p + 1 + q = p + q + 1 by omega] at this
      exact this)
    have h2 := h 0 (n + 1)
    rw [Nat.zero_add] at h2
    have e : (l.map fun i => pm (f i) (g i) (n + 1)).sum = (l.map fun i => f i 0 * g i (n + 1)).sum + (l.map fun i => pm (tlS (f i)) (g i) n).sum := by
      rw [← sum_add' l (fun i => f i 0 * g i (n + 1)) (fun i => pm (tlS (f i)) (g i) n)]
      rfl
    rw [e, h1, h2]
    show X (n + 1) + ((n : Int) + 1) * X (n + 1) = (((n + 1 : Nat) : Int) + 1) * X (n + 1)
    rw [show ((n + 1 : Nat) : Int) + 1 = 1 + ((n : Int) + 1) by omega, Int.add_mul 1, Int.one_mul]
end Go.Proofs.YthpgeeaccmgbkaaGreat

/- Walks in a part of a graph as power series: first passages, Newton's identities, Cayley and Hamilton; plain. -/
namespace Go.Proofs.YthpgeeaccmgbkaaGreat

/-- Walks of n steps from i to j within V (the first state may be any). -/
def gw (a : Nat → Nat → Int) (V : List Nat) : Nat → Nat → Nat → Int
  | 0, i, j => if i = j then 1 else 0
  | n + 1, i, j => (V.map fun l => a i l * gw a V n l j).sum
def GW (a : Nat → Nat → Int) (V : List Nat) (i j : Nat) : PS := fun n => gw a V n i j
theorem pick_list {V : List Nat} (hV : V.Nodup) {i : Nat} (hi : i ∈ V) (f : Nat → Int) : (V.map fun l => (if i = l then 1 else 0) * f l).sum = f i := by
  induction V with
  | nil => cases hi
  | cons x V ih =>
    rw [List.nodup_cons] at hV
    simp only [List.map_cons, List.sum_cons]
    by_cases e : i = x
    · subst e
      rw [if_pos rfl, Int.one_mul]
      have : (V.map fun l => (if i = l then 1 else 0) * f l).sum = 0 := by
        rw [List.map_congr_left (g := fun _ => (0 : Int)) (fun l hl => by
          have : ¬ i = l := fun h => hV.1 (h ▸ hl)
          rw [if_neg this]; simp)]
        exact sum_zero' V
      rw [this]; simp
    · have hi2 : i ∈ V := (List.mem_cons.1 hi).resolve_left e
      rw [if_neg e, ih hV.2 hi2]; simp
theorem mul_sumL {α : Type} (c : Int) (l : List α) (f : α → Int) : c * (l.map f).sum = (l.map fun x => c * f x).sum := by
  induction l with
  | nil => simp
  | cons x l ih => simp only [List.map_cons, List.sum_cons, Int.mul_add, ih]
theorem sum_mulL {α : Type} (c : Int) (l : List α) (f : α → Int) : (l.map f).sum * c = (l.map fun x => f x * c).sum := by
  induction l with
  | nil => simp
  | cons x l ih => simp only [List.map_cons, List.sum_cons, Int.add_mul, ih]
theorem sum_congr {α : Type} {l : List α} {f g : α → Int} (h : ∀ x ∈ l, f x = g x) : (l.map f).sum = (l.map g).sum := by rw [List.map_congr_left h]
theorem gw_comp {a : Nat → Nat → Int} {V : List Nat} (hV : V.Nodup) (q j : Nat) : ∀ (p i : Nat), i ∈ V → (V.map fun l => gw a V p i l * gw a V q l j).sum = gw a V (p + q) i j
  | 0, i, hi => by
    rw [Nat.zero_add]
    exact pick_list hV hi (fun l => gw a V q l j)
  | p + 1, i, hi => by
    have h1 : ∀ l ∈ V, gw a V (p + 1) i l * gw a V q l j = (V.map fun m => a i m * (gw a V p m l * gw a V q l j)).sum := fun l _ => by
      show (V.map fun m => a i m * gw a V p m l).sum * _ = _
      rw [sum_mulL]
      exact sum_congr fun m _ => Int.mul_assoc _ _ _
    rw [sum_congr h1, sum_swap, Nat.succ_add]
    show _ = (V.map fun m => a i m * gw a V (p + q) m j).sum
    refine sum_congr fun m hm => ?_
    rw [← mul_sumL, gw_comp hV q j p m hm]
theorem gw_out {a : Nat → Nat → Int} {U : List Nat} {v : Nat} (hv : v ∉ U) : ∀ (n i : Nat), i ∈ U → gw a U n i v = 0
  | 0, i, hi => by
    have : ¬ i = v := fun h => hv (h ▸ hi)
    simp [gw, this]
  | n + 1, i, hi => by
    show (U.map fun l => a i l * gw a U n l v).sum = 0
    rw [sum_congr (g := fun _ => 0) (fun l hl => by rw [gw_out hv n l hl]; simp)]
    exact sum_zero' U
/-- First arrivals at v. -/
def Hs (a : Nat → Nat → Int) (U : List Nat) (v i : Nat) : PS := psz fun n => (U.map fun k => gw a U n i k * a k v).sum
theorem Hs_step {a : Nat → Nat → Int} {U : List Nat} (hU : U.Nodup) (v : Nat) {i : Nat} (hi : i ∈ U) : tlS (Hs a U v i) = fun n => psC (a i v) n + (U.map fun l => a i l * Hs a U v l n).sum := by
  funext n
  show (U.map fun k => gw a U n i k * a k v).sum = _
  cases n with
  | zero =>
    have h1 : (U.map fun k => gw a U 0 i k * a k v).sum = a i v := pick_list hU hi (fun k => a k v)
    have h2 : (U.map fun l => a i l * Hs a U v l 0).sum = 0 := by
      rw [sum_congr (g := fun _ => 0) (fun l _ => by show a i l * 0 = 0; simp)]; exact sum_zero' U
    rw [h1, h2]; simp [psC]
  | succ n =>
    have h1 : ∀ k ∈ U, gw a U (n + 1) i k * a k v = (U.map fun l => a i l * (gw a U n l k * a k v)).sum := fun k _ => by
      show (U.map fun l => a i l * gw a U n l k).sum * _ = _
      rw [sum_mulL]
      exact sum_congr fun l _ => Int.mul_assoc _ _ _
    rw [sum_congr h1, sum_swap]
    have h2 : psC (a i v) (n + 1) = 0 := by simp [psC]
    rw [h2, Int.zero_add]
    refine sum_congr fun l _ => ?_
    rw [← mul_sumL]; rfl
/-- First returns to v. -/
def Wt (a : Nat → Nat → Int) (U : List Nat) (v : Nat) : PS := fun n => psC (a v v) n + (U.map fun l => a v l * Hs a U v l n).sum
def Ws (a : Nat → Nat → Int) (U : List Nat) (v : Nat) : PS := psz (Wt a U v)
/-- Walks that leave v for good. -/
def Ks (a : Nat → Nat → Int) (U : List Nat) (v k : Nat) : PS
  | 0 => if v = k then 1 else 0
  | n + 1 => (U.map fun l => a v l * gw a U n l k).sum
theorem pm_step (c : Int) (U : List Nat) (b : Nat → Int) (f : Nat → PS) (g : PS) (n : Nat) : pm (fun k => psC c k + (U.map fun l => b l * f l k).sum) g n = c * g n + (U.map fun l => b l * pm (f l) g n).sum := by
  rw [pm_addl, pm_constl, pm_suml]
  congr 1
  exact sum_congr fun l _ => pm_smull _ _ _ _
theorem gw_cons (a : Nat → Nat → Int) (v : Nat) (U : List Nat) (n i k : Nat) : gw a (v :: U) (n + 1) i k = a i v * gw a (v :: U) n v k + (U.map fun l => a i l * gw a (v :: U) n l k).sum := rfl
theorem gw_first {a : Nat → Nat → Int} {U : List Nat} (hU : U.Nodup) (v k : Nat) : ∀ (n i : Nat), i ∈ U → gw a (v :: U) n i k = gw a U n i k + pm (Hs a U v i) (GW a (v :: U) v k) n
  | 0, i, hi => by
    show gw a (v :: U) 0 i k = gw a U 0 i k + 0 * _
    rw [Int.zero_mul, Int.add_zero]; rfl
  | n + 1, i, hi => by
    have e : pm (Hs a U v i) (GW a (v :: U) v k) (n + 1) = pm (tlS (Hs a U v i)) (GW a (v :: U) v k) n := by
      show (0 : Int) * _ + _ = _
      simp
    rw [e, Hs_step hU v hi, pm_step, gw_cons, sum_congr (fun l hl => by rw [gw_first hU v k n l hl, Int.mul_add]), sum_add']
    show _ = (U.map fun l => a i l * gw a U n l k).sum + (a i v * gw a (v :: U) n v k + _)
    omega
theorem gw_back {a : Nat → Nat → Int} {U : List Nat} (hU : U.Nodup) (v k n : Nat) : gw a (v :: U) n v k = Ks a U v k n + pm (Ws a U v) (GW a (v :: U) v k) n := by
  cases n with
  | zero =>
    show gw a (v :: U) 0 v k = (if v = k then 1 else 0) + 0 * _
    rw [Int.zero_mul, Int.add_zero]; rfl
  | succ n =>
    have e : pm (Ws a U v) (GW a (v :: U) v k) (n + 1) = pm (Wt a U v) (GW a (v :: U) v k) n := by
      show (0 : Int) * _ + pm (Wt a U v) _ n = _
      simp
    rw [e]
    show _ = _ + pm (fun j => psC (a v v) j + (U.map fun l => a v l * Hs a U v l j).sum) _ n
    rw [pm_step, gw_cons, sum_congr (fun l hl => by rw [gw_first hU v k n l hl, Int.mul_add]), sum_add']
    show _ = (U.map fun l => a v l * gw a U n l k).sum + (a v v * gw a (v :: U) n v k + _)
    omega
/-- One less the first returns. -/
def D1 (a : Nat → Nat → Int) (U : List Nat) (v : Nat) : PS := fun n => psC 1 n + (-1) * Ws a U v n
theorem D1_mul {a : Nat → Nat → Int} {U : List Nat} (hU : U.Nodup) (v k : Nat) : pm (D1 a U v) (GW a (v :: U) v k) = Ks a U v k := by
  funext n
  have h := gw_back (a := a) hU v k n
  show pm (fun n => psC 1 n + (-1) * Ws a U v n) _ n = _
  rw [pm_addl (psC 1) (fun n => (-1) * Ws a U v n), pm_constl, pm_smull]
  show 1 * gw a (v :: U) n v k + _ = _
  omega
theorem Ks_self {a : Nat → Nat → Int} {U : List Nat} {v : Nat} (hv : v ∉ U) : Ks a U v v = psC 1 := by
  funext n
  cases n with
  | zero => simp [Ks, psC]
  | succ n =>
    show (U.map fun l => a v l * gw a U n l v).sum = _
    rw [sum_congr (g := fun _ => 0) (fun l hl => by rw [gw_out hv n l hl]; simp)]
    rw [sum_zero']; simp [psC]
theorem D1_inv {a : Nat → Nat → Int} {U : List Nat} (hU : U.Nodup) {v : Nat} (hv : v ∉ U) : pm (D1 a U v) (GW a (v :: U) v v) = psC 1 := by
  rw [D1_mul hU, Ks_self hv]
theorem gw_last {a : Nat → Nat → Int} {U : List Nat} (hU : U.Nodup) {v : Nat} (hv : v ∉ U) (k : Nat) : GW a (v :: U) v k = pm (GW a (v :: U) v v) (Ks a U v k) := by
  rw [← D1_mul hU, ← pm_assoc, pm_comm (GW a (v :: U) v v), D1_inv hU hv, pm_comm, pm_one]
theorem gw_in {a : Nat → Nat → Int} {U : List Nat} (hU : U.Nodup) {v : Nat} (hv : v ∉ U) {i : Nat} (hi : i ∈ U) : GW a (v :: U) i v = pm (Hs a U v i) (GW a (v :: U) v v) := by
  funext n
  show gw a (v :: U) n i v = _
  rw [gw_first hU v v n i hi, gw_out hv n i hi, Int.zero_add]
/-- Traces. -/
def Ts (a : Nat → Nat → Int) (V : List Nat) : PS := fun n => if n = 0 then 0 else (V.map fun i => gw a V n i i).sum
theorem theta_W {a : Nat → Nat → Int} {U : List Nat} (hU : U.Nodup) {v : Nat} (hv : v ∉ U) (n : Nat) : psth (Ws a U v) n = Ws a U v n + (U.map fun i => pm (Hs a U v i) (Ks a U v i) n).sum := by
  have hK : ∀ i ∈ U, pm (Hs a U v i) (Ks a U v i) = psz (psz (pm (fun n => (U.map fun l => a v l * gw a U n l i).sum) (fun n => (U.map fun k => gw a U n i k * a k v).sum))) := fun i hi => by
    have e : Ks a U v i = psz fun n => (U.map fun l => a v l * gw a U n l i).sum := by
      funext n
      cases n with
      | zero =>
        have : ¬ v = i := fun h => hv (h ▸ hi)
        simp [Ks, psz, this]
      | succ n => rfl
    rw [e, pm_comm, pm_zl]
    unfold Hs
    rw [pm_zr]
  rw [sum_congr (fun i hi => by rw [hK i hi])]
  match n with
  | 0 =>
    have : (U.map fun i => psz (psz (pm (fun n => (U.map fun l => a v l * gw a U n l i).sum) (fun n => (U.map fun k => gw a U n i k * a k v).sum))) 0).sum = 0 := sum_zero' U
    rw [this]; simp [psth, Ws, psz]
  | 1 =>
    have : (U.map fun i => psz (psz (pm (fun n => (U.map fun l => a v l * gw a U n l i).sum) (fun n => (U.map fun k => gw a U n i k * a k v).sum))) 1).sum = 0 := sum_zero' U
    rw [this]; simp [psth]
  | n + 2 =>
    have hs := ps_sum_const U n (fun i => fun n => (U.map fun l => a v l * gw a U n l i).sum) (fun i => fun n => (U.map fun k => gw a U n i k * a k v).sum) (fun n => (U.map fun l => a v l * (U.map fun k => gw a U n l k * a k v).sum).sum) (fun p q => by
      show (U.map fun i => (U.map fun l => a v l * gw a U p l i).sum * (U.map fun k => gw a U q i k * a k v).sum).sum = (U.map fun l => a v l * (U.map fun k => gw a U (p + q) l k * a k v).sum).sum
      have h1 : ∀ i ∈ U, (U.map fun l => a v l * gw a U p l i).sum * (U.map fun k => gw a U q i k * a k v).sum = (U.map fun l => (U.map fun k => a v l * (gw a U p l i * gw a U q i k * a k v)).sum).sum := fun i _ => by
        rw [sum_mulL]
        refine sum_congr fun l _ => ?_
        rw [mul_sumL]
        refine sum_congr fun k _ => ?_
        rw [Int.mul_assoc, Int.mul_assoc]
      rw [sum_congr h1, sum_swap]
      refine sum_congr fun l hl => ?_
      rw [sum_swap, mul_sumL]
      refine sum_congr fun k _ => ?_
      rw [← mul_sumL, ← sum_mulL, gw_comp hU q k p l hl])
    have e1 : Ws a U v (n + 2) = (U.map fun l => a v l * (U.map fun k => gw a U n l k * a k v).sum).sum := by
      show psC (a v v) (n + 1) + _ = _
      rw [show psC (a v v) (n + 1) = 0 by simp [psC], Int.zero_add]; rfl
    show ((n + 2 : Nat) : Int) * Ws a U v (n + 2) = Ws a U v (n + 2) + _
    have e2 : (U.map fun i => psz (psz (pm (fun n => (U.map fun l => a v l * gw a U n l i).sum) (fun n => (U.map fun k => gw a U n i k * a k v).sum))) (n + 2)).sum = ((n : Int) + 1) * Ws a U v (n + 2) := by
      rw [e1, ← hs]; rfl
    rw [e2, show ((n + 2 : Nat) : Int) = 1 + ((n : Int) + 1) by omega, Int.add_mul 1, Int.one_mul]
theorem Ts_cons {a : Nat → Nat → Int} {U : List Nat} (hU : U.Nodup) {v : Nat} (hv : v ∉ U) (n : Nat) : Ts a (v :: U) n = Ts a U n + pm (psth (Ws a U v)) (GW a (v :: U) v v) n := by
  have e : psth (Ws a U v) = fun n => Ws a U v n + (U.map fun i => pm (Hs a U v i) (Ks a U v i) n).sum := by funext n; exact theta_W hU hv n
  rw [e, pm_addl (Ws a U v) (fun n => (U.map fun i => pm (Hs a U v i) (Ks a U v i) n).sum), pm_suml]
  have h1 : ∀ i ∈ U, pm (pm (Hs a U v i) (Ks a U v i)) (GW a (v :: U) v v) n = pm (Hs a U v i) (GW a (v :: U) v i) n := fun i _ => by
    rw [pm_assoc, pm_comm (Ks a U v i), ← gw_last hU hv i]
  rw [sum_congr h1]
  cases n with
  | zero =>
    have : (U.map fun i => pm (Hs a U v i) (GW a (v :: U) v i) 0).sum = 0 := by
      rw [sum_congr (g := fun _ => 0) (fun i _ => by show (0 : Int) * _ = 0; simp)]; exact sum_zero' U
    rw [this]
    show (0 : Int) = 0 + (0 * _ + 0)
    simp
  | succ n =>
    show ((v :: U).map fun i => gw a (v :: U) (n + 1) i i).sum = (U.map fun i => gw a U (n + 1) i i).sum + _
    rw [List.map_cons, List.sum_cons, sum_congr (fun i hi => gw_first hU v i (n + 1) i hi), sum_add', gw_back hU v v (n + 1), Ks_self hv]
    rw [show psC 1 (n + 1) = 0 by simp [psC]]
    omega
/-- The characteristic polynomial, backwards. -/
def DD (a : Nat → Nat → Int) : List Nat → PS
  | [] => psC 1
  | v :: U => pm (DD a U) (D1 a U v)
theorem newton (a : Nat → Nat → Int) : ∀ {V : List Nat}, V.Nodup → ∀ n : Nat, (n : Int) * DD a V n = - pm (Ts a V) (DD a V) n
  | [], _, n => by
    have e : Ts a [] = fun _ => 0 := by funext k; simp [Ts]
    rw [e, pm_zerol]
    simp only [DD, psC]
    split
    · rename_i h; subst h; simp
    · simp
  | v :: U, hV, n => by
    rw [List.nodup_cons] at hV
    have ih := newton a hV.2
    have e1 : psth (DD a U) = fun k => (-1) * pm (Ts a U) (DD a U) k := by
      funext k
      show (k : Int) * DD a U k = _
      rw [ih k]; omega
    have e2 : psth (D1 a U v) = fun k => (-1) * psth (Ws a U v) k := by
      funext k
      show (k : Int) * (psC 1 k + (-1) * Ws a U v k) = (-1) * ((k : Int) * Ws a U v k)
      have : (k : Int) * psC 1 k = 0 := by simp only [psC]; split
                                           · rename_i h; subst h; simp
                                           · simp
      rw [Int.mul_add, this, Int.mul_left_comm]; simp
    have e3 : Ts a (v :: U) = fun k => Ts a U k + pm (psth (Ws a U v)) (GW a (v :: U) v v) k := by funext k; exact Ts_cons hV.2 hV.1 k
    show (n : Int) * pm (DD a U) (D1 a U v) n = - pm (Ts a (v :: U)) (pm (DD a U) (D1 a U v)) n
    rw [pm_theta, e1, e2, pm_smull, pm_smulr, e3, pm_addl (Ts a U) (pm (psth (Ws a U v)) (GW a (v :: U) v v)), pm_assoc, pm_assoc (psth (Ws a U v)), ← pm_assoc (GW a (v :: U) v v), pm_comm (GW a (v :: U) v v), pm_assoc (DD a U), pm_comm (GW a (v :: U) v v), D1_inv hV.2 hV.1, pm_one, pm_comm (DD a U) (psth _)]
    omega
theorem DD_zero (a : Nat → Nat → Int) : ∀ V : List Nat, DD a V 0 = 1
  | [] => by simp [DD, psC]
  | v :: U => by
    show DD a U 0 * (psC 1 0 + (-1) * 0) = 1
    rw [DD_zero a U]; simp [psC]
theorem perm_sum {α : Type} {l l' : List α} (h : l.Perm l') (f : α → Int) : (l.map f).sum = (l'.map f).sum := by
  induction h with
  | nil => rfl
  | cons x _ ih => simp only [List.map_cons, List.sum_cons, ih]
  | swap x y l => simp only [List.map_cons, List.sum_cons]; omega
  | trans _ _ ih1 ih2 => rw [ih1, ih2]
theorem gw_perm (a : Nat → Nat → Int) {V V' : List Nat} (h : V.Perm V') : ∀ (n i j : Nat), gw a V n i j = gw a V' n i j
  | 0, _, _ => rfl
  | n + 1, i, j => by
    show (V.map fun l => a i l * gw a V n l j).sum = (V'.map fun l => a i l * gw a V' n l j).sum
    rw [perm_sum h]
    exact sum_congr fun l _ => by rw [gw_perm a h n l j]
theorem GW_perm (a : Nat → Nat → Int) {V V' : List Nat} (h : V.Perm V') (i j : Nat) : GW a V i j = GW a V' i j := by funext n; exact gw_perm a h n i j
theorem DD_perm (a : Nat → Nat → Int) {V V' : List Nat} (hV : V.Nodup) (h : V.Perm V') : DD a V = DD a V' := by
  have hV' : V'.Nodup := h.nodup_iff.1 hV
  have e : Ts a V = Ts a V' := by
    funext n
    simp only [Ts]
    split
    · rfl
    · rw [perm_sum h]
      exact sum_congr fun i _ => gw_perm a h n i i
  refine ps_unique (T := Ts a V) (by simp [Ts]) (by rw [DD_zero, DD_zero]) (newton a hV) ?_
  rw [e]
  exact newton a hV'
/-- Cayley and Hamilton: the degrees. -/
theorem deg_H {a : Nat → Nat → Int} {U : List Nat} {m v i : Nat} (h : ∀ k ∈ U, degB m (pm (DD a U) (GW a U i k))) : degB (m + 1) (pm (DD a U) (Hs a U v i)) := by
  unfold Hs
  rw [pm_zr]
  refine degB_z fun n hn => ?_
  rw [pm_sumr]
  rw [sum_congr (g := fun _ => 0) (fun k hk => by
    have e : (fun n => gw a U n i k * a k v) = fun n => a k v * GW a U i k n := by funext n; exact Int.mul_comm _ _
    rw [e, pm_smulr, h k hk n hn]; simp)]
  exact sum_zero' U
theorem deg_all (a : Nat → Nat → Int) : ∀ (m : Nat) (V : List Nat), V.Nodup → V.length = m → degB (m + 1) (DD a V) ∧ ∀ i ∈ V, ∀ j ∈ V, degB m (pm (DD a V) (GW a V i j))
  | 0, V, hV, hl => by
    obtain rfl := List.length_eq_zero_iff.1 hl
    refine ⟨fun k hk => ?_, fun i hi => by cases hi⟩
    show psC 1 k = 0
    simp [psC]; omega
  | m + 1, V, hV, hl => by
    constructor
    · match V, hV, hl with
      | v :: U, hV, hl =>
        rw [List.nodup_cons] at hV
        have ih := deg_all a m U hV.2 (by simpa using hl)
        intro k hk
        show pm (DD a U) (fun n => psC 1 n + (-1) * Ws a U v n) k = 0
        rw [pm_addr _ (psC 1) (fun n => (-1) * Ws a U v n), pm_one, pm_smulr, ih.1 k (by omega)]
        have h2 : degB (m + 2) (pm (DD a U) (Ws a U v)) := by
          unfold Ws
          rw [pm_zr]
          refine degB_z fun n hn => ?_
          show pm (DD a U) (fun n => psC (a v v) n + (U.map fun l => a v l * Hs a U v l n).sum) n = 0
          rw [pm_comm, pm_step, ih.1 n hn, sum_congr (g := fun _ => 0) (fun l hl => by
            rw [pm_comm, deg_H (ih.2 l hl) n hn]; simp), sum_zero']
          simp
        rw [h2 k hk]; simp
    · intro i hi j hj
      have hp : V.Perm (j :: V.erase j) := List.perm_cons_erase hj
      have hU : (V.erase j).Nodup := hV.erase j
      have hv : j ∉ V.erase j := fun h => by
        have := (List.Nodup.mem_erase_iff hV).1 h
        exact this.1 rfl
      have hlU : (V.erase j).length = m := by rw [List.length_erase_of_mem hj]; omega
      have ih := deg_all a m (V.erase j) hU hlU
      rw [DD_perm a hV hp, GW_perm a hp]
      show degB (m + 1) (pm (pm (DD a (V.erase j)) (D1 a (V.erase j) j)) _)
      rw [pm_assoc]
      by_cases e : i = j
      · subst e
        rw [D1_inv hU hv, pm_one]
        exact ih.1
      · have hiU : i ∈ V.erase j := (List.Nodup.mem_erase_iff hV).2 ⟨e, hi⟩
        rw [gw_in hU hv hiU, pm_comm (Hs a (V.erase j) j i), ← pm_assoc (D1 a (V.erase j) j), D1_inv hU hv, pm_comm (psC 1), pm_one]
        exact deg_H (ih.2 i hiU)
end Go.Proofs.YthpgeeaccmgbkaaGreat

/- slices.Reverse at integers. -/
namespace Go.Proofs.YthpgeeaccmgbkaaGreat
open Go.RowKit

/-- The first k and the last k are exchanged. -/
def revk (l : List Int) (k : Nat) : List Int := (List.range l.length).map fun q => if q < k ∨ l.length ≤ q + k then l.getD (l.length - 1 - q) 0 else l.getD q 0
theorem revk_length (l : List Int) (k : Nat) : (revk l k).length = l.length := by simp [revk]
theorem revk_get {l : List Int} {k q : Nat} (h : q < l.length) : (revk l k)[q]? = some (if q < k ∨ l.length ≤ q + k then l.getD (l.length - 1 - q) 0 else l.getD q 0) := by
  simp [revk, List.getElem?_range h]
theorem revk_zero (l : List Int) : revk l 0 = l := by
  apply List.ext_getElem?
  intro q
  by_cases h : q < l.length
  · rw [revk_get h, if_neg (by omega), List.getD_eq_getElem?_getD, List.getElem?_eq_getElem h]; rfl
  · rw [List.getElem?_eq_none (by rw [revk_length]; omega), List.getElem?_eq_none (by omega)]
theorem revk_full {l : List Int} {k : Nat} (hk : l.length ≤ 2 * k + 1) : revk l k = l.reverse := by
  apply List.ext_getElem?
  intro q
  by_cases h : q < l.length
  · rw [revk_get h, List.getElem?_reverse h]
    split
    · rw [List.getD_eq_getElem?_getD, List.getElem?_eq_getElem (by omega)]; rfl
    · have : l.length - 1 - q = q := by omega
      rw [this, List.getD_eq_getElem?_getD, List.getElem?_eq_getElem h]; rfl
  · rw [List.getElem?_eq_none (by rw [revk_length]; omega), List.getElem?_eq_none (by rw [List.length_reverse]; omega)]
theorem revk_step {l : List Int} {k j : Nat} (hj : k + j + 1 = l.length) (hk : k < j) {x y : Int} (hx : (revk l k)[k]? = some x) (hy : (revk l k)[j]? = some y) : ((revk l k).set k y).set j x = revk l (k + 1) := by
  rw [revk_get (by omega), if_neg (by omega)] at hx hy
  have hx := Option.some.inj hx
  have hy := Option.some.inj hy
  apply List.ext_getElem?
  intro q
  by_cases h : q < l.length
  · rw [revk_get h, List.getElem?_set, List.getElem?_set]
    simp only [List.length_set, revk_length]
    by_cases e1 : j = q
    · subst e1
      rw [if_pos rfl, if_pos (by omega), if_pos (by omega), ← hx]
      congr 2; omega
    · rw [if_neg e1]
      by_cases e2 : k = q
      · subst e2
        rw [if_pos rfl, if_pos (by omega), if_pos (by omega), ← hy]
        congr 2; omega
      · rw [if_neg e2, revk_get h]
        by_cases e3 : q < k ∨ l.length ≤ q + k
        · rw [if_pos e3, if_pos (by omega)]
        · rw [if_neg e3, if_neg (by omega)]
  · rw [List.getElem?_eq_none (by simp [revk_length]; omega), List.getElem?_eq_none (by rw [revk_length]; omega)]
theorem civ_set_rest (l : List Int) (rest : List Value) {k : Nat} (hk : k < l.length) (z : Int) : ((civ l ++ rest).set (k * 2) (.bool (ineg z))).set (k * 2 + 1) (.string (imag z)) = civ (l.set k z) ++ rest := by
  have h := civ_length l
  rw [List.set_append_left _ _ (by omega), List.set_append_left _ _ (by rw [List.length_set]; omega), civ_set]
theorem civ_get_rest {l : List Int} (rest : List Value) {k : Nat} {z : Int} (h : l[k]? = some z) : (civ l ++ rest)[k * 2]? = some (.bool (ineg z)) ∧ (civ l ++ rest)[k * 2 + 1]? = some (.string (imag z)) := by
  obtain ⟨h1, h2⟩ := civ_get h
  have h3 := (List.getElem?_eq_some_iff.1 h1).1
  have h4 := (List.getElem?_eq_some_iff.1 h2).1
  exact ⟨by rw [List.getElem?_append_left h3]; exact h1, by rw [List.getElem?_append_left h4]; exact h2⟩
set_option maxRecDepth 100000 in
set_option maxHeartbeats 6400000 in
theorem reverseI_any (l : List Int) (g cap B : Nat) (rest : List Value) (w : World) (hb : Blk w g 28 (civ l ++ rest)) (hl : l.length ≤ 1000000) (hB : B ≤ g) :
    Calls Tryz.prog 54 #[.slice (some ⟨g, 0, none⟩) l.length cap] w (fun e w' => e = .returned (.tuple #[]) ∧ Blk w' g 28 (civ l.reverse ++ rest) ∧ Below B w w') := by
  obtain ⟨n, hn⟩ : ∃ n, n = l.length := ⟨_, rfl⟩
  have hb0 := hb
  rw [← revk_zero l] at hb0
  rw [← hn] at hl ⊢
  have HB0 := Lib.hid hb0; clear hb0
  have HN := Lib.hid hn; clear hn
  clear hb
  go_enter Tryz.func54, Tryz.ntmps54
  go_wp2_with fail
  go_loopw [2, 3] (fun i j wr => ∃ k : Nat, 2 * k ≤ n + 1 ∧ i = .int .i64 (k : Int) ∧ j = .int .i64 ((n : Int) - 1 - (k : Int)) ∧ Blk wr g 28 (civ (revk l k) ++ rest) ∧ Below B w wr) (fun i _ _ => n - (intOf i).toNat)
  case atStart => exact ⟨0, by omega, rfl, by simp, HB0.out, Below.refl _ _⟩
  case round =>
    obtain ⟨k, hk, rfl, rfl, hblk, hbel⟩ := hrel
    by_cases hlt : (k : Int) < (n : Int) - 1 - (k : Int)
    · obtain ⟨j, hj⟩ : ∃ j : Nat, (n : Int) - 1 - (k : Int) = (j : Int) := ⟨n - 1 - k, by omega⟩
      rw [hj] at hlt ⊢
      have hjn : k + j + 1 = l.length := by rw [← HN.out]; omega
      have hkj : k < j := by omega
      have hx : (revk l k)[k]? = some ((revk l k)[k]'(by rw [revk_length]; omega)) := List.getElem?_eq_getElem _
      have hy : (revk l k)[j]? = some ((revk l k)[j]'(by rw [revk_length]; omega)) := List.getElem?_eq_getElem _
      obtain ⟨x, hxe⟩ : ∃ x, x = (revk l k)[k]'(by rw [revk_length]; omega) := ⟨_, rfl⟩
      obtain ⟨y, hye⟩ : ∃ y, y = (revk l k)[j]'(by rw [revk_length]; omega) := ⟨_, rfl⟩
      rw [← hxe] at hx
      rw [← hye] at hy
      clear hxe hye
      have hst := revk_step hjn hkj hx hy
      have c0 := hblk.cell (civ_get_rest rest hx).1
      have c1 := hblk.cell (civ_get_rest rest hx).2
      have d0 := hblk.cell (civ_get_rest rest hy).1
      have d1 := hblk.cell (civ_get_rest rest hy).2
      have f0 := hblk.frozen (k * 2)
      have f1 := hblk.frozen (k * 2 + 1)
      have f2 := hblk.frozen (j * 2)
      have f3 := hblk.frozen (j * 2 + 1)
      have bl := (((hblk.set (k * 2) (.bool (ineg y))).set (k * 2 + 1) (.string (imag y))).set (j * 2) (.bool (ineg x))).set (j * 2 + 1) (.string (imag x))
      rw [civ_set_rest _ _ (by rw [revk_length]; omega), civ_set_rest _ _ (by rw [List.length_set, revk_length]; omega), hst] at bl
      have hbel2 := (((hbel.setCell (p := ⟨g, k * 2, none⟩) hB (.bool (ineg y))).setCell (p := ⟨g, k * 2 + 1, none⟩) hB (.string (imag y))).setCell (p := ⟨g, j * 2, none⟩) hB (.bool (ineg x))).setCell (p := ⟨g, j * 2 + 1, none⟩) hB (.string (imag x))
      have hk2 : 2 * (k + 1) ≤ n + 1 := by omega
      have hje : (j : Int) - 1 = (n : Int) - 1 - ((k + 1 : Nat) : Int) := by omega
      have x1 : (0 : Int) ≤ (k : Int) := by omega
      have x2 : (k : Int) < (n : Int) := by omega
      have x3 : (0 : Int) ≤ (j : Int) := by omega
      have x4 : (j : Int) < (n : Int) := by omega
      have n1 : ¬ j * 2 = k * 2 := by omega
      have n2 : ¬ j * 2 = k * 2 + 1 := by omega
      have n3 : ¬ j * 2 + 1 = k * 2 := by omega
      have n4 : ¬ j * 2 + 1 = k * 2 + 1 := by omega
      have n5 : ¬ k * 2 = j * 2 := by omega
      have n6 : ¬ k * 2 = j * 2 + 1 := by omega
      have n7 : ¬ k * 2 + 1 = j * 2 := by omega
      have n8 : ¬ k * 2 + 1 = j * 2 + 1 := by omega
      have BL := Lib.hid bl; clear bl
      have HB2 := Lib.hid hbel2; clear hbel2
      have HJ := Lib.hid hje; clear hje
      have HK2 := Lib.hid hk2; clear hk2
      clear hj
      clear hblk hbel hst hx hy hjn
      go_wp2_with fail
      go_region
      go_wp2_with fail
      go_roundw
      case rel => exact ⟨k + 1, HK2.out, by go_num, by rw [HJ.out], BL.out, HB2.out.drew⟩
      case measure => simp [intOf]; omega
    · have hfin : revk l k = l.reverse := revk_full (by rw [← HN.out]; omega)
      rw [hfin] at hblk
      have HBLK := Lib.hid hblk; clear hblk
      have HBEL := Lib.hid hbel; clear hbel
      go_wp2_with fail
      go_end0
      exact ⟨rfl, HBLK.out, HBEL.out⟩
end Go.Proofs.YthpgeeaccmgbkaaGreat


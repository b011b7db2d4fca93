/- Contracts and plain laws of several functions, one after the other: EdgeA, TabB. -/
import Derived.Laws.StructEq
import Derived.Deep.RegionHeld3
import Derived.Deep.QuietTactic
import Derived.Test.YthpgeeaccmgbkaaCheck
import Derived.Test.YthpgeeaccmgbkaaPart16
/- The contracts of slices.Equal, slices.Clone and slices.Compact at edges; nothing that was there is changed. -/
namespace Go.Proofs.Ythpgeeaccmgbkaa
open Go.RowKit

theorem eqType : Try.prog.underlying 48 = some (.struct (Try.prog.fieldsOf 48)) := by kernel_rfl
theorem eqStood : Try.prog.stoodInHeld 48 = false := by kernel_rfl
theorem eqFlds : (Try.prog.fieldsOf 48).toList.map (fun f => (f.type, f.offset, f.name == "_")) = [(3, 0, false), (3, 1, false), (3, 2, false)] := by kernel_rfl
theorem partInt (xs : Array Value) (i : Nat) (v : Value) (h : xs[i]? = some v) (w : World) : (Go.part 3 xs i).run Try.prog w = .ok v w := by
  simp [Go.part, Try.isAgg3, h]
set_option maxRecDepth 100000 in
theorem eqIn_edge (a b : E3) (w : World) : (Op.equalIn 10000 48 a.val b.val).run Try.prog w = .ok (decide (a = b)) w := by
  have e : ∀ fs, (Try.prog.fieldsOf 48).toList = fs → (Op.eqFields 9999 #[.int .i64 a.f, .int .i64 a.l, .int .i64 a.t] #[.int .i64 b.f, .int .i64 b.l, .int .i64 b.t] fs).run Try.prog w = .ok (decide (a = b)) w := by
    intro fs hfs
    have hm := eqFlds
    rw [hfs] at hm
    match fs, hm with
    | [f0, f1, f2], hm =>
      simp only [List.map_cons, List.map_nil, List.cons.injEq, Prod.mk.injEq, and_true] at hm
      obtain ⟨⟨t0, o0, n0⟩, ⟨t1, o1, n1⟩, ⟨t2, o2, n2⟩⟩ := hm
      rw [beq_eq_false_iff_ne] at n0 n1 n2
      simp [Op.eqFields, n0, n1, n2, t0, o0, t1, o1, t2, o2, Go.part, Try.isAgg3, run_equalIn_int, Try.underlying3]
      have he : (a = b) ↔ a.f = b.f ∧ a.l = b.l ∧ a.t = b.t := by cases a; cases b; simp
      by_cases h1 : a.f = b.f <;> by_cases h2 : a.l = b.l <;> by_cases h3 : a.t = b.t <;> simp [he, h1, h2, h3]
  exact (run_equalIn_struct (P := Try.prog) w 9999 48 _ _ eqType eqStood).trans (e _ rfl)
theorem neq_edge (a b : E3) (w : World) : (binOp .neq 48 a.val b.val).run Try.prog w = .ok (.bool (!decide (a = b))) w := by
  rw [run_neq_struct, eqIn_edge]; rfl
theorem eql_edge (a b : E3) (w : World) : (binOp .eql 48 a.val b.val).run Try.prog w = .ok (.bool (decide (a = b))) w := by
  rw [run_eql_struct, eqIn_edge]; rfl

/-- The cells of an edge of a slice, in a world in which nothing of it has changed. -/
theorem edge_cells {w w' : World} {B b off : Nat} {es : List E3} {k : Nat} {e : E3} (hce : ∀ (j : Nat) (u : Value), (ce es)[j]? = some u → w.cell? ⟨b, off + j, none⟩ = some u) (hb : Below B w w') (hlt : b < B) (h : es[k]? = some e) :
    w'.cell? ⟨b, off + k * 3, none⟩ = some (.int .i64 e.f) ∧ w'.cell? ⟨b, off + k * 3 + 1, none⟩ = some (.int .i64 e.l) ∧ w'.cell? ⟨b, off + k * 3 + 2, none⟩ = some (.int .i64 e.t) :=
  ⟨(hb.cell (p := ⟨b, off + k * 3, none⟩) hlt).trans (hce (k * 3) _ (ce_get (j := 0) h rfl)), (hb.cell (p := ⟨b, off + k * 3 + 1, none⟩) hlt).trans (hce (k * 3 + 1) _ (ce_get (j := 1) h rfl)), (hb.cell (p := ⟨b, off + k * 3 + 2, none⟩) hlt).trans (hce (k * 3 + 2) _ (ce_get (j := 2) h rfl))⟩

end Go.Proofs.Ythpgeeaccmgbkaa

/- Tables of integers in memory. -/
namespace Go.Proofs.Ythpgeeaccmgbkaa
open Go.RowKit

/-- A row, a table in blocks from B on. -/
def RowB (B : Nat) (w : World) (v : Value) (n : Nat) (xs : List Value) : Prop := Row w v n xs ∧ ∀ k, v.ownBlock = some k → B ≤ k
def TabB (B : Nat) (w : World) (v : Value) (rows : List (List Int)) : Prop :=
  ∃ rvs : List Value, rvs.length = rows.length ∧ RowB B w v rows.length rvs ∧ ∀ (i : Nat) (r : List Int), rows[i]? = some r → ∃ rv : Value, rvs[i]? = some rv ∧ RowB B w rv r.length (civ r)
theorem TabB.tab {B : Nat} {w : World} {v : Value} {rows : List (List Int)} (h : TabB B w v rows) : Tab w v rows := by
  obtain ⟨rvs, h1, h2, h3⟩ := h
  exact ⟨rvs, h1, h2.1, fun i r hr => by obtain ⟨rv, h4, h5⟩ := h3 i r hr; exact ⟨rv, h4, h5.1⟩⟩
theorem rowB_put {B : Nat} {w : World} {v : Value} {n : Nat} {xs : List Value} (h : RowB B w v n xs) {d : Nat} (hd : d < B) (j : Nat) (u : Value) : RowB B (w.setCell ⟨d, j, none⟩ u) v n xs := by
  refine ⟨?_, h.2⟩
  rcases h.1 with h1 | ⟨b, off, cap, rfl, h1, h2, h3, h4⟩
  · exact .inl h1
  · have hb : B ≤ b := h.2 b rfl
    refine .inr ⟨b, off, cap, rfl, h1, h2, by simpa using h3, fun i x hx => ?_⟩
    rw [World.cell?_setCell_far _ _ _ _ (fun e => by simp at e; omega)]
    exact h4 i x hx
theorem TabB.put {B : Nat} {w : World} {v : Value} {rows : List (List Int)} (h : TabB B w v rows) {d : Nat} (hd : d < B) (j : Nat) (u : Value) : TabB B (w.setCell ⟨d, j, none⟩ u) v rows := by
  obtain ⟨rvs, h1, h2, h3⟩ := h
  exact ⟨rvs, h1, rowB_put h2 hd j u, fun i r hr => by obtain ⟨rv, h4, h5⟩ := h3 i r hr; exact ⟨rv, h4, rowB_put h5 hd j u⟩⟩
theorem TabB.below {B C : Nat} {w w' : World} {v : Value} {rows : List (List Int)} (h : TabB B w v rows) (k : Below C w w') (hC : w.heap.size ≤ C) : TabB B w' v rows := by
  obtain ⟨rvs, h1, h2, h3⟩ := h
  exact ⟨rvs, h1, ⟨h2.1.below k hC, h2.2⟩, fun i r hr => by obtain ⟨rv, h4, h5⟩ := h3 i r hr; exact ⟨rv, h4, h5.1.below k hC, h5.2⟩⟩
def TabRet (w : World) (rows : List (List Int)) (e : Ending) (w' : World) : Prop := Below w.heap.size w w' ∧ ∃ v, e = .returned v ∧ TabB w.heap.size w' v rows
/-- The rows from 0 to n. -/
def tabL (es : List E3) (S : Nat) (p : Int → Bool) (n : Nat) : List (List Int) := (List.range (n + 1)).map (rowK es S p)
theorem tabL_length (es : List E3) (S : Nat) (p : Int → Bool) (n : Nat) : (tabL es S p n).length = n + 1 := by simp [tabL]
theorem tabL_get {es : List E3} {S : Nat} {p : Int → Bool} {n i : Nat} (h : i < n + 1) : (tabL es S p n)[i]? = some (rowK es S p i) := by simp [tabL, h]
/-- The rows that lie in memory. -/
def RowsAt (B : Nat) (w : World) (es : List E3) (S : Nat) (p : Int → Bool) (k : Nat) (rvs : List Value) : Prop :=
  ∀ i, i ≤ k → ∃ b, B ≤ b ∧ rvs[i]? = some (.slice (some ⟨b, 0, none⟩) S S) ∧ Blk w b 28 (civ (rowK es S p i))
theorem RowsAt.keep {B : Nat} {w w' : World} {es : List E3} {S : Nat} {p : Int → Bool} {k : Nat} {rvs : List Value} (h : RowsAt B w es S p k rvs) (hq : Below w.heap.size w w') : RowsAt B w' es S p k rvs :=
  fun i hi => by obtain ⟨b, h0, h1, h2⟩ := h i hi; exact ⟨b, h0, h1, h2.keep hq⟩
theorem RowsAt.grown {B : Nat} {w w' : World} {es : List E3} {S : Nat} {p : Int → Bool} {k : Nat} {rvs : List Value} {row : Option Nat} (h : RowsAt B w es S p k rvs) (hg : w.grownBy w' row) (hne : ∀ b ys, Blk w b 28 ys → row ≠ some b) : RowsAt B w' es S p k rvs :=
  fun i hi => by obtain ⟨b, h0, h1, h2⟩ := h i hi; exact ⟨b, h0, h1, h2.grown hg (hne b _ h2)⟩
theorem RowsAt.snoc {B : Nat} {w : World} {es : List E3} {S : Nat} {p : Int → Bool} {k b : Nat} {rvs : List Value} (h : RowsAt B w es S p k rvs) (hl : rvs.length = k + 1) (hB : B ≤ b) (hb : Blk w b 28 (civ (rowK es S p (k + 1)))) : RowsAt B w es S p (k + 1) (rvs ++ [.slice (some ⟨b, 0, none⟩) S S]) := fun i hi => by
  by_cases h1 : i ≤ k
  · obtain ⟨b', h0, h2, h3⟩ := h i h1
    exact ⟨b', h0, by rw [List.getElem?_append_left (by omega)]; exact h2, h3⟩
  · obtain rfl : i = k + 1 := by omega
    exact ⟨b, hB, by rw [List.getElem?_append_right (by omega), hl]; simp, hb⟩
theorem infoRow : (Try.prog.info? 38).map (fun i => (i.zero, i.size, i.bytes)) = some (some (.slice none 0 0), 1, 24) := by kernel_rfl

end Go.Proofs.Ythpgeeaccmgbkaa


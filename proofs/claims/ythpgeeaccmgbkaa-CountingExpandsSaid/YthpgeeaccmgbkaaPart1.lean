/- Contracts and plain laws of several functions, one after the other: RowG, RowK, RowN. -/
import Derived.Lib.SmallJoins
import Derived.Deep.Slices
import Derived.Deep.Strs
import Derived.Carry
import Derived.Test.YthpgeeaccmgbkaaCheck
import Derived.Test.YthpgeeaccmgbkaaPart16
/- Arguments of the rows, opened: a graph, an integer. -/
namespace Go.Proofs.Ythpgeeaccmgbkaa
open Go.RowKit Go.ChangeShapes Go.WideShapes Go.Deep Go.Joins

theorem wf_i64' {a : Int} (h : (Lit.int .i64 a).wf = true) : -9223372036854775808 ≤ a ∧ a ≤ 9223372036854775807 := by
  rw [Lit.wf, Bool.and_eq_true, decide_eq_true_eq, decide_eq_true_eq] at h
  exact h
theorem cellsGraph : Try.prog.cellsOf 24 = 3 := by kernel_rfl
theorem cellsEdge : Try.prog.cellsOf 48 = 3 := by kernel_rfl
theorem cellsI : Try.prog.cellsOf 3 = 1 := by kernel_rfl
theorem cellsInt2 : Try.prog.cellsOf 28 = 2 := by kernel_rfl
theorem ctGraph : Try.prog.cellTypes Try.prog.depth 24 = some [3, 3, 22] := by kernel_rfl
theorem cell_ok_slice {P : Program} {w : World} {r : Reach} {base : Nat} {t e : TypeId} {a : Addr} {len cap : Nat} (ht : P.underlying t = some (.slice e)) (h : Cell.okWide P w r base t (.slice (some a) len cap)) : a.spot = none ∧ a.block < w.heap.size := by
  unfold Cell.okWide Cell.ok at h
  rw [ht] at h
  obtain ⟨-, -, -, hsp, row, cells, hsh, -⟩ := h
  refine ⟨hsp, ?_⟩
  rcases Nat.lt_or_ge a.block w.heap.size with h' | h'
  · exact h'
  · simp [World.shape?, Array.getElem?_eq_none h'] at hsh
theorem okWide_cell {P : Program} {w : World} {r : Reach} {base : Nat} {t u : TypeId} {fs : Array Field} {cs : Array Value} {ts : List TypeId} {i : Nat} {v : Value} (ht : P.underlying t = some (.struct fs)) (hct : P.cellTypes P.depth t = some ts) (h : Value.okWide P w r base t (.agg cs)) (hi : cs[i]? = some v) (hu : ts[i]? = some u) : Cell.okWide P w r base u v := by
  unfold Value.okWide at h
  rw [ht] at h
  obtain ⟨cs', e, -, ts', hts, -, hall⟩ := h
  obtain rfl : cs = cs' := by cases e; rfl
  rw [hct] at hts
  obtain rfl := Option.some.inj hts
  obtain ⟨u', hu', hc⟩ := hall i v hi
  have hil : i < ts.length := (List.getElem?_eq_some_iff.1 hu).1
  rw [Nat.mod_eq_of_lt hil, hu] at hu'
  obtain rfl := Option.some.inj hu'
  exact hc
section
variable {H : Type} {enc : TypeId × Value → H}
set_option maxRecDepth 100000 in
/-- What a slice of edges holds. -/
theorem open_edges {W : World} {base n : Nat} {sv : Value} {x : DataW H × List MemPlace} (hc : Cell.okWide Try.prog W .any base 22 sv) (h : DataW.trod enc Try.prog W 0 (fun _ => true) true n 22 [sv] = some x) :
    ∃ es : List E3, Row W sv es.length (ce es) ∧ okEs es := by
  rcases open_slice Try.underlying22 h with ⟨hs, -⟩ | ⟨a, len, cap, m, n', D, Pl, hs, -, hl, hm, hmm, -, hx⟩
  · obtain rfl : sv = .slice none 0 0 := by simpa using hs
    exact ⟨[], .inl ⟨rfl, rfl, rfl⟩, fun e he => by cases he⟩
  · obtain rfl : sv = .slice (some a) len cap := by simpa using hs
    simp only [if_true] at hmm
    subst hmm
    obtain ⟨hsp, hlt⟩ := cell_ok_slice Try.underlying22 hc
    have key : ∀ i, i < m → ∃ e : E3, e.ok ∧ ∀ j u, e.cells[j]? = some u → W.cell? (a.add (i * 3 + j)) = some u := by
      intro i hi
      obtain ⟨cs', h1, h2⟩ := hx i hi
      rw [cellsEdge] at h1
      obtain ⟨-, hlen, hget⟩ := World.cells?_some h1
      obtain ⟨y0, y1, y2, k, -, -, t0, t1, t2⟩ := trod_struct3 Try.underlying48 h2
      match cs', hlen with
      | [c0, c1, c2], _ =>
        obtain ⟨f, e0, -, w0⟩ := DataW.trod_int Try.underlying3 t0
        obtain ⟨l, e1, -, w1⟩ := DataW.trod_int Try.underlying3 t1
        obtain ⟨t, e2, -, w2⟩ := DataW.trod_int Try.underlying3 t2
        have q0 : c0 = .int .i64 f := by simpa [cellsI] using e0
        have q1 : c1 = .int .i64 l := by simpa [cellsI] using e1
        have q2 : c2 = .int .i64 t := by simpa [cellsI] using e2
        subst q0 q1 q2
        refine ⟨⟨f, l, t⟩, ?_, fun j u hj => ?_⟩
        · intro z hz
          simp only [List.mem_cons, List.not_mem_nil, or_false] at hz
          rcases hz with rfl | rfl | rfl
          · exact wf_i64' w0
          · exact wf_i64' w1
          · exact wf_i64' w2
        · have hj3 : j < 3 := by
            have := (List.getElem?_eq_some_iff.1 hj).1
            simpa [E3.cells] using this
          rw [← add_add, hget j hj3]
          exact hj
    obtain ⟨E, hE⟩ := choose_lt key
    refine ⟨(List.range len).map E, .inr ⟨a.block, a.off, m, ?_, ?_, ?_, hlt, fun j u hj => ?_⟩, fun e he => ?_⟩
    · rw [List.length_map, List.length_range]
      rcases a with ⟨b, o, sp⟩
      obtain rfl : sp = none := hsp
      rfl
    · rw [List.length_map, List.length_range]; exact hl
    · exact hm
    · have hjl := (List.getElem?_eq_some_iff.1 hj).1
      rw [ce_length, List.length_map, List.length_range] at hjl
      have hi : j / 3 < len := by omega
      have h1 := (hE (j / 3) (by omega)).2 (j % 3)
      have hg : ((List.range len).map E)[j / 3]? = some (E (j / 3)) := by simp [hi]
      obtain ⟨c, hc'⟩ : ∃ c, (E (j / 3)).cells[j % 3]? = some c := ⟨(E (j / 3)).cells[j % 3]'(by simp [E3.cells]; omega), List.getElem?_eq_getElem _⟩
      have h2 := ce_get hg hc'
      rw [show j / 3 * 3 + j % 3 = j by omega, hj] at h2
      obtain rfl := Option.some.inj h2
      have h3 := h1 _ hc'
      rw [show j / 3 * 3 + j % 3 = j by omega] at h3
      rcases a with ⟨b, o, sp⟩
      obtain rfl : sp = none := hsp
      have e : (Addr.mk b o none).add j = ⟨b, o + j, none⟩ := by unfold Addr.add; split <;> simp_all
      rw [← e]; exact h3
    · obtain ⟨i, hi, rfl⟩ := List.mem_map.1 he
      exact (hE i (by have := List.mem_range.1 hi; omega)).1
set_option maxRecDepth 100000 in
/-- A graph handed in. -/
theorem open_graph {W : World} {base : Nat} {v : Value} {d : DataW H} {p : List MemPlace} (hval : Value.okWide Try.prog W .any base 24 v) (h : DataW.Trod enc Try.prog W 0 (fun _ => true) true 24 v d p) :
    ∃ (L S : Int) (es : List E3) (sv : Value), v = .agg #[.int .i64 L, .int .i64 S, sv] ∧ Row W sv es.length (ce es) ∧ okEs es ∧ (Lit.int .i64 L).wf = true ∧ (Lit.int .i64 S).wf = true := by
  obtain ⟨v0, v1, v2, y0, y1, y2, n, rfl, -, -, t0, t1, t2⟩ := open_agg3 Try.underlying24 (by kernel_rfl) cellsGraph hval h
  obtain ⟨L, e0, -, w0⟩ := DataW.trod_int Try.underlying3 t0
  obtain ⟨S, e1, -, w1⟩ := DataW.trod_int Try.underlying3 t1
  obtain rfl : v0 = .int .i64 L := by simpa using e0
  obtain rfl : v1 = .int .i64 S := by simpa using e1
  obtain ⟨es, hr, hok⟩ := open_edges (okWide_cell (i := 2) Try.underlying24 ctGraph hval rfl rfl) t2
  exact ⟨L, S, es, v2, rfl, hr, hok, w0, w1⟩
set_option maxRecDepth 100000 in
/-- An integer of any size handed in. -/
theorem open_num {W : World} {base : Nat} {v : Value} {d : DataW H} {p : List MemPlace} (hval : Value.okWide Try.prog W .any base 28 v) (h : DataW.Trod enc Try.prog W 0 (fun _ => true) true 28 v d p) :
    ∃ (ng : Bool) (s : ByteArray), v = .agg #[.bool ng, .string s] ∧ s.size ≤ maxLen := by
  obtain ⟨v0, v1, y0, y1, n, rfl, -, -, t0, t1⟩ := open_agg2 Try.underlying28 (by kernel_rfl) cellsInt2 hval h
  obtain ⟨ng, e0, -⟩ := DataW.trod_bool Try.underlying4 t0
  obtain ⟨s, e1, -, hs⟩ := DataW.trod_string Try.underlying9 t1
  obtain rfl : v0 = .bool ng := by simpa using e0
  obtain rfl : v1 = .string s := by simpa using e1
  exact ⟨ng, s, rfl, hs⟩
end
end Go.Proofs.Ythpgeeaccmgbkaa

/- Arguments of the rows, opened: lists of numbers of one kind. -/
namespace Go.Proofs.Ythpgeeaccmgbkaa
open Go.RowKit Go.ChangeShapes Go.WideShapes Go.Deep Go.Joins

section
variable {H : Type} {enc : TypeId × Value → H}
set_option maxRecDepth 100000 in
/-- What a slice of integers of one kind holds. -/
theorem open_kinds {k : IntKind} {t e : TypeId} (ht : Try.prog.underlying t = some (.slice e)) (he : Try.prog.underlying e = some (.int k)) (hce : Try.prog.cellsOf e = 1) {W : World} {base n : Nat} {sv : Value} {x : DataW H × List MemPlace} (hc : Cell.okWide Try.prog W .any base t sv) (h : DataW.trod enc Try.prog W 0 (fun _ => true) true n t [sv] = some x) :
    ∃ l : List Int, Row W sv l.length (l.map fun z => .int k z) ∧ ∀ z ∈ l, (Lit.int k z).wf = true := by
  rcases open_slice1 ht hce h with ⟨hs, -⟩ | ⟨a, len, cap, m, n', V, D, Pl, hs, -, hl, hm, hmm, -, hx⟩
  · obtain rfl : sv = .slice none 0 0 := by simpa using hs
    exact ⟨[], .inl ⟨rfl, rfl, rfl⟩, fun e he => by cases he⟩
  · obtain rfl : sv = .slice (some a) len cap := by simpa using hs
    simp only [if_true] at hmm
    subst hmm
    obtain ⟨hsp, hlt⟩ := cell_ok_slice ht hc
    have key : ∀ i, i < m → ∃ z : Int, (Lit.int k z).wf = true ∧ W.cell? (a.add i) = some (.int k z) := by
      intro i hi
      obtain ⟨h1, h2⟩ := hx i hi
      obtain ⟨z, e0, -, w0⟩ := DataW.trod_int he h2
      obtain h3 : V i = .int k z := by simpa [hce] using e0
      exact ⟨z, w0, by rw [h1, h3]⟩
    obtain ⟨E, hE⟩ := choose_lt key
    refine ⟨(List.range len).map E, .inr ⟨a.block, a.off, m, ?_, ?_, hm, hlt, fun j u hj => ?_⟩, fun z hz => ?_⟩
    · rw [List.length_map, List.length_range]
      rcases a with ⟨b, o, sp⟩
      obtain rfl : sp = none := hsp
      rfl
    · rw [List.length_map, List.length_range]; exact hl
    · have hjl := (List.getElem?_eq_some_iff.1 hj).1
      simp only [List.length_map, List.length_range] at hjl
      have h1 := (hE j (by omega)).2
      have h2 : u = .int k (E j) := by
        have := hj
        simp [hjl] at this
        exact this.symm
      rw [h2, ← h1]
      rcases a with ⟨b, o, sp⟩
      obtain rfl : sp = none := hsp
      have e : (Addr.mk b o none).add j = ⟨b, o + j, none⟩ := by unfold Addr.add; split <;> simp_all
      rw [← e]
    · obtain ⟨i, hi, rfl⟩ := List.mem_map.1 hz
      exact (hE i (by have := List.mem_range.1 hi; omega)).1
end
end Go.Proofs.Ythpgeeaccmgbkaa

/- Arguments of the rows, opened: a list of integers of any size. -/
namespace Go.Proofs.Ythpgeeaccmgbkaa
open Go.RowKit Go.ChangeShapes Go.WideShapes Go.Deep Go.Joins

section
variable {H : Type} {enc : TypeId × Value → H}
set_option maxRecDepth 100000 in
/-- A list of integers handed in. -/
theorem open_nums {W : World} {base : Nat} {v : Value} {d : DataW H} {p : List MemPlace} (hval : Value.okWide Try.prog W .any base 38 v) (h : DataW.Trod enc Try.prog W 0 (fun _ => true) true 38 v d p) :
    ∃ l : List (Bool × ByteArray), Row W v l.length (cnv l) := by
  have hc : Cell.okWide Try.prog W .any base 38 v := by
    unfold Value.okWide at hval
    rw [Try.underlying38] at hval
    exact hval
  obtain ⟨n, h1⟩ := h
  obtain ⟨a0, b0, c0, rfl⟩ : ∃ a b c, v = .slice a b c := by
    unfold Cell.okWide Cell.ok at hc
    rw [Try.underlying38] at hc
    cases v <;> simp at hc <;> exact ⟨_, _, _, rfl⟩
  have h1' : DataW.trod enc Try.prog W 0 (fun _ => true) true n 38 [.slice a0 b0 c0] = some (d, p) := h1
  rcases open_slice Try.underlying38 h1' with ⟨hs, -⟩ | ⟨a, len, cap, m, n', D, Pl, hs, -, hl, hm, hmm, -, hx⟩
  · obtain ⟨rfl, rfl, rfl⟩ : a0 = none ∧ b0 = 0 ∧ c0 = 0 := by simpa using hs
    exact ⟨[], .inl ⟨rfl, rfl, rfl⟩⟩
  · obtain ⟨rfl, rfl, rfl⟩ : a0 = some a ∧ b0 = len ∧ c0 = cap := by simpa using hs
    simp only [if_true] at hmm
    subst hmm
    obtain ⟨hsp, hlt⟩ := cell_ok_slice Try.underlying38 hc
    have key : ∀ i, i < m → ∃ x : Bool × ByteArray, W.cell? (a.add (i * 2)) = some (.bool x.1) ∧ W.cell? (a.add (i * 2 + 1)) = some (.string x.2) := by
      intro i hi
      obtain ⟨cs', h3, h2⟩ := hx i hi
      rw [cellsInt2] at h3
      obtain ⟨-, hlen, hget⟩ := World.cells?_some h3
      obtain ⟨y0, y1, k, -, -, t0, t1⟩ := trod_struct2 Try.underlying28 h2
      match cs', hlen with
      | [u0, u1], _ =>
        obtain ⟨ng, e0, -⟩ := DataW.trod_bool Try.underlying4 t0
        obtain ⟨sg, e1, -, hs⟩ := DataW.trod_string Try.underlying9 t1
        have q0 : u0 = .bool ng := by simpa [show Try.prog.cellsOf 4 = 1 from by kernel_rfl] using e0
        have q1 : u1 = .string sg := by simpa [show Try.prog.cellsOf 9 = 1 from by kernel_rfl] using e1
        subst q0 q1
        refine ⟨(ng, sg), ?_, ?_⟩
        · have := hget 0 (by simp)
          rw [add_add] at this
          simpa using this
        · have := hget 1 (by simp)
          rw [add_add] at this
          simpa using this
    obtain ⟨E, hE⟩ := choose_lt key
    refine ⟨(List.range b0).map E, .inr ⟨a.block, a.off, m, ?_, ?_, ?_, hlt, fun j u hj => ?_⟩⟩
    · rw [List.length_map, List.length_range]
      rcases a with ⟨b, o, sp⟩
      obtain rfl : sp = none := hsp
      rfl
    · rw [List.length_map, List.length_range]; exact hl
    · exact hm
    · have hlc : (cnv ((List.range b0).map E)).length = b0 * 2 := by
        have : ∀ l : List (Bool × ByteArray), (cnv l).length = l.length * 2 := fun l => by
          induction l with
          | nil => rfl
          | cons y l ih =>
            have e : cnv (y :: l) = [.bool y.1, .string y.2] ++ cnv l := rfl
            rw [e, List.length_append, ih, List.length_cons]
            simp; omega
        rw [this, List.length_map, List.length_range]
      have hjl := (List.getElem?_eq_some_iff.1 hj).1
      rw [hlc] at hjl
      have hi : j / 2 < b0 := by omega
      have h5 := hE (j / 2) (by omega)
      have hg : ((List.range b0).map E)[j / 2]? = some (E (j / 2)) := by simp [hi]
      have h6 := cnv_get hg
      rcases a with ⟨b, o, sp⟩
      obtain rfl : sp = none := hsp
      have e : ∀ k, (Addr.mk b o none).add k = ⟨b, o + k, none⟩ := fun k => by unfold Addr.add; split <;> simp_all
      rw [e, e] at h5
      rcases Nat.mod_two_eq_zero_or_one j with h0 | h0
      · have hj2 : j / 2 * 2 = j := by omega
        rw [hj2] at h5 h6
        have h7 := h6.1
        rw [hj] at h7
        obtain rfl := Option.some.inj h7
        exact h5.1
      · have hj2 : j / 2 * 2 + 1 = j := by omega
        rw [hj2] at h5 h6
        have h7 := h6.2
        rw [hj] at h7
        obtain rfl := Option.some.inj h7
        exact h5.2
end
end Go.Proofs.Ythpgeeaccmgbkaa


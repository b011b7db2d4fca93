/- Contracts and plain laws of several functions, one after the other: RowG, CmpP, Marks. -/
import Derived.Lib.SmallJoins
import Derived.Deep.Slices
import Derived.Deep.Strs
import Derived.Carry
import Derived.RangeFuncNested
import Derived.RangeFuncBound
import Derived.RangeFuncCalls
import Derived.RangeFuncLeaves
import Derived.RangeFuncBox
import Derived.RangeFuncOne
import Derived.Shelf.Abstract
import Derived.WalkKit
import Derived.Test.YthpgeeaccmgbkaaCheck
/- Arguments of the rows, opened: a graph, an integer. -/
namespace Go.Proofs.Ythpgeeaccmgbkaa
open Go.RowKit Go.ChangeShapes Go.WideShapes Go.Deep Go.Joins

theorem wf_i64' {a : Int} (h : (Lit.int .i64 a).wf = true) : -9223372036854775808 ≤ a ∧ a ≤ 9223372036854775807 := by
  rw [Lit.wf, Bool.and_eq_true, decide_eq_true_eq, decide_eq_true_eq] at h
  exact h
theorem cellsGraph : Try.prog.cellsOf 24 = 3 := by kernel_rfl
theorem cellsEdge : Try.prog.cellsOf 48 = 3 := by kernel_rfl
theorem cellsI : Try.prog.cellsOf 3 = 1 := by kernel_rfl
theorem cellsInt2 : Try.prog.cellsOf 28 = 2 := by kernel_rfl
theorem ctGraph : Try.prog.cellTypes Try.prog.depth 24 = some [3, 3, 22] := by kernel_rfl
theorem cell_ok_slice {P : Program} {w : World} {r : Reach} {base : Nat} {t e : TypeId} {a : Addr} {len cap : Nat} (ht : P.underlying t = some (.slice e)) (h : Cell.okWide P w r base t (.slice (some a) len cap)) : a.spot = none ∧ a.block < w.heap.size := by
  unfold Cell.okWide Cell.ok at h
  rw [ht] at h
  obtain ⟨-, -, -, hsp, row, cells, hsh, -⟩ := h
  refine ⟨hsp, ?_⟩
  rcases Nat.lt_or_ge a.block w.heap.size with h' | h'
  · exact h'
  · simp [World.shape?, Array.getElem?_eq_none h'] at hsh
theorem okWide_cell {P : Program} {w : World} {r : Reach} {base : Nat} {t u : TypeId} {fs : Array Field} {cs : Array Value} {ts : List TypeId} {i : Nat} {v : Value} (ht : P.underlying t = some (.struct fs)) (hct : P.cellTypes P.depth t = some ts) (h : Value.okWide P w r base t (.agg cs)) (hi : cs[i]? = some v) (hu : ts[i]? = some u) : Cell.okWide P w r base u v := by
  unfold Value.okWide at h
  rw [ht] at h
  obtain ⟨cs', e, -, ts', hts, -, hall⟩ := h
  obtain rfl : cs = cs' := by cases e; rfl
  rw [hct] at hts
  obtain rfl := Option.some.inj hts
  obtain ⟨u', hu', hc⟩ := hall i v hi
  have hil : i < ts.length := (List.getElem?_eq_some_iff.1 hu).1
  rw [Nat.mod_eq_of_lt hil, hu] at hu'
  obtain rfl := Option.some.inj hu'
  exact hc
section
variable {H : Type} {enc : TypeId × Value → H}
set_option maxRecDepth 100000 in
/-- What a slice of edges holds. -/
theorem open_edges {W : World} {base n : Nat} {sv : Value} {x : DataW H × List MemPlace} (hc : Cell.okWide Try.prog W .any base 22 sv) (h : DataW.trod enc Try.prog W 0 (fun _ => true) true n 22 [sv] = some x) :
    ∃ es : List E3, Row W sv es.length (ce es) ∧ okEs es := by
  rcases open_slice Try.underlying22 h with ⟨hs, -⟩ | ⟨a, len, cap, m, n', D, Pl, hs, -, hl, hm, hmm, -, hx⟩
  · obtain rfl : sv = .slice none 0 0 := by simpa using hs
    exact ⟨[], .inl ⟨rfl, rfl, rfl⟩, fun e he => by cases he⟩
  · obtain rfl : sv = .slice (some a) len cap := by simpa using hs
    simp only [if_true] at hmm
    subst hmm
    obtain ⟨hsp, hlt⟩ := cell_ok_slice Try.underlying22 hc
    have key : ∀ i, i < m → ∃ e : E3, e.ok ∧ ∀ j u, e.cells[j]? = some u → W.cell? (a.add (i * 3 + j)) = some u := by
      intro i hi
      obtain ⟨cs', h1, h2⟩ := hx i hi
      rw [cellsEdge] at h1
      obtain ⟨-, hlen, hget⟩ := World.cells?_some h1
      obtain ⟨y0, y1, y2, k, -, -, t0, t1, t2⟩ := trod_struct3 Try.underlying48 h2
      match cs', hlen with
      | [c0, c1, c2], _ =>
        obtain ⟨f, e0, -, w0⟩ := DataW.trod_int Try.underlying3 t0
        obtain ⟨l, e1, -, w1⟩ := DataW.trod_int Try.underlying3 t1
        obtain ⟨t, e2, -, w2⟩ := DataW.trod_int Try.underlying3 t2
        have q0 : c0 = .int .i64 f := by simpa [cellsI] using e0
        have q1 : c1 = .int .i64 l := by simpa [cellsI] using e1
        have q2 : c2 = .int .i64 t := by simpa [cellsI] using e2
        subst q0 q1 q2
        refine ⟨⟨f, l, t⟩, ?_, fun j u hj => ?_⟩
        · intro z hz
          simp only [List.mem_cons, List.not_mem_nil, or_false] at hz
          rcases hz with rfl | rfl | rfl
          · exact wf_i64' w0
          · exact wf_i64' w1
          · exact wf_i64' w2
        · have hj3 : j < 3 := by
            have := (List.getElem?_eq_some_iff.1 hj).1
            simpa [E3.cells] using this
          rw [← add_add, hget j hj3]
          exact hj
    obtain ⟨E, hE⟩ := choose_lt key
    refine ⟨(List.range len).map E, .inr ⟨a.block, a.off, m, ?_, ?_, ?_, hlt, fun j u hj => ?_⟩, fun e he => ?_⟩
    · rw [List.length_map, List.length_range]
      rcases a with ⟨b, o, sp⟩
      obtain rfl : sp = none := hsp
      rfl
    · rw [List.length_map, List.length_range]; exact hl
    · exact hm
    · have hjl := (List.getElem?_eq_some_iff.1 hj).1
      rw [ce_length, List.length_map, List.length_range] at hjl
      have hi : j / 3 < len := by omega
      have h1 := (hE (j / 3) (by omega)).2 (j % 3)
      have hg : ((List.range len).map E)[j / 3]? = some (E (j / 3)) := by simp [hi]
      obtain ⟨c, hc'⟩ : ∃ c, (E (j / 3)).cells[j % 3]? = some c := ⟨(E (j / 3)).cells[j % 3]'(by simp [E3.cells]; omega), List.getElem?_eq_getElem _⟩
      have h2 := ce_get hg hc'
      rw [show j / 3 * 3 + j % 3 = j by omega, hj] at h2
      obtain rfl := Option.some.inj h2
      have h3 := h1 _ hc'
      rw [show j / 3 * 3 + j % 3 = j by omega] at h3
      rcases a with ⟨b, o, sp⟩
      obtain rfl : sp = none := hsp
      have e : (Addr.mk b o none).add j = ⟨b, o + j, none⟩ := by unfold Addr.add; split <;> simp_all
      rw [← e]; exact h3
    · obtain ⟨i, hi, rfl⟩ := List.mem_map.1 he
      exact (hE i (by have := List.mem_range.1 hi; omega)).1
set_option maxRecDepth 100000 in
/-- A graph handed in. -/
theorem open_graph {W : World} {base : Nat} {v : Value} {d : DataW H} {p : List MemPlace} (hval : Value.okWide Try.prog W .any base 24 v) (h : DataW.Trod enc Try.prog W 0 (fun _ => true) true 24 v d p) :
    ∃ (L S : Int) (es : List E3) (sv : Value), v = .agg #[.int .i64 L, .int .i64 S, sv] ∧ Row W sv es.length (ce es) ∧ okEs es ∧ (Lit.int .i64 L).wf = true ∧ (Lit.int .i64 S).wf = true := by
  obtain ⟨v0, v1, v2, y0, y1, y2, n, rfl, -, -, t0, t1, t2⟩ := open_agg3 Try.underlying24 (by kernel_rfl) cellsGraph hval h
  obtain ⟨L, e0, -, w0⟩ := DataW.trod_int Try.underlying3 t0
  obtain ⟨S, e1, -, w1⟩ := DataW.trod_int Try.underlying3 t1
  obtain rfl : v0 = .int .i64 L := by simpa using e0
  obtain rfl : v1 = .int .i64 S := by simpa using e1
  obtain ⟨es, hr, hok⟩ := open_edges (okWide_cell (i := 2) Try.underlying24 ctGraph hval rfl rfl) t2
  exact ⟨L, S, es, v2, rfl, hr, hok, w0, w1⟩
set_option maxRecDepth 100000 in
/-- An integer of any size handed in. -/
theorem open_num {W : World} {base : Nat} {v : Value} {d : DataW H} {p : List MemPlace} (hval : Value.okWide Try.prog W .any base 28 v) (h : DataW.Trod enc Try.prog W 0 (fun _ => true) true 28 v d p) :
    ∃ (ng : Bool) (s : ByteArray), v = .agg #[.bool ng, .string s] ∧ s.size ≤ maxLen := by
  obtain ⟨v0, v1, y0, y1, n, rfl, -, -, t0, t1⟩ := open_agg2 Try.underlying28 (by kernel_rfl) cellsInt2 hval h
  obtain ⟨ng, e0, -⟩ := DataW.trod_bool Try.underlying4 t0
  obtain ⟨s, e1, -, hs⟩ := DataW.trod_string Try.underlying9 t1
  obtain rfl : v0 = .bool ng := by simpa using e0
  obtain rfl : v1 = .string s := by simpa using e1
  exact ⟨ng, s, rfl, hs⟩
end
end Go.Proofs.Ythpgeeaccmgbkaa

/- The order of edges, in plain Lean. -/
namespace Go.Proofs.Ythpgeeaccmgbkaa
open Go.RowKit

theorem cmpE_lt2 (a b : E3) : cmpE a b < 0 ↔ a.f < b.f ∨ (a.f = b.f ∧ (a.l < b.l ∨ (a.l = b.l ∧ a.t < b.t))) := by
  have h : ∀ x y : Int, (cmpI x y = 0 ↔ x = y) ∧ (cmpI x y < 0 ↔ x < y) := by
    intro x y
    unfold cmpI
    by_cases h1 : x < y
    · simp [h1]; omega
    · by_cases h2 : y < x
      · simp [h1, h2]; omega
      · simp [h1, h2]; omega
  have e : cmpE a b = if cmpI a.f b.f = 0 then (if cmpI a.l b.l = 0 then (if cmpI a.t b.t = 0 then 0 else cmpI a.t b.t) else cmpI a.l b.l) else cmpI a.f b.f := rfl
  rw [e]
  by_cases h1 : cmpI a.f b.f = 0
  · rw [if_pos h1]
    have h1' := (h _ _).1.1 h1
    by_cases h2 : cmpI a.l b.l = 0
    · rw [if_pos h2]
      have h2' := (h _ _).1.1 h2
      by_cases h3 : cmpI a.t b.t = 0
      · rw [if_pos h3]
        have h3' := (h _ _).1.1 h3
        omega
      · rw [if_neg h3, (h _ _).2]; omega
    · rw [if_neg h2, (h _ _).2]
      have := mt (h a.l b.l).1.2 h2
      omega
  · rw [if_neg h1, (h _ _).2]
    have := mt (h a.f b.f).1.2 h1
    omega
end Go.Proofs.Ythpgeeaccmgbkaa

/- Marks of loops over functions: blocks that hold no calls; what an owner keeps. -/
namespace Go.Proofs.Ythpgeeaccmgbkaa
open Go.RowKit Go.Shelf

def mkD (D : Nat) : Deferred := { target := .collected D, args := #[] }
theorem ownFrom_ds {β : Type} {B N : Nat} {Ds : List Nat} (h : ∀ D ∈ Ds, D < B) : OwnFrom B (fun (_ : β) W => (∀ D ∈ Ds, W.heap[D]? = some (.deferred (some []))) ∧ N ≤ W.heap.size) := by
  intro s X Y row hs hg hr
  refine ⟨fun D hD => ?_, Nat.le_trans hs.2 hg.size⟩
  have hX := hs.1 D hD
  refine (hg.block D (Array.getElem?_eq_some_iff.1 hX).1 (fun e => ?_)).trans hX
  have := (hr D e.symm).1
  have := h D hD
  omega
theorem blk_ownF {B b : Nat} {t : TypeId} {xs : List Value} : OwnFrom B (fun (_ : Unit) W => Blk W b t xs) := by
  intro s X Y row hs hg hr
  refine hs.of_block (hg.block b hs.lt (fun e => ?_))
  obtain ⟨_, o, ho, hc⟩ := hr b e.symm
  unfold Blk at hs
  rw [hs] at ho
  cases ho; cases hc
/-- Leaving with marks whose blocks hold no calls. -/
theorem leaves_marks {F : Fence} {n : Nat} {P : Program} {fn : Func} {tmps : Array Value} {R : Ending → World → Prop} (B : Nat) (Kx : World → Prop)
    (hst : ∀ W D, B ≤ D → Kx W → W.heap[D]? = some (.deferred (some [])) → Kx (W.putObj D (.deferred none))) (hfin : ∀ W, Kx W → LeavesInM F n P fn tmps R [] .returning W) :
    ∀ (Ds : List Nat) (W : World), Kx W → (∀ D ∈ Ds, W.heap[D]? = some (.deferred (some []))) → Ds.Nodup → (∀ D ∈ Ds, B ≤ D) → LeavesInM F n P fn tmps R (Ds.map mkD) .returning W
  | [], W, hk, _, _, _ => hfin W hk
  | D :: Ds, W, hk, hD, hnd, hB => by
    rw [List.nodup_cons] at hnd
    refine ⟨by simp, .inl ⟨D, _, rfl, run_takeDeferred (hD D (by simp)), ?_⟩⟩
    refine leaves_marks B Kx hst hfin Ds _ (hst W D (hB D (by simp)) hk (hD D (by simp))) (fun D' hD' => ?_) hnd.2 (fun D' hD' => hB D' (by simp [hD']))
    have hne : D' ≠ D := fun e => hnd.1 (e ▸ hD')
    exact (World.putObj_heap_other hne).trans (hD D' (by simp [hD']))
/-- A block whose cells hang on the state. -/
theorem blk_ownS {β : Type} {B b : Nat} {t : TypeId} (f : β → List Value) : OwnFrom B (fun (s : β) W => Blk W b t (f s)) := by
  intro s X Y row hs hg hr
  exact blk_ownF (B := B) () X Y row hs hg hr
theorem ownFrom_pred {β : Type} (B : Nat) (q : β → Prop) : OwnFrom B (fun s (_ : World) => q s) := fun _ _ _ _ hs _ _ => hs
end Go.Proofs.Ythpgeeaccmgbkaa


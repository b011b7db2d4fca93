/- Contracts and plain laws of several functions, one after the other: RowG, CmpP, Col, Marks. -/
import Derived.Lib.SmallJoins
import Derived.Deep.Slices
import Derived.Deep.Strs
import Derived.Carry
import Derived.RangeFuncNested
import Derived.RangeFuncBound
import Derived.RangeFuncCalls
import Derived.RangeFuncLeaves
import Derived.RangeFuncBox
import Derived.RangeFuncOne
import Derived.Shelf.Abstract
import Derived.Shelf.RegionOpen
import Derived.WalkKit
import Derived.OwnWalkIn
import Derived.TacticsInMore
import Derived.LoopNIn
import Derived.LoopIn
import Derived.Maps.AppendAt
import Derived.Test.YthpgeeaccmgbkaaGreatCheck
import Derived.Test.YthpgeeaccmgbkaaGreatPart17
/- Arguments of the rows, opened: a graph, an integer. -/
namespace Go.Proofs.YthpgeeaccmgbkaaGreat
open Go.RowKit Go.ChangeShapes Go.WideShapes Go.Deep Go.Joins

theorem wf_i64' {a : Int} (h : (Lit.int .i64 a).wf = true) : -9223372036854775808 ≤ a ∧ a ≤ 9223372036854775807 := by
  rw [Lit.wf, Bool.and_eq_true, decide_eq_true_eq, decide_eq_true_eq] at h
  exact h
theorem cellsGraph : Tryz.prog.cellsOf 24 = 3 := by kernel_rfl
theorem cellsEdge : Tryz.prog.cellsOf 53 = 3 := by kernel_rfl
theorem cellsI : Tryz.prog.cellsOf 3 = 1 := by kernel_rfl
theorem cellsInt2 : Tryz.prog.cellsOf 28 = 2 := by kernel_rfl
theorem ctGraph : Tryz.prog.cellTypes Tryz.prog.depth 24 = some [3, 3, 22] := by kernel_rfl
theorem cell_ok_slice {P : Program} {w : World} {r : Reach} {base : Nat} {t e : TypeId} {a : Addr} {len cap : Nat} (ht : P.underlying t = some (.slice e)) (h : Cell.okWide P w r base t (.slice (some a) len cap)) : a.spot = none ∧ a.block < w.heap.size := by
  unfold Cell.okWide Cell.ok at h
  rw [ht] at h
  obtain ⟨-, -, -, hsp, row, cells, hsh, -⟩ := h
  refine ⟨hsp, ?_⟩
  rcases Nat.lt_or_ge a.block w.heap.size with h' | h'
  · exact h'
  · simp [World.shape?, Array.getElem?_eq_none h'] at hsh
theorem okWide_cell {P : Program} {w : World} {r : Reach} {base : Nat} {t u : TypeId} {fs : Array Field} {cs : Array Value} {ts : List TypeId} {i : Nat} {v : Value} (ht : P.underlying t = some (.struct fs)) (hct : P.cellTypes P.depth t = some ts) (h : Value.okWide P w r base t (.agg cs)) (hi : cs[i]? = some v) (hu : ts[i]? = some u) : Cell.okWide P w r base u v := by
  unfold Value.okWide at h
  rw [ht] at h
  obtain ⟨cs', e, -, ts', hts, -, hall⟩ := h
  obtain rfl : cs = cs' := by cases e; rfl
  rw [hct] at hts
  obtain rfl := Option.some.inj hts
  obtain ⟨u', hu', hc⟩ := hall i v hi
  have hil : i < ts.length := (List.getElem?_eq_some_iff.1 hu).1
  rw [Nat.mod_eq_of_lt hil, hu] at hu'
  obtain rfl := Option.some.inj hu'
  exact hc
section
variable {H : Type} {enc : TypeId × Value → H}
set_option maxRecDepth 100000 in
/-- What a slice of edges holds. -/
theorem open_edges {W : World} {base n : Nat} {sv : Value} {x : DataW H × List MemPlace} (hc : Cell.okWide Tryz.prog W .any base 22 sv) (h : DataW.trod enc Tryz.prog W 0 (fun _ => true) true n 22 [sv] = some x) :
    ∃ es : List E3, Row W sv es.length (ce es) ∧ okEs es := by
  rcases open_slice Tryz.underlying22 h with ⟨hs, -⟩ | ⟨a, len, cap, m, n', D, Pl, hs, -, hl, hm, hmm, -, hx⟩
  · obtain rfl : sv = .slice none 0 0 := by simpa using hs
    exact ⟨[], .inl ⟨rfl, rfl, rfl⟩, fun e he => by cases he⟩
  · obtain rfl : sv = .slice (some a) len cap := by simpa using hs
    simp only [if_true] at hmm
    subst hmm
    obtain ⟨hsp, hlt⟩ := cell_ok_slice Tryz.underlying22 hc
    have key : ∀ i, i < m → ∃ e : E3, e.ok ∧ ∀ j u, e.cells[j]? = some u → W.cell? (a.add (i * 3 + j)) = some u := by
      intro i hi
      obtain ⟨cs', h1, h2⟩ := hx i hi
      rw [cellsEdge] at h1
      obtain ⟨-, hlen, hget⟩ := World.cells?_some h1
      obtain ⟨y0, y1, y2, k, -, -, t0, t1, t2⟩ := trod_struct3 Tryz.underlying53 h2
      match cs', hlen with
      | [c0, c1, c2], _ =>
        obtain ⟨f, e0, -, w0⟩ := DataW.trod_int Tryz.underlying3 t0
        obtain ⟨l, e1, -, w1⟩ := DataW.trod_int Tryz.underlying3 t1
        obtain ⟨t, e2, -, w2⟩ := DataW.trod_int Tryz.underlying3 t2
        have q0 : c0 = .int .i64 f := by simpa [cellsI] using e0
        have q1 : c1 = .int .i64 l := by simpa [cellsI] using e1
        have q2 : c2 = .int .i64 t := by simpa [cellsI] using e2
        subst q0 q1 q2
        refine ⟨⟨f, l, t⟩, ?_, fun j u hj => ?_⟩
        · intro z hz
          simp only [List.mem_cons, List.not_mem_nil, or_false] at hz
          rcases hz with rfl | rfl | rfl
          · exact wf_i64' w0
          · exact wf_i64' w1
          · exact wf_i64' w2
        · have hj3 : j < 3 := by
            have := (List.getElem?_eq_some_iff.1 hj).1
            simpa [E3.cells] using this
          rw [← add_add, hget j hj3]
          exact hj
    obtain ⟨E, hE⟩ := choose_lt key
    refine ⟨(List.range len).map E, .inr ⟨a.block, a.off, m, ?_, ?_, ?_, hlt, fun j u hj => ?_⟩, fun e he => ?_⟩
    · rw [List.length_map, List.length_range]
      rcases a with ⟨b, o, sp⟩
      obtain rfl : sp = none := hsp
      rfl
    · rw [List.length_map, List.length_range]; exact hl
    · exact hm
    · have hjl := (List.getElem?_eq_some_iff.1 hj).1
      rw [ce_length, List.length_map, List.length_range] at hjl
      have hi : j / 3 < len := by omega
      have h1 := (hE (j / 3) (by omega)).2 (j % 3)
      have hg : ((List.range len).map E)[j / 3]? = some (E (j / 3)) := by simp [hi]
      obtain ⟨c, hc'⟩ : ∃ c, (E (j / 3)).cells[j % 3]? = some c := ⟨(E (j / 3)).cells[j % 3]'(by simp [E3.cells]; omega), List.getElem?_eq_getElem _⟩
      have h2 := ce_get hg hc'
      rw [show j / 3 * 3 + j % 3 = j by omega, hj] at h2
      obtain rfl := Option.some.inj h2
      have h3 := h1 _ hc'
      rw [show j / 3 * 3 + j % 3 = j by omega] at h3
      rcases a with ⟨b, o, sp⟩
      obtain rfl : sp = none := hsp
      have e : (Addr.mk b o none).add j = ⟨b, o + j, none⟩ := by unfold Addr.add; split <;> simp_all
      rw [← e]; exact h3
    · obtain ⟨i, hi, rfl⟩ := List.mem_map.1 he
      exact (hE i (by have := List.mem_range.1 hi; omega)).1
set_option maxRecDepth 100000 in
/-- A graph handed in. -/
theorem open_graph {W : World} {base : Nat} {v : Value} {d : DataW H} {p : List MemPlace} (hval : Value.okWide Tryz.prog W .any base 24 v) (h : DataW.Trod enc Tryz.prog W 0 (fun _ => true) true 24 v d p) :
    ∃ (L S : Int) (es : List E3) (sv : Value), v = .agg #[.int .i64 L, .int .i64 S, sv] ∧ Row W sv es.length (ce es) ∧ okEs es ∧ (Lit.int .i64 L).wf = true ∧ (Lit.int .i64 S).wf = true := by
  obtain ⟨v0, v1, v2, y0, y1, y2, n, rfl, -, -, t0, t1, t2⟩ := open_agg3 Tryz.underlying24 (by kernel_rfl) cellsGraph hval h
  obtain ⟨L, e0, -, w0⟩ := DataW.trod_int Tryz.underlying3 t0
  obtain ⟨S, e1, -, w1⟩ := DataW.trod_int Tryz.underlying3 t1
  obtain rfl : v0 = .int .i64 L := by simpa using e0
  obtain rfl : v1 = .int .i64 S := by simpa using e1
  obtain ⟨es, hr, hok⟩ := open_edges (okWide_cell (i := 2) Tryz.underlying24 ctGraph hval rfl rfl) t2
  exact ⟨L, S, es, v2, rfl, hr, hok, w0, w1⟩
set_option maxRecDepth 100000 in
/-- An integer of any size handed in. -/
theorem open_num {W : World} {base : Nat} {v : Value} {d : DataW H} {p : List MemPlace} (hval : Value.okWide Tryz.prog W .any base 28 v) (h : DataW.Trod enc Tryz.prog W 0 (fun _ => true) true 28 v d p) :
    ∃ (ng : Bool) (s : ByteArray), v = .agg #[.bool ng, .string s] ∧ s.size ≤ maxLen := by
  obtain ⟨v0, v1, y0, y1, n, rfl, -, -, t0, t1⟩ := open_agg2 Tryz.underlying28 (by kernel_rfl) cellsInt2 hval h
  obtain ⟨ng, e0, -⟩ := DataW.trod_bool Tryz.underlying4 t0
  obtain ⟨s, e1, -, hs⟩ := DataW.trod_string Tryz.underlying9 t1
  obtain rfl : v0 = .bool ng := by simpa using e0
  obtain rfl : v1 = .string s := by simpa using e1
  exact ⟨ng, s, rfl, hs⟩
end
end Go.Proofs.YthpgeeaccmgbkaaGreat

/- The order of edges, in plain Lean. -/
namespace Go.Proofs.YthpgeeaccmgbkaaGreat
open Go.RowKit

theorem cmpE_lt2 (a b : E3) : cmpE a b < 0 ↔ a.f < b.f ∨ (a.f = b.f ∧ (a.l < b.l ∨ (a.l = b.l ∧ a.t < b.t))) := by
  have h : ∀ x y : Int, (cmpI x y = 0 ↔ x = y) ∧ (cmpI x y < 0 ↔ x < y) := by
    intro x y
    unfold cmpI
    by_cases h1 : x < y
    · simp [h1]; omega
    · by_cases h2 : y < x
      · simp [h1, h2]; omega
      · simp [h1, h2]; omega
  have e : cmpE a b = if cmpI a.f b.f = 0 then (if cmpI a.l b.l = 0 then (if cmpI a.t b.t = 0 then 0 else cmpI a.t b.t) else cmpI a.l b.l) else cmpI a.f b.f := rfl
  rw [e]
  by_cases h1 : cmpI a.f b.f = 0
  · rw [if_pos h1]
    have h1' := (h _ _).1.1 h1
    by_cases h2 : cmpI a.l b.l = 0
    · rw [if_pos h2]
      have h2' := (h _ _).1.1 h2
      by_cases h3 : cmpI a.t b.t = 0
      · rw [if_pos h3]
        have h3' := (h _ _).1.1 h3
        omega
      · rw [if_neg h3, (h _ _).2]; omega
    · rw [if_neg h2, (h _ _).2]
      have := mt (h a.l b.l).1.2 h2
      omega
  · rw [if_neg h1, (h _ _).2]
    have := mt (h a.f b.f).1.2 h1
    omega
end Go.Proofs.YthpgeeaccmgbkaaGreat

/- matrix.column: an iterator over a column. -/
namespace Go.Proofs.YthpgeeaccmgbkaaGreat
open Go.RowKit Go.Shelf

attribute [local go_sem] Oper.semAt_some

/-- The first j elements of column k, with their indices. -/
def colL (rows : List (List Int)) (k : Nat) (j : Nat) : List (Nat × Int) := (List.range j).map fun i => (i, (rows.getD i []).getD k 0)
theorem colL_succ (rows : List (List Int)) (k j : Nat) : colL rows k (j + 1) = colL rows k j ++ [(j, (rows.getD j []).getD k 0)] := by
  simp [colL, List.range_succ]
theorem colL_length (rows : List (List Int)) (k j : Nat) : (colL rows k j).length = j := by simp [colL]

/-- What a round keeps: all blocks below n₀, and the two boxes of the iterator. -/
structure cKpS (n₀ Bg Bs : Nat) (X Y : World) : Prop where
  bel : Below n₀ X Y
  g : Y.heap[Bg]? = X.heap[Bg]?
  s : Y.heap[Bs]? = X.heap[Bs]?
theorem cKpS.refl (n₀ Bg Bs : Nat) (X : World) : cKpS n₀ Bg Bs X X := ⟨Below.refl _ _, rfl, rfl⟩
theorem cKpS.trans {n₀ Bg Bs : Nat} {X Y Z : World} (h : cKpS n₀ Bg Bs X Y) (k : cKpS n₀ Bg Bs Y Z) : cKpS n₀ Bg Bs X Z := ⟨h.bel.trans k.bel, k.g.trans h.g, k.s.trans h.s⟩
theorem cKpS.alloc {n₀ Bg Bs : Nat} {X Y : World} (h : cKpS n₀ Bg Bs X Y) (h0 : n₀ ≤ Y.heap.size) (h1 : Bg < Y.heap.size) (h2 : Bs < Y.heap.size) (o : Obj) : cKpS n₀ Bg Bs X (Y.alloc o) :=
  ⟨h.bel.alloc h0 o, (Below.heap_alloc _ _ _ h1).trans h.g, (Below.heap_alloc _ _ _ h2).trans h.s⟩
theorem ckpS_b {n₀ Bg Bs : Nat} {w : World} (hn : n₀ ≤ w.heap.size) (h1 : Bg < w.heap.size) (h2 : Bs < w.heap.size) (W : World) (l : Nat) (o o' : Obj) (hl : w.heap.size ≤ l) (h : W.heap[l]? = some o) (_ : o.isCells = false) (_ : o.isWalk = false) : cKpS n₀ Bg Bs W (W.putObj l o') :=
  ⟨(Below.refl n₀ W).grown (grownBy_putObj' W l o') (by have := (Array.getElem?_eq_some_iff.1 h).1; omega) (fun k e => by cases e; omega), World.putObj_heap_other (by omega), World.putObj_heap_other (by omega)⟩

set_option maxRecDepth 100000 in
set_option maxHeartbeats 2000000 in
theorem column1_in (F : Fence) (n : Nat) (h6 : F.fn 157) (hro : F.round = none) (hn : 1 ≤ n) (l Bm Bk k : Nat) (rows : List (List Int)) (v : Value) (B0 : Nat) (w0 : World) (hT : Tab w0 v rows) (hk : ∀ r ∈ rows, k < r.length) {α : Type} (en : α → Nat × Int) (L : List α) (hL : L.map en = colL rows k rows.length) (J Jx : List α → World → Prop)
    (hJ : AbidesFrom B0 J)
    (hY : ∀ pre x W, J pre W → pre.length < rows.length → YieldAt F (n - 1) Tryz.prog l #[.int .i64 (((en x).1 : Nat) : Int), .agg #[.bool (ineg (en x).2), .string (imag (en x).2)]] W fun e W' =>
      (e = .returned (.bool true) ∧ J (pre ++ [x]) W' ∧ cKpS w0.heap.size Bm Bk W W') ∨ (e = .returned (.bool false) ∧ Jx (pre ++ [x]) W'))
    (W : World) (hB0 : B0 ≤ W.heap.size) (h0W : Below w0.heap.size w0 W) (hBm : Bm < W.heap.size) (hBk : Bk < W.heap.size) (hm : W.cell? ⟨Bm, 0, none⟩ = some v) (hs : W.cell? ⟨Bk, 0, none⟩ = some (.int .i64 (k : Int))) (h0 : J [] W) :
    CallsIn F n Tryz.prog 157 #[.func (.yield l) #[] #[], .pointer (some ⟨Bm, 0, none⟩), .pointer (some ⟨Bk, 0, none⟩)] W fun e W' => (∃ v, e = .returned v) ∧
      ((∃ ys, ys = L ∧ J ys W') ∨ (∃ pre, True ∧ Jx pre W')) := by
  obtain ⟨rvs, hl, hr, hrr⟩ := hT
  obtain ⟨a, cap, rfl, hcap⟩ := hr.slice
  obtain ⟨N, hN⟩ : ∃ N, N = rows.length := ⟨_, rfl⟩
  have hLl : L.length = N := by rw [hN, ← colL_length rows k rows.length, ← hL, List.length_map]
  have hLg : ∀ j, j < N → ∀ x, L[j]? = some x → en x = (j, (rows.getD j []).getD k 0) := fun j hj x hx => by
    have h1 : (L.map en)[j]? = some (en x) := by rw [List.getElem?_map, hx]; rfl
    rw [hL] at h1
    simp only [colL, List.getElem?_map] at h1
    rw [List.getElem?_range (by omega)] at h1
    exact (Option.some.inj h1).symm
  rw [← hN] at hr hl hcap hm hY
  have HN := Lib.hid hN; clear hN
  refine callsIn_of_wp Tryz.func157 rfl h6 ?_ hro
  simp only [Tryz.ntmps157, List.size_toArray, List.length_cons, List.length_nil, Nat.reduceAdd, Nat.reduceSub, Array.replicate_succ, Array.replicate_zero, List.push_toArray, List.append_toArray, List.nil_append, List.cons_append]
  gi_wp2
  clear hm
  gi_loopw [8] (fun i wr => ∃ j : Nat, j ≤ N ∧ i = .int .i64 j ∧ J (L.take j) wr ∧ cKpS w0.heap.size Bm Bk W wr)
    (fun i _ => N - (intOf i).toNat)
  case atStart => exact ⟨0, Nat.zero_le _, rfl, by rw [List.take_zero]; exact h0, cKpS.refl _ _ _ _⟩
  case round =>
    obtain ⟨j, hj, rfl, hJs, hnx⟩ := hrel
    have hsr := (World.cell?_of_block (a := ⟨Bk, 0, none⟩) hnx.s).trans hs
    have hbw := h0W.trans hnx.bel
    by_cases hlt : j < N
    · obtain ⟨b, off, rfl, hbl, hce⟩ := hr.at_ (by omega)
      have hrj : rows[j]? = some (rows[j]'(by rw [← HN.out]; exact hlt)) := List.getElem?_eq_getElem _
      obtain ⟨r, hrd⟩ : ∃ r, r = rows[j]'(by rw [← HN.out]; exact hlt) := ⟨_, rfl⟩
      rw [← hrd] at hrj
      obtain ⟨rv, hrv, hrow⟩ := hrr j r hrj
      obtain ⟨ra, rc, rfl, hrl⟩ := hrow.slice
      have hkr : k < r.length := hk r (List.mem_of_getElem? hrj)
      obtain ⟨br, offr, rfl, hbr, hcr⟩ := hrow.at_ (by omega)
      have gz : r[k]? = some (r[k]'hkr) := List.getElem?_eq_getElem _
      obtain ⟨z, hz⟩ : ∃ z, z = r[k]'hkr := ⟨_, rfl⟩
      rw [← hz] at gz
      have hjL : j < L.length := by rw [hLl]; exact hlt
      obtain ⟨x, hx⟩ : ∃ x, x = L[j]'hjL := ⟨_, rfl⟩
      have hex : en x = (j, z) := by
        have e1 : (rows.getD j []).getD k 0 = z := by
          rw [show rows.getD j [] = r by rw [List.getD_eq_getElem?_getD, hrj]; rfl, List.getD_eq_getElem?_getD, gz]; rfl
        rw [hLg j hlt x (by rw [hx]; exact List.getElem?_eq_getElem hjL), e1]
      have hsucc : L.take (j + 1) = L.take j ++ [x] := by rw [List.take_succ_eq_append_getElem hjL, hx]
      have c0 := (hbw.cell (p := ⟨b, off + j, none⟩) hbl).trans (hce _ _ hrv)
      obtain ⟨z0, z1⟩ := int_cells hcr hbw hbr gz
      obtain ⟨rl, hrl2⟩ : ∃ rl, rl = r.length := ⟨_, rfl⟩
      rw [← hrl2] at c0 hkr hrl
      obtain ⟨fn, tmps, assign, body, hy, hR⟩ := hY _ x _ hJs (by rw [List.length_take]; omega)
      rw [hex] at hy
      dsimp only at hy
      have hix : (0 : Int) ≤ (j : Int) := by omega
      have hix2 : (j : Int) < (N : Int) := by omega
      have hiy : (0 : Int) ≤ (k : Int) := by omega
      have hiy2 : (k : Int) < (rl : Int) := by omega
      have HSU := Lib.hid hsucc; clear hsucc hex hx hjL hrl2 hz gz hcr hrow hrv hrj hrd hce
      gi_wp2
      refine hR.mono ?_
      rintro e' W3 (⟨rfl, hJ3, hk3⟩ | ⟨rfl, hJx3⟩)
      · gi_wp2
        go_roundw
        case rel => exact ⟨j + 1, by omega, by go_num, by rw [HSU.out]; exact hJ3, hnx.trans hk3⟩
        case measure => simp [intOf]; omega
      · gi_wp2
        refine bodyPost_ret (results_none rfl _ _ _) rfl ?_
        exact ⟨⟨_, rfl⟩, .inr ⟨_, trivial, hJx3⟩⟩
    · obtain rfl : j = N := by omega
      gi_wp2
      go_end0
      exact ⟨⟨_, rfl⟩, .inl ⟨_, List.take_of_length_le (by omega), hJs⟩⟩
set_option maxHeartbeats 1000000 in
theorem column_in (F : Fence) (n : Nat) (h5 : F.fn 132) (hro : F.round = none) (a : Option Addr) (m c : Nat) (k : Nat) (w : World) :
    CallsIn F n Tryz.prog 132 #[.slice a m c, .int .i64 (k : Int)] w fun e w' => e = .returned (.func (.func 157) #[] #[.pointer (some ⟨w.heap.size, 0, none⟩), .pointer (some ⟨w.heap.size + 1, 0, none⟩)]) ∧ w' = (w.alloc (.cells #[.slice a m c] 70)).alloc (.cells #[.int .i64 (k : Int)] 3) := by
  refine callsIn_of_wp Tryz.func132 rfl h5 ?_ hro
  simp only [Tryz.ntmps132, List.size_toArray, List.length_cons, List.length_nil, Nat.reduceAdd, Nat.reduceSub, Array.replicate_succ, Array.replicate_zero, List.push_toArray, List.append_toArray, List.nil_append, List.cons_append]
  gi_wp2
  go_ret
  exact ⟨rfl, rfl⟩
/-- What matrix.column hands back yields the column, in order. -/
theorem column_stops (F : Fence) (n : Nat) (h6 : F.fn 157) (hro : F.round = none) (hn : 1 ≤ n) (Bm Bk k : Nat) (rows : List (List Int)) (v : Value) (w0 w : World) (hT : Tab w0 v rows) (hk : ∀ r ∈ rows, k < r.length) {α : Type} (en : α → Nat × Int) (L : List α) (hL : L.map en = colL rows k rows.length) (h0w : Below w0.heap.size w0 w)
    (hBm : Bm < w.heap.size) (hBk : Bk < w.heap.size) (hm : w.cell? ⟨Bm, 0, none⟩ = some v) (hs : w.cell? ⟨Bk, 0, none⟩ = some (.int .i64 (k : Int))) :
    SeqStopsK F n Tryz.prog 157 #[.pointer (some ⟨Bm, 0, none⟩), .pointer (some ⟨Bk, 0, none⟩)] (fun x : α => #[Value.int .i64 (((en x).1 : Nat) : Int), .agg #[.bool (ineg (en x).2), .string (imag (en x).2)]]) (cKpS w0.heap.size Bm Bk) (fun ys => ys = L) (fun _ => True) rows.length w :=
  fun l J Jx W hW hJ _ hY h0 =>
    column1_in F n h6 hro hn l Bm Bk k rows v W.heap.size w0 hT hk en L hL J Jx hJ hY W (Nat.le_refl _) (h0w.trans (hW.mono h0w.size)) (Nat.lt_of_lt_of_le hBm hW.size) (Nat.lt_of_lt_of_le hBk hW.size) ((hW.cell (p := ⟨Bm, 0, none⟩) hBm).trans hm) ((hW.cell (p := ⟨Bk, 0, none⟩) hBk).trans hs) h0
end Go.Proofs.YthpgeeaccmgbkaaGreat

/- Marks of loops over functions: blocks that hold no calls; what an owner keeps. -/
namespace Go.Proofs.YthpgeeaccmgbkaaGreat
open Go.RowKit Go.Shelf

def mkD (D : Nat) : Deferred := { target := .collected D, args := #[] }
theorem ownFrom_ds {β : Type} {B N : Nat} {Ds : List Nat} (h : ∀ D ∈ Ds, D < B) : OwnFrom B (fun (_ : β) W => (∀ D ∈ Ds, W.heap[D]? = some (.deferred (some []))) ∧ N ≤ W.heap.size) := by
  intro s X Y row hs hg hr
  refine ⟨fun D hD => ?_, Nat.le_trans hs.2 hg.size⟩
  have hX := hs.1 D hD
  refine (hg.block D (Array.getElem?_eq_some_iff.1 hX).1 (fun e => ?_)).trans hX
  have := (hr D e.symm).1
  have := h D hD
  omega
theorem blk_ownF {B b : Nat} {t : TypeId} {xs : List Value} : OwnFrom B (fun (_ : Unit) W => Blk W b t xs) := by
  intro s X Y row hs hg hr
  refine hs.of_block (hg.block b hs.lt (fun e => ?_))
  obtain ⟨_, o, ho, hc⟩ := hr b e.symm
  unfold Blk at hs
  rw [hs] at ho
  cases ho; cases hc
/-- Leaving with marks whose blocks hold no calls. -/
theorem leaves_marks {F : Fence} {n : Nat} {P : Program} {fn : Func} {tmps : Array Value} {R : Ending → World → Prop} (B : Nat) (Kx : World → Prop)
    (hst : ∀ W D, B ≤ D → Kx W → W.heap[D]? = some (.deferred (some [])) → Kx (W.putObj D (.deferred none))) (hfin : ∀ W, Kx W → LeavesInM F n P fn tmps R [] .returning W) :
    ∀ (Ds : List Nat) (W : World), Kx W → (∀ D ∈ Ds, W.heap[D]? = some (.deferred (some []))) → Ds.Nodup → (∀ D ∈ Ds, B ≤ D) → LeavesInM F n P fn tmps R (Ds.map mkD) .returning W
  | [], W, hk, _, _, _ => hfin W hk
  | D :: Ds, W, hk, hD, hnd, hB => by
    rw [List.nodup_cons] at hnd
    refine ⟨by simp, .inl ⟨D, _, rfl, run_takeDeferred (hD D (by simp)), ?_⟩⟩
    refine leaves_marks B Kx hst hfin Ds _ (hst W D (hB D (by simp)) hk (hD D (by simp))) (fun D' hD' => ?_) hnd.2 (fun D' hD' => hB D' (by simp [hD']))
    have hne : D' ≠ D := fun e => hnd.1 (e ▸ hD')
    exact (World.putObj_heap_other hne).trans (hD D' (by simp [hD']))
/-- A block whose cells hang on the state. -/
theorem blk_ownS {β : Type} {B b : Nat} {t : TypeId} (f : β → List Value) : OwnFrom B (fun (s : β) W => Blk W b t (f s)) := by
  intro s X Y row hs hg hr
  exact blk_ownF (B := B) () X Y row hs hg hr
theorem ownFrom_pred {β : Type} (B : Nat) (q : β → Prop) : OwnFrom B (fun s (_ : World) => q s) := fun _ _ _ _ hs _ _ => hs
end Go.Proofs.YthpgeeaccmgbkaaGreat


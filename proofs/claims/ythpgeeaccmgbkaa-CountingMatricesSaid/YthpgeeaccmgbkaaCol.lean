/- matrix.column: an iterator over a column. -/
import Derived.RangeFuncNested
import Derived.RangeFuncBound
import Derived.RangeFuncCalls
import Derived.RangeFuncLeaves
import Derived.RangeFuncBox
import Derived.RangeFuncOne
import Derived.Shelf.Abstract
import Derived.Shelf.RegionOpen
import Derived.WalkKit
import Derived.OwnWalkIn
import Derived.TacticsInMore
import Derived.LoopNIn
import Derived.LoopIn
import Derived.Maps.AppendAt
import Derived.Test.YthpgeeaccmgbkaaPart6
namespace Go.Proofs.Ythpgeeaccmgbkaa
open Go.RowKit Go.Shelf

attribute [local go_sem] Oper.semAt_some

/-- The first j elements of column k, with their indices. -/
def colL (rows : List (List Int)) (k : Nat) (j : Nat) : List (Nat × Int) := (List.range j).map fun i => (i, (rows.getD i []).getD k 0)
theorem colL_succ (rows : List (List Int)) (k j : Nat) : colL rows k (j + 1) = colL rows k j ++ [(j, (rows.getD j []).getD k 0)] := by
  simp [colL, List.range_succ]
theorem colL_length (rows : List (List Int)) (k j : Nat) : (colL rows k j).length = j := by simp [colL]

/-- What a round keeps: all blocks below n₀, and the two boxes of the iterator. -/
structure cKpS (n₀ Bg Bs : Nat) (X Y : World) : Prop where
  bel : Below n₀ X Y
  g : Y.heap[Bg]? = X.heap[Bg]?
  s : Y.heap[Bs]? = X.heap[Bs]?
theorem cKpS.refl (n₀ Bg Bs : Nat) (X : World) : cKpS n₀ Bg Bs X X := ⟨Below.refl _ _, rfl, rfl⟩
theorem cKpS.trans {n₀ Bg Bs : Nat} {X Y Z : World} (h : cKpS n₀ Bg Bs X Y) (k : cKpS n₀ Bg Bs Y Z) : cKpS n₀ Bg Bs X Z := ⟨h.bel.trans k.bel, k.g.trans h.g, k.s.trans h.s⟩
theorem cKpS.alloc {n₀ Bg Bs : Nat} {X Y : World} (h : cKpS n₀ Bg Bs X Y) (h0 : n₀ ≤ Y.heap.size) (h1 : Bg < Y.heap.size) (h2 : Bs < Y.heap.size) (o : Obj) : cKpS n₀ Bg Bs X (Y.alloc o) :=
  ⟨h.bel.alloc h0 o, (Below.heap_alloc _ _ _ h1).trans h.g, (Below.heap_alloc _ _ _ h2).trans h.s⟩
theorem ckpS_b {n₀ Bg Bs : Nat} {w : World} (hn : n₀ ≤ w.heap.size) (h1 : Bg < w.heap.size) (h2 : Bs < w.heap.size) (W : World) (l : Nat) (o o' : Obj) (hl : w.heap.size ≤ l) (h : W.heap[l]? = some o) (_ : o.isCells = false) (_ : o.isWalk = false) : cKpS n₀ Bg Bs W (W.putObj l o') :=
  ⟨(Below.refl n₀ W).grown (grownBy_putObj' W l o') (by have := (Array.getElem?_eq_some_iff.1 h).1; omega) (fun k e => by cases e; omega), World.putObj_heap_other (by omega), World.putObj_heap_other (by omega)⟩

set_option maxRecDepth 100000 in
set_option maxHeartbeats 2000000 in
theorem column1_in (F : Fence) (n : Nat) (h6 : F.fn 91) (hro : F.round = none) (hn : 1 ≤ n) (l Bm Bk k : Nat) (rows : List (List Int)) (v : Value) (B0 : Nat) (w0 : World) (hT : Tab w0 v rows) (hk : ∀ r ∈ rows, k < r.length) {α : Type} (en : α → Nat × Int) (L : List α) (hL : L.map en = colL rows k rows.length) (J Jx : List α → World → Prop)
    (hJ : AbidesFrom B0 J)
    (hY : ∀ pre x W, J pre W → pre.length < rows.length → YieldAt F (n - 1) Try.prog l #[.int .i64 (((en x).1 : Nat) : Int), .agg #[.bool (ineg (en x).2), .string (imag (en x).2)]] W fun e W' =>
      (e = .returned (.bool true) ∧ J (pre ++ [x]) W' ∧ cKpS w0.heap.size Bm Bk W W') ∨ (e = .returned (.bool false) ∧ Jx (pre ++ [x]) W'))
    (W : World) (hB0 : B0 ≤ W.heap.size) (h0W : Below w0.heap.size w0 W) (hBm : Bm < W.heap.size) (hBk : Bk < W.heap.size) (hm : W.cell? ⟨Bm, 0, none⟩ = some v) (hs : W.cell? ⟨Bk, 0, none⟩ = some (.int .i64 (k : Int))) (h0 : J [] W) :
    CallsIn F n Try.prog 91 #[.func (.yield l) #[] #[], .pointer (some ⟨Bm, 0, none⟩), .pointer (some ⟨Bk, 0, none⟩)] W fun e W' => (∃ v, e = .returned v) ∧
      ((∃ ys, ys = L ∧ J ys W') ∨ (∃ pre, True ∧ Jx pre W')) := by
  obtain ⟨rvs, hl, hr, hrr⟩ := hT
  obtain ⟨a, cap, rfl, hcap⟩ := hr.slice
  obtain ⟨N, hN⟩ : ∃ N, N = rows.length := ⟨_, rfl⟩
  have hLl : L.length = N := by rw [hN, ← colL_length rows k rows.length, ← hL, List.length_map]
  have hLg : ∀ j, j < N → ∀ x, L[j]? = some x → en x = (j, (rows.getD j []).getD k 0) := fun j hj x hx => by
    have h1 : (L.map en)[j]? = some (en x) := by rw [List.getElem?_map, hx]; rfl
    rw [hL] at h1
    simp only [colL, List.getElem?_map] at h1
    rw [List.getElem?_range (by omega)] at h1
    exact (Option.some.inj h1).symm
  rw [← hN] at hr hl hcap hm hY
  have HN := Lib.hid hN; clear hN
  refine callsIn_of_wp Try.func91 rfl h6 ?_ hro
  simp only [Try.ntmps91, List.size_toArray, List.length_cons, List.length_nil, Nat.reduceAdd, Nat.reduceSub, Array.replicate_succ, Array.replicate_zero, List.push_toArray, List.append_toArray, List.nil_append, List.cons_append]
  gi_wp2
  clear hm
  gi_loopw [8] (fun i wr => ∃ j : Nat, j ≤ N ∧ i = .int .i64 j ∧ J (L.take j) wr ∧ cKpS w0.heap.size Bm Bk W wr)
    (fun i _ => N - (intOf i).toNat)
  case atStart => exact ⟨0, Nat.zero_le _, rfl, by rw [List.take_zero]; exact h0, cKpS.refl _ _ _ _⟩
  case round =>
    obtain ⟨j, hj, rfl, hJs, hnx⟩ := hrel
    have hsr := (World.cell?_of_block (a := ⟨Bk, 0, none⟩) hnx.s).trans hs
    have hbw := h0W.trans hnx.bel
    by_cases hlt : j < N
    · obtain ⟨b, off, rfl, hbl, hce⟩ := hr.at_ (by omega)
      have hrj : rows[j]? = some (rows[j]'(by rw [← HN.out]; exact hlt)) := List.getElem?_eq_getElem _
      obtain ⟨r, hrd⟩ : ∃ r, r = rows[j]'(by rw [← HN.out]; exact hlt) := ⟨_, rfl⟩
      rw [← hrd] at hrj
      obtain ⟨rv, hrv, hrow⟩ := hrr j r hrj
      obtain ⟨ra, rc, rfl, hrl⟩ := hrow.slice
      have hkr : k < r.length := hk r (List.mem_of_getElem? hrj)
      obtain ⟨br, offr, rfl, hbr, hcr⟩ := hrow.at_ (by omega)
      have gz : r[k]? = some (r[k]'hkr) := List.getElem?_eq_getElem _
      obtain ⟨z, hz⟩ : ∃ z, z = r[k]'hkr := ⟨_, rfl⟩
      rw [← hz] at gz
      have hjL : j < L.length := by rw [hLl]; exact hlt
      obtain ⟨x, hx⟩ : ∃ x, x = L[j]'hjL := ⟨_, rfl⟩
      have hex : en x = (j, z) := by
        have e1 : (rows.getD j []).getD k 0 = z := by
          rw [show rows.getD j [] = r by rw [List.getD_eq_getElem?_getD, hrj]; rfl, List.getD_eq_getElem?_getD, gz]; rfl
        rw [hLg j hlt x (by rw [hx]; exact List.getElem?_eq_getElem hjL), e1]
      have hsucc : L.take (j + 1) = L.take j ++ [x] := by rw [List.take_succ_eq_append_getElem hjL, hx]
      have c0 := (hbw.cell (p := ⟨b, off + j, none⟩) hbl).trans (hce _ _ hrv)
      obtain ⟨z0, z1⟩ := int_cells hcr hbw hbr gz
      obtain ⟨rl, hrl2⟩ : ∃ rl, rl = r.length := ⟨_, rfl⟩
      rw [← hrl2] at c0 hkr hrl
      obtain ⟨fn, tmps, assign, body, hy, hR⟩ := hY _ x _ hJs (by rw [List.length_take]; omega)
      rw [hex] at hy
      dsimp only at hy
      have hix : (0 : Int) ≤ (j : Int) := by omega
      have hix2 : (j : Int) < (N : Int) := by omega
      have hiy : (0 : Int) ≤ (k : Int) := by omega
      have hiy2 : (k : Int) < (rl : Int) := by omega
      have HSU := Lib.hid hsucc; clear hsucc hex hx hjL hrl2 hz gz hcr hrow hrv hrj hrd hce
      gi_wp2
      refine hR.mono ?_
      rintro e' W3 (⟨rfl, hJ3, hk3⟩ | ⟨rfl, hJx3⟩)
      · gi_wp2
        go_roundw
        case rel => exact ⟨j + 1, by omega, by go_num, by rw [HSU.out]; exact hJ3, hnx.trans hk3⟩
        case measure => simp [intOf]; omega
      · gi_wp2
        refine bodyPost_ret (results_none rfl _ _ _) rfl ?_
        exact ⟨⟨_, rfl⟩, .inr ⟨_, trivial, hJx3⟩⟩
    · obtain rfl : j = N := by omega
      gi_wp2
      go_end0
      exact ⟨⟨_, rfl⟩, .inl ⟨_, List.take_of_length_le (by omega), hJs⟩⟩
set_option maxHeartbeats 1000000 in
theorem column_in (F : Fence) (n : Nat) (h5 : F.fn 76) (hro : F.round = none) (a : Option Addr) (m c : Nat) (k : Nat) (w : World) :
    CallsIn F n Try.prog 76 #[.slice a m c, .int .i64 (k : Int)] w fun e w' => e = .returned (.func (.func 91) #[] #[.pointer (some ⟨w.heap.size, 0, none⟩), .pointer (some ⟨w.heap.size + 1, 0, none⟩)]) ∧ w' = (w.alloc (.cells #[.slice a m c] 46)).alloc (.cells #[.int .i64 (k : Int)] 3) := by
  refine callsIn_of_wp Try.func76 rfl h5 ?_ hro
  simp only [Try.ntmps76, List.size_toArray, List.length_cons, List.length_nil, Nat.reduceAdd, Nat.reduceSub, Array.replicate_succ, Array.replicate_zero, List.push_toArray, List.append_toArray, List.nil_append, List.cons_append]
  gi_wp2
  go_ret
  exact ⟨rfl, rfl⟩
/-- What matrix.column hands back yields the column, in order. -/
theorem column_stops (F : Fence) (n : Nat) (h6 : F.fn 91) (hro : F.round = none) (hn : 1 ≤ n) (Bm Bk k : Nat) (rows : List (List Int)) (v : Value) (w0 w : World) (hT : Tab w0 v rows) (hk : ∀ r ∈ rows, k < r.length) {α : Type} (en : α → Nat × Int) (L : List α) (hL : L.map en = colL rows k rows.length) (h0w : Below w0.heap.size w0 w)
    (hBm : Bm < w.heap.size) (hBk : Bk < w.heap.size) (hm : w.cell? ⟨Bm, 0, none⟩ = some v) (hs : w.cell? ⟨Bk, 0, none⟩ = some (.int .i64 (k : Int))) :
    SeqStopsK F n Try.prog 91 #[.pointer (some ⟨Bm, 0, none⟩), .pointer (some ⟨Bk, 0, none⟩)] (fun x : α => #[Value.int .i64 (((en x).1 : Nat) : Int), .agg #[.bool (ineg (en x).2), .string (imag (en x).2)]]) (cKpS w0.heap.size Bm Bk) (fun ys => ys = L) (fun _ => True) rows.length w :=
  fun l J Jx W hW hJ _ hY h0 =>
    column1_in F n h6 hro hn l Bm Bk k rows v W.heap.size w0 hT hk en L hL J Jx hJ hY W (Nat.le_refl _) (h0w.trans (hW.mono h0w.size)) (Nat.lt_of_lt_of_le hBm hW.size) (Nat.lt_of_lt_of_le hBk hW.size) ((hW.cell (p := ⟨Bm, 0, none⟩) hBm).trans hm) ((hW.cell (p := ⟨Bk, 0, none⟩) hBk).trans hs) h0
end Go.Proofs.Ythpgeeaccmgbkaa

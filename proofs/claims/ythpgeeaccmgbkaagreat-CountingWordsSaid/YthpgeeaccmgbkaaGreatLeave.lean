/- The iterator over the edges that leave a state (graph.leaving). -/
import Derived.RangeFuncNested
import Derived.RangeFuncBound
import Derived.RangeFuncCalls
import Derived.RangeFuncLeaves
import Derived.RangeFuncBox
import Derived.Shelf.Abstract
import Derived.Shelf.RegionOpen
import Derived.WalkKit
import Derived.OwnWalkIn
import Derived.TacticsInMore
import Derived.LoopNIn
import Derived.LoopIn
import Derived.Maps.AppendAt
import Derived.Test.YthpgeeaccmgbkaaGreatCheck
namespace Go.Proofs.YthpgeeaccmgbkaaGreat
open Go.RowKit Go.Shelf

attribute [local go_sem] Oper.semAt_some

/-- The edges from s among the first k, with their indices. -/
def lvs (s : Int) (es : List E3) : Nat → List (Nat × E3)
  | 0 => []
  | k + 1 => lvs s es k ++ (match es[k]? with | some e => if e.f = s then [(k, e)] else [] | none => [])
theorem lvs_yes {s : Int} {es : List E3} {k : Nat} {e : E3} (h : es[k]? = some e) (hf : e.f = s) : lvs s es (k + 1) = lvs s es k ++ [(k, e)] := by rw [lvs, h]; simp [hf]
theorem lvs_no {s : Int} {es : List E3} {k : Nat} {e : E3} (h : es[k]? = some e) (hf : ¬ e.f = s) : lvs s es (k + 1) = lvs s es k := by rw [lvs, h]; simp [hf]
theorem lvs_length (s : Int) (es : List E3) (k : Nat) : (lvs s es k).length ≤ k := by
  induction k with
  | zero => simp [lvs]
  | succ k ih =>
    rw [lvs, List.length_append]
    split
    · split <;> simp <;> omega
    · simp; omega

/-- What a round keeps: all blocks below n₀, and the two boxes of the iterator. -/
structure gKpS (n₀ Bg Bs : Nat) (X Y : World) : Prop where
  bel : Below n₀ X Y
  g : Y.heap[Bg]? = X.heap[Bg]?
  s : Y.heap[Bs]? = X.heap[Bs]?
theorem gKpS.refl (n₀ Bg Bs : Nat) (X : World) : gKpS n₀ Bg Bs X X := ⟨Below.refl _ _, rfl, rfl⟩
theorem gKpS.trans {n₀ Bg Bs : Nat} {X Y Z : World} (h : gKpS n₀ Bg Bs X Y) (k : gKpS n₀ Bg Bs Y Z) : gKpS n₀ Bg Bs X Z := ⟨h.bel.trans k.bel, k.g.trans h.g, k.s.trans h.s⟩
theorem gKpS.alloc {n₀ Bg Bs : Nat} {X Y : World} (h : gKpS n₀ Bg Bs X Y) (h0 : n₀ ≤ Y.heap.size) (h1 : Bg < Y.heap.size) (h2 : Bs < Y.heap.size) (o : Obj) : gKpS n₀ Bg Bs X (Y.alloc o) :=
  ⟨h.bel.alloc h0 o, (Below.heap_alloc _ _ _ h1).trans h.g, (Below.heap_alloc _ _ _ h2).trans h.s⟩
theorem gKpS.of_below {n₀ Bg Bs B : Nat} {X Y : World} (h : Below B X Y) (h0 : n₀ ≤ B) (h1 : Bg < B) (h2 : Bs < B) : gKpS n₀ Bg Bs X Y := ⟨h.mono h0, h.block _ h1, h.block _ h2⟩
theorem gkpS_b {n₀ Bg Bs : Nat} {w : World} (hn : n₀ ≤ w.heap.size) (h1 : Bg < w.heap.size) (h2 : Bs < w.heap.size) (W : World) (l : Nat) (o o' : Obj) (hl : w.heap.size ≤ l) (h : W.heap[l]? = some o) (_ : o.isCells = false) (_ : o.isWalk = false) : gKpS n₀ Bg Bs W (W.putObj l o') :=
  ⟨(Below.refl n₀ W).grown (grownBy_putObj' W l o') (by have := (Array.getElem?_eq_some_iff.1 h).1; omega) (fun k e => by cases e; omega), World.putObj_heap_other (by omega), World.putObj_heap_other (by omega)⟩

set_option maxRecDepth 100000 in
set_option maxHeartbeats 2000000 in
theorem gleaving1_in (F : Fence) (n : Nat) (h6 : F.fn 158) (hro : F.round = none) (hn : 1 ≤ n) (l Bg Bs n₀ : Nat) (s : Int) (es : List E3) (v : Value) (B0 : Nat) (hlen : es.length ≤ 1000000000) (J Jx : List (Nat × E3) → World → Prop)
    (hJ : AbidesFrom B0 J)
    (hY : ∀ pre x W, J pre W → pre.length < es.length → YieldAt F (n - 1) Tryz.prog l #[.int .i64 ((x.1 : Nat) : Int), x.2.val] W fun e W' =>
      (e = .returned (.bool true) ∧ J (pre ++ [x]) W' ∧ gKpS n₀ Bg Bs W W') ∨ (e = .returned (.bool false) ∧ Jx (pre ++ [x]) W'))
    (W : World) (hB0 : B0 ≤ W.heap.size) (hn₀ : n₀ ≤ W.heap.size) (hBg : Bg < W.heap.size) (hBs : Bs < W.heap.size) (hg : W.cell? ⟨Bg, 2, none⟩ = some v) (hs : W.cell? ⟨Bs, 0, none⟩ = some (.int .i64 s)) (hr : Row W v es.length (ce es)) (hrb : ∀ b off m c, v = .slice (some ⟨b, off, none⟩) m c → 0 < es.length → b < n₀) (h0 : J [] W) :
    CallsIn F n Tryz.prog 158 #[.func (.yield l) #[] #[], .pointer (some ⟨Bg, 0, none⟩), .pointer (some ⟨Bs, 0, none⟩)] W fun e W' => (∃ v, e = .returned v) ∧
      ((∃ ys, ys = lvs s es es.length ∧ J ys W') ∨ (∃ pre, True ∧ Jx pre W')) := by
  obtain ⟨a, cap, rfl, hcap⟩ := hr.slice
  refine callsIn_of_wp Tryz.func158 rfl h6 ?_ hro
  simp only [Tryz.ntmps158, List.size_toArray, List.length_cons, List.length_nil, Nat.reduceAdd, Nat.reduceSub, Array.replicate_succ, Array.replicate_zero, List.push_toArray, List.append_toArray, List.nil_append, List.cons_append]
  gi_wp2
  clear hg
  gi_loopw [9] (fun i wr => ∃ k : Nat, k ≤ es.length ∧ i = .int .i64 k ∧ J (lvs s es k) wr ∧ gKpS n₀ Bg Bs W wr)
    (fun i _ => es.length - (intOf i).toNat)
  case atStart => exact ⟨0, Nat.zero_le _, rfl, h0, gKpS.refl _ _ _ _⟩
  case round =>
    obtain ⟨k, hk, rfl, hJs, hnx⟩ := hrel
    have hsr := (World.cell?_of_block (a := ⟨Bs, 0, none⟩) hnx.s).trans hs
    have hlv := lvs_length s es k
    by_cases hlt : k < es.length
    · obtain ⟨b, off, rfl, hbl, hce⟩ := hr.at_ (by omega)
      have hb0 := hrb b off _ _ rfl (by omega)
      obtain ⟨e, he⟩ : ∃ e, es[k]? = some e := ⟨es[k], by simp [hlt]⟩
      obtain ⟨i0, i1, i2⟩ : wr.cell? ⟨b, off + k * 3, none⟩ = some (.int .i64 e.f) ∧ wr.cell? ⟨b, off + k * 3 + 1, none⟩ = some (.int .i64 e.l) ∧ wr.cell? ⟨b, off + k * 3 + 2, none⟩ = some (.int .i64 e.t) :=
        ⟨(hnx.bel.cell (p := ⟨b, _, none⟩) hb0).trans (hce _ _ (ce_get (j := 0) he rfl)), (hnx.bel.cell (p := ⟨b, _, none⟩) hb0).trans (by have := hce _ _ (ce_get (j := 1) he rfl); rwa [← Nat.add_assoc] at this), (hnx.bel.cell (p := ⟨b, _, none⟩) hb0).trans (by have := hce _ _ (ce_get (j := 2) he rfl); rwa [← Nat.add_assoc] at this)⟩
      have hnew := Blk.new wr 53 [.int .i64 e.f, .int .i64 e.l, .int .i64 e.t]
      have hsz := hnx.bel.size
      have hsr2 := (below_new wr (.cells #[.int .i64 e.f, .int .i64 e.l, .int .i64 e.t] 53) (b := Bs) (by omega) 0).trans hsr
      have hnx2 : gKpS n₀ Bg Bs W (wr.alloc (.cells #[.int .i64 e.f, .int .i64 e.l, .int .i64 e.t] 53)) := hnx.alloc (by omega) (by omega) (by omega) _
      have hJ2 := hJ _ _ _ none hJs (World.grownBy_alloc wr (.cells #[.int .i64 e.f, .int .i64 e.l, .int .i64 e.t] 53) none) (fun r e => by cases e)
      by_cases hf : e.f = s
      · obtain ⟨fn, tmps, assign, body, hy, hR⟩ := hY _ (k, e) _ hJ2 (by omega)
        dsimp only at hy
        have hfb : (e.f == s) = true := by simp [hf]
        have hyes := lvs_yes he hf
        have HYES := Lib.hid hyes; clear hyes hf
        have HE := Lib.hid he; clear he
        gi_wp2
        refine hR.mono ?_
        rintro e' W3 (⟨rfl, hJ3, hk3⟩ | ⟨rfl, hJx3⟩)
        · gi_wp2
          go_roundw
          case rel => exact ⟨k + 1, by omega, by go_num, by rw [HYES.out]; exact hJ3, hnx2.trans hk3⟩
          case measure => simp [intOf]; omega
        · gi_wp2
          refine bodyPost_ret (results_none rfl _ _ _) rfl ?_
          exact ⟨⟨_, rfl⟩, .inr ⟨_, trivial, hJx3⟩⟩
      · have hfb : (e.f == s) = false := by simp [hf]
        have hno := lvs_no he hf
        have HNO := Lib.hid hno; clear hno hf
        have HE := Lib.hid he; clear he
        gi_wp2
        refine ⟨fun _ h => (by cases h), ?_⟩
        gi_wp2
        go_roundw
        case rel => exact ⟨k + 1, by omega, by go_num, by rw [HNO.out]; exact hJ2, hnx2⟩
        case measure => simp [intOf]; omega
    · obtain rfl : k = es.length := by omega
      gi_wp2
      go_end0
      exact ⟨⟨_, rfl⟩, .inl ⟨_, rfl, hJs⟩⟩

set_option maxHeartbeats 1000000 in
/-- graph.leaving: the graph and the state are boxed; the function captures the boxes. -/
theorem gleaving_in (F : Fence) (n : Nat) (h5 : F.fn 138) (hro : F.round = none) (L S s : Int) (v : Value) (w : World) :
    CallsIn F n Tryz.prog 138 #[.agg #[.int .i64 L, .int .i64 S, v], .int .i64 s] w fun e w' => e = .returned (.func (.func 158) #[] #[.pointer (some ⟨w.heap.size, 0, none⟩), .pointer (some ⟨w.heap.size + 1, 0, none⟩)]) ∧ w' = (w.alloc (.cells #[.int .i64 L, .int .i64 S, v] 24)).alloc (.cells #[.int .i64 s] 3) := by
  refine callsIn_of_wp Tryz.func138 rfl h5 ?_ hro
  simp only [Tryz.ntmps138, List.size_toArray, List.length_cons, List.length_nil, Nat.reduceAdd, Nat.reduceSub, Array.replicate_succ, Array.replicate_zero, List.push_toArray, List.append_toArray, List.nil_append, List.cons_append]
  gi_wp2
  go_ret
  exact ⟨rfl, rfl⟩

/-- What graph.leaving hands back yields the edges from s, in order. -/
theorem gleaving_stops (F : Fence) (n : Nat) (h6 : F.fn 158) (hro : F.round = none) (hn : 1 ≤ n) (Bg Bs n₀ : Nat) (s : Int) (es : List E3) (v : Value) (hlen : es.length ≤ 1000000000) (w : World)
    (hn₀ : n₀ ≤ w.heap.size) (hBg : Bg < w.heap.size) (hBs : Bs < w.heap.size) (hg : w.cell? ⟨Bg, 2, none⟩ = some v) (hs : w.cell? ⟨Bs, 0, none⟩ = some (.int .i64 s)) (hr : Row w v es.length (ce es)) (hrb : ∀ b off m c, v = .slice (some ⟨b, off, none⟩) m c → 0 < es.length → b < n₀) :
    SeqStopsK F n Tryz.prog 158 #[.pointer (some ⟨Bg, 0, none⟩), .pointer (some ⟨Bs, 0, none⟩)] (fun x : Nat × E3 => #[Value.int .i64 ((x.1 : Nat) : Int), x.2.val]) (gKpS n₀ Bg Bs) (fun ys => ys = lvs s es es.length) (fun _ => True) es.length w :=
  fun l J Jx W hW hJ _ hY h0 =>
    gleaving1_in F n h6 hro hn l Bg Bs n₀ s es v W.heap.size hlen J Jx hJ hY W (Nat.le_refl _) (Nat.le_trans hn₀ hW.size) (Nat.lt_of_lt_of_le hBg hW.size) (Nat.lt_of_lt_of_le hBs hW.size) ((hW.cell (p := ⟨Bg, 2, none⟩) (show Bg < w.heap.size by omega)).trans hg) ((hW.cell (p := ⟨Bs, 0, none⟩) (show Bs < w.heap.size by omega)).trans hs) (hr.below hW (Nat.le_refl _)) hrb h0
end Go.Proofs.YthpgeeaccmgbkaaGreat

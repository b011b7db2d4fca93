/- slices.Sort and slices.Compact at ints, onto a row of the call's own; the plain facts of graph.Step. -/
import Derived.Test.YtadibbbaegbljaaStepA
import Derived.Test.YtadibbbaegbljaaKeep
import Derived.Deep.AppendLies
namespace Go.Proofs.Ytadibbbaegbljaa
open Go.RowKit Go.Sort

abbrev encZ : Int → Value := Value.int .i64
theorem ci_encZ (l : List Int) : ci l = l.map encZ := rfl
theorem holds_own {w : World} {base g cap : Nat} {e : TypeId} {zs : List Int} (h : w.ownsRow base e 1 (.slice (some ⟨g, 0, none⟩) zs.length cap) zs.length (ci zs)) : Holds encZ w g 0 zs.toArray := by
  rcases h.2 with ⟨h0, _⟩ | ⟨g', cap', cur, hv, hg, hb, h1, h2, h3, h4⟩
  · cases h0
  cases hv
  intro j hj
  have hj' : j < zs.length := by simpa using hj
  refine ⟨?_, by simp [World.frozen?, hb]⟩
  have e1 := h.cellAt j (by omega)
  rw [show (⟨g, 0 + j, none⟩ : Addr) = ⟨g, j, none⟩ by simp, e1]
  have e2 : (ci zs)[j]? = some (encZ zs.toArray[j]!) := by
    rw [ci_encZ, List.getElem?_map, List.getElem?_eq_getElem hj', getElem!_pos _ j hj]; rfl
  first
    | exact e2
    | (rw [e2])
    | (have hl : j < (ci zs).length := by rw [ci_length]; exact hj'
       rw [List.getElem?_eq_getElem hl] at e2
       simpa using e2)
theorem putZ {w : World} {base g cap n : Nat} {e : TypeId} {os : Array Obj} {zs ys : List Int} (h : w.ownsRow base e 1 (.slice (some ⟨g, 0, none⟩) zs.length cap) zs.length (ci zs)) (hy : ys.length = zs.length) :
    w.grownBy (grow (putRow encZ (Sort.ahead w n) g 0 ys.toArray) os) (some g) ∧ (grow (putRow encZ (Sort.ahead w n) g 0 ys.toArray) os).ownsRow base e 1 (.slice (some ⟨g, 0, none⟩) ys.length cap) ys.length (ci ys) ∧ g < w.heap.size := by
  rcases h.2 with ⟨h0, _⟩ | ⟨g', cap', cur, hv, hg, hb, h1, h2, h3, h4⟩
  · cases h0
  cases hv
  have hgl : g < w.heap.size := (Array.getElem?_eq_some_iff.1 hb).1
  have hb2 : (grow (putRow encZ (Sort.ahead w n) g 0 ys.toArray) os).heap[g]? = some (.cells (putCells encZ 0 ys.toArray cur) e (0, 0)) := by
    rw [heap_grow_old _ _ (by simpa using hgl)]
    simp [putRow, mapBlock, Sort.ahead, Array.getElem?_modify, hb, onCells]
  refine ⟨⟨rfl, rfl, rfl, by simp, fun k hk hne => ?_⟩, ⟨by rw [ci_length]; omega, .inr ⟨g, cap, _, rfl, hg, hb2, by omega, h2, by simp [putCells, h3], ?_⟩⟩, hgl⟩
  · rw [heap_grow_old _ _ (by simpa using hk)]
    have : g ≠ k := fun e => hne (by rw [e])
    simp [putRow, mapBlock, Sort.ahead, Array.getElem?_modify, this]
  · apply List.ext_getElem?
    intro j
    by_cases hj : j < ys.length
    · rw [List.getElem?_take_of_lt (by omega), Array.getElem?_toList, ci_encZ, List.getElem?_map, List.getElem?_eq_getElem hj]
      simp [putCells, hj, show j < cur.size by omega]
    · rw [List.getElem?_take_eq_none (by omega), List.getElem?_eq_none (by rw [ci_length]; omega)]
theorem own_cut {w : World} {base g cap n m : Nat} {e : TypeId} {xs : List Value} (h : w.ownsRow base e 1 (.slice (some ⟨g, 0, none⟩) n cap) n xs) (hm : m ≤ n) : w.ownsRow base e 1 (.slice (some ⟨g, 0, none⟩) m cap) m (xs.take m) := by
  rcases h.2 with ⟨h0, _⟩ | ⟨g', cap', cur, hv, hg, hb, h1, h2, h3, h4⟩
  · cases h0
  cases hv
  have hl := h.1
  refine ⟨by rw [List.length_take]; omega, .inr ⟨g, cap, cur, rfl, hg, hb, by omega, h2, h3, ?_⟩⟩
  rw [← h4, List.take_take]; congr 1; omega

def sortI (zs : List Int) : List Int := zs.mergeSort fun x y => decide (x ≤ y)
theorem sortI_length (zs : List Int) : (sortI zs).length = zs.length := by simp [sortI]
def RowRet (w : World) (g base cap : Nat) (ys : List Int) (v : Value) (e : Ending) (w' : World) : Prop :=
  e = .returned v ∧ w.grownBy w' (some g) ∧ w'.ownsRow base 3 1 (.slice (some ⟨g, 0, none⟩) ys.length cap) ys.length (ci ys)
theorem sortI_any (zs : List Int) (base g cap : Nat) (w : World) (hown : w.ownsRow base 3 1 (.slice (some ⟨g, 0, none⟩) zs.length cap) zs.length (ci zs)) (hlen : zs.length ≤ 1000000000) :
    Calls Try.prog 80 #[.slice (some ⟨g, 0, none⟩) zs.length cap] w (RowRet w g base cap (sortI zs) (.tuple #[])) := by
  have hput := fun n os => putZ (n := n) (os := os) hown (sortI_length zs)
  refine (Try.slices_Sort_int g 0 cap zs w (holds_own hown) (hput 0 #[]).2.2 (by omega)).mono ?_
  rintro e w' ⟨he, n, os, rfl⟩
  exact ⟨he, (hput n os).1, (hput n os).2.1⟩
theorem compact_len (zs : List Int) : (Lib.compact zs).length ≤ zs.length := by
  first
    | exact Lib.compact_length_le zs
    | (unfold Lib.compact; exact Lib.compactUpTo_length_le _ _)
theorem compactI_any (zs : List Int) (base g cap : Nat) (w : World) (hown : w.ownsRow base 3 1 (.slice (some ⟨g, 0, none⟩) zs.length cap) zs.length (ci zs)) (hlen : zs.length ≤ 1000000000) (hcap : zs.length ≤ cap) :
    Calls Try.prog 81 #[.slice (some ⟨g, 0, none⟩) zs.length cap] w (RowRet w g base cap (Lib.compact zs) (.slice (some ⟨g, 0, none⟩) (Lib.compact zs).length cap)) := by
  have hl := compact_len zs
  have hput := fun n => putZ (n := n) (os := #[]) (ys := Lib.compact zs ++ List.replicate (zs.length - (Lib.compact zs).length) 0) hown (by simp; omega)
  refine (Try.slices_Compact_int g 0 cap zs w (holds_own hown) (by omega) hcap).mono ?_
  rintro e w' ⟨he, n, rfl⟩
  have h1 := hput n
  rw [grow_empty] at h1
  refine ⟨he, h1.1, ?_⟩
  have h2 := own_cut h1.2.1 (m := (Lib.compact zs).length) (by simp)
  rw [ci_encZ, List.map_append, List.take_left' (by simp)] at h2
  exact h2
end Go.Proofs.Ytadibbbaegbljaa

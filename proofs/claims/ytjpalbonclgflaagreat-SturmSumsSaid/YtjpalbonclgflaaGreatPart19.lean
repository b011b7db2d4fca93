/- Contracts and plain laws of several functions, one after the other: ShelfS, SortS. -/
import Derived.Shelf.Small.Bits
import Derived.Shelf.Small.Wraps
import Derived.Shelf.Strconv.Itoa0
import Derived.Shelf.Sort.Plain
import Derived.Ground.Names2Prog
import Derived.Shelf.Slices.SearchI
import Derived.Shelf.Slices.In.SortNone
import Derived.Deep.AppendLies
import Derived.Laws.OwnMore
import Derived.Test.YtjpalbonclgflaaGreatPart6
import Derived.Test.YtjpalbonclgflaaGreatLw5
/- slices.Sort at ints (laid by the kit's tools). -/
namespace Go.Proofs
open Go.Shelf
def Tryz.lays189_ren : Go.Shelf.Ren := ⟨fun | 189 => 48 | 125 => 96 | 257 => 95 | 128 => 136 | 129 => 147 | 294 => 138 | 295 => 139 | 296 => 140 | 297 => 141 | 298 => 142 | 299 => 143 | 216 => 144 | 300 => 145 | 301 => 146 | 328 => 173 | 329 => 174 | 330 => 175 | 331 => 176 | 332 => 177 | 215 => 178 | 343 => 189 | n => n, fun | 28 => 65 | 3 => 3 | 46 => 106 | 0 => 0 | 51 => 105 | 53 => 104 | 4 => 4 | 183 => 143 | 182 => 142 | 131 => 148 | 5 => 5 | 9 => 9 | 218 => 165 | 222 => 169 | 228 => 180 | 229 => 181 | n => n, fun | n => n⟩
theorem Tryz.lays189 : Go.Proofs.Lays.n189 Tryz.prog Tryz.lays189_ren := {
  mixed := by kernel_rfl
  f125 := Tryz.func96.trans (congrArg some (by kernel_rfl))
  f128 := Tryz.func136.trans (congrArg some (by kernel_rfl))
  f129 := Tryz.func147.trans (congrArg some (by kernel_rfl))
  f189 := Tryz.func48.trans (congrArg some (by kernel_rfl))
  f215 := Tryz.func178.trans (congrArg some (by kernel_rfl))
  f216 := Tryz.func144.trans (congrArg some (by kernel_rfl))
  f257 := Tryz.func95.trans (congrArg some (by kernel_rfl))
  f294 := Tryz.func138.trans (congrArg some (by kernel_rfl))
  f295 := Tryz.func139.trans (congrArg some (by kernel_rfl))
  f296 := Tryz.func140.trans (congrArg some (by kernel_rfl))
  f297 := Tryz.func141.trans (congrArg some (by kernel_rfl))
  f298 := Tryz.func142.trans (congrArg some (by kernel_rfl))
  f299 := Tryz.func143.trans (congrArg some (by kernel_rfl))
  f300 := Tryz.func145.trans (congrArg some (by kernel_rfl))
  f301 := Tryz.func146.trans (congrArg some (by kernel_rfl))
  f328 := Tryz.func173.trans (congrArg some (by kernel_rfl))
  f329 := Tryz.func174.trans (congrArg some (by kernel_rfl))
  f330 := Tryz.func175.trans (congrArg some (by kernel_rfl))
  f331 := Tryz.func176.trans (congrArg some (by kernel_rfl))
  f332 := Tryz.func177.trans (congrArg some (by kernel_rfl))
  f343 := Tryz.func189.trans (congrArg some (by kernel_rfl))
  t0 := Tryz.underlying0
  a0 := Tryz.isAgg0
  z0 := Tryz.sizeOf0
  v0 := Tryz.zeroValue0
  t3 := Tryz.underlying3
  a3 := Tryz.isAgg3
  z3 := Tryz.sizeOf3
  v3 := Tryz.zeroValue3
  t4 := Tryz.underlying4
  a4 := Tryz.isAgg4
  z4 := Tryz.sizeOf4
  v4 := Tryz.zeroValue4
  t5 := Tryz.underlying5
  a5 := Tryz.isAgg5
  z5 := Tryz.sizeOf5
  v5 := Tryz.zeroValue5
  t9 := Tryz.underlying9
  a9 := Tryz.isAgg9
  z9 := Tryz.sizeOf9
  v9 := Tryz.zeroValue9
  t28 := Tryz.underlying65
  a28 := Tryz.isAgg65
  z28 := Tryz.sizeOf65
  v28 := Tryz.zeroValue65
  t46 := Tryz.underlying106
  a46 := Tryz.isAgg106
  z46 := Tryz.sizeOf106
  v46 := Tryz.zeroValue106
  t51 := Tryz.underlying105
  a51 := Tryz.isAgg105
  z51 := Tryz.sizeOf105
  v51 := Tryz.zeroValue105
  t53 := Tryz.underlying104
  a53 := Tryz.isAgg104
  z53 := Tryz.sizeOf104
  v53 := Tryz.zeroValue104
  t131 := Tryz.underlying148
  a131 := Tryz.isAgg148
  z131 := Tryz.sizeOf148
  v131 := Tryz.zeroValue148
  t182 := Tryz.underlying142
  a182 := Tryz.isAgg142
  z182 := Tryz.sizeOf142
  v182 := Tryz.zeroValue142
  t183 := Tryz.underlying143
  a183 := Tryz.isAgg143
  z183 := Tryz.sizeOf143
  v183 := Tryz.zeroValue143
  t218 := Tryz.underlying165
  a218 := Tryz.isAgg165
  z218 := Tryz.sizeOf165
  v218 := Tryz.zeroValue165
  t222 := Tryz.underlying169
  a222 := Tryz.isAgg169
  z222 := Tryz.sizeOf169
  v222 := Tryz.zeroValue169
  t228 := Tryz.underlying180
  a228 := Tryz.isAgg180
  z228 := Tryz.sizeOf180
  v228 := Tryz.zeroValue180
  t229 := Tryz.underlying181
  a229 := Tryz.isAgg181
  z229 := Tryz.sizeOf181
  v229 := Tryz.zeroValue181 }
open Go.Sort Go.RowKit in
theorem Tryz.slices_Sort_int (blk off cap : Nat) (zs : List Int) (w : World) (hH : Holds (Value.int .i64) w blk off zs.toArray) (hblk : blk < w.heap.size) (hsz : zs.length < 4611686018427387904) :
    Calls Tryz.prog 48 #[.slice (some ⟨blk, off, none⟩) zs.length cap] w fun e w' =>
      e = .returned (.tuple #[]) ∧ ∃ n os, w' = grow (putRow (Value.int .i64) (Sort.ahead w n) blk off (zs.mergeSort fun x y => decide (x ≤ y)).toArray) os := Any.slices_Sort_int Tryz.lays189 blk off cap zs w hH hblk hsz
end Go.Proofs

/- slices.Sort at ints onto a row of the caller's own; three of them sorted. -/
namespace Go.Proofs.YtjpalbonclgflaaGreat
open Go.RowKit Go.Sort

theorem ci_length (l : List Int) : (ci l).length = l.length := by simp [ci]
abbrev encZ : Int → Value := Value.int .i64
theorem ci_encZ (l : List Int) : ci l = l.map encZ := rfl
theorem holds_own {w : World} {base g cap : Nat} {e : TypeId} {zs : List Int} (h : w.ownsRow base e 1 (.slice (some ⟨g, 0, none⟩) zs.length cap) zs.length (ci zs)) : Holds encZ w g 0 zs.toArray := by
  rcases h.2 with ⟨h0, _⟩ | ⟨g', cap', cur, hv, hg, hb, h1, h2, h3, h4⟩
  · cases h0
  cases hv
  intro j hj
  have hj' : j < zs.length := by simpa using hj
  refine ⟨?_, by simp [World.frozen?, hb]⟩
  have e1 := h.cellAt j (by omega)
  rw [show (⟨g, 0 + j, none⟩ : Addr) = ⟨g, j, none⟩ by simp, e1]
  have e2 : (ci zs)[j]? = some (encZ zs.toArray[j]!) := by
    rw [ci_encZ, List.getElem?_map, List.getElem?_eq_getElem hj', getElem!_pos _ j hj]; rfl
  first
    | exact e2
    | (rw [e2])
    | (have hl : j < (ci zs).length := by rw [ci_length]; exact hj'
       rw [List.getElem?_eq_getElem hl] at e2
       simpa using e2)
theorem putZ {w : World} {base g cap n : Nat} {e : TypeId} {os : Array Obj} {zs ys : List Int} (h : w.ownsRow base e 1 (.slice (some ⟨g, 0, none⟩) zs.length cap) zs.length (ci zs)) (hy : ys.length = zs.length) :
    w.grownBy (grow (putRow encZ (Sort.ahead w n) g 0 ys.toArray) os) (some g) ∧ (grow (putRow encZ (Sort.ahead w n) g 0 ys.toArray) os).ownsRow base e 1 (.slice (some ⟨g, 0, none⟩) ys.length cap) ys.length (ci ys) ∧ g < w.heap.size := by
  rcases h.2 with ⟨h0, _⟩ | ⟨g', cap', cur, hv, hg, hb, h1, h2, h3, h4⟩
  · cases h0
  cases hv
  have hgl : g < w.heap.size := (Array.getElem?_eq_some_iff.1 hb).1
  have hb2 : (grow (putRow encZ (Sort.ahead w n) g 0 ys.toArray) os).heap[g]? = some (.cells (putCells encZ 0 ys.toArray cur) e (0, 0)) := by
    rw [heap_grow_old _ _ (by simpa using hgl)]
    simp [putRow, mapBlock, Sort.ahead, Array.getElem?_modify, hb, onCells]
  refine ⟨⟨rfl, rfl, rfl, by simp, fun k hk hne => ?_⟩, ⟨by rw [ci_length]; omega, .inr ⟨g, cap, _, rfl, hg, hb2, by omega, h2, by simp [putCells, h3], ?_⟩⟩, hgl⟩
  · rw [heap_grow_old _ _ (by simpa using hk)]
    have : g ≠ k := fun e => hne (by rw [e])
    simp [putRow, mapBlock, Sort.ahead, Array.getElem?_modify, this]
  · apply List.ext_getElem?
    intro j
    by_cases hj : j < ys.length
    · rw [List.getElem?_take_of_lt (by omega), Array.getElem?_toList, ci_encZ, List.getElem?_map, List.getElem?_eq_getElem hj]
      simp [putCells, hj, show j < cur.size by omega]
    · rw [List.getElem?_take_eq_none (by omega), List.getElem?_eq_none (by rw [ci_length]; omega)]
def sortI (zs : List Int) : List Int := zs.mergeSort fun x y => decide (x ≤ y)
theorem sortI_length (zs : List Int) : (sortI zs).length = zs.length := by simp [sortI]
def RowRet (w : World) (g base cap : Nat) (ys : List Int) (v : Value) (e : Ending) (w' : World) : Prop :=
  e = .returned v ∧ w.grownBy w' (some g) ∧ w'.ownsRow base 3 1 (.slice (some ⟨g, 0, none⟩) ys.length cap) ys.length (ci ys)
theorem sortI_any (zs : List Int) (base g cap : Nat) (w : World) (hown : w.ownsRow base 3 1 (.slice (some ⟨g, 0, none⟩) zs.length cap) zs.length (ci zs)) (hlen : zs.length ≤ 1000000000) :
    Calls Tryz.prog 48 #[.slice (some ⟨g, 0, none⟩) zs.length cap] w (RowRet w g base cap (sortI zs) (.tuple #[])) := by
  have hput := fun n os => putZ (n := n) (os := os) hown (sortI_length zs)
  refine (Tryz.slices_Sort_int g 0 cap zs w (holds_own hown) (hput 0 #[]).2.2 (by omega)).mono ?_
  rintro e w' ⟨he, n, os, rfl⟩
  exact ⟨he, (hput n os).1, (hput n os).2.1⟩
theorem sort3 (a b c : Int) : ∃ x y z, sortI [a, b, c] = [x, y, z] ∧ x ≤ y ∧ y ≤ z ∧ (∀ t ∈ [x, y, z], t = a ∨ t = b ∨ t = c) := by
  have hp : (sortI [a, b, c]).Perm [a, b, c] := List.mergeSort_perm _ _
  have hs : (sortI [a, b, c]).Pairwise (fun x y => (decide (x ≤ y)) = true) := List.pairwise_mergeSort (le := fun x y => decide (x ≤ y)) (by intro x y z h1 h2; simp at *; omega) (by intro x y; simp; omega) _
  have hl : (sortI [a, b, c]).length = 3 := sortI_length _
  obtain ⟨x, y, z, h⟩ : ∃ x y z, sortI [a, b, c] = [x, y, z] := by
    rcases h : sortI [a, b, c] with _ | ⟨x, _ | ⟨y, _ | ⟨z, _ | ⟨t, l⟩⟩⟩⟩
    · rw [h] at hl; simp at hl
    · rw [h] at hl; simp at hl
    · rw [h] at hl; simp at hl
    · exact ⟨x, y, z, rfl⟩
    · rw [h] at hl; simp at hl
  rw [h] at hs hp
  simp only [List.pairwise_cons, List.mem_cons, List.mem_nil_iff, or_false, decide_eq_true_eq] at hs
  refine ⟨x, y, z, h, hs.1 y (.inl rfl), hs.2.1 z rfl, fun t ht => ?_⟩
  have := hp.mem_iff.1 ht
  simpa using this
end Go.Proofs.YtjpalbonclgflaaGreat


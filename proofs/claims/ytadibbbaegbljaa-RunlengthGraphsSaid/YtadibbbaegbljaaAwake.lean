/- The contract of awake: the examples of the chapter. -/
import Derived.Test.YtadibbbaegbljaaGraphB
import Derived.Test.YtadibbbaegbljaaCount
import Derived.Test.YtadibbbaegbljaaEqInt
namespace Go.Proofs.Ytadibbbaegbljaa
open Go.RowKit

def wantEs : List E3 := [⟨0, 0, 1⟩, ⟨1, 0, 2⟩, ⟨1, 1, 0⟩, ⟨2, 0, 3⟩, ⟨2, 1, 0⟩, ⟨3, 1, 0⟩]
theorem want_graph : graphEs 1 3 3 = wantEs := by decide
theorem want_sort : sortE wantEs = wantEs := List.mergeSort_of_pairwise (by decide)
theorem want_ok : okEs wantEs := by
  intro e he
  simp [wantEs] at he
  rcases he with rfl | rfl | rfl | rfl | rfl | rfl <;> (unfold E3.ok Ints; simp)
theorem want_twins : NoTwins wantEs := by
  intro k x y h1 h2
  match k with
  | 0 | 1 | 2 | 3 | 4 => simp [wantEs] at h1 h2; subst h1 h2; decide
  | k + 5 => simp [wantEs] at h2
theorem want_chk : chk 2 4 wantEs = 0 := by decide
theorem count_eight : countC 0 1 4 = 8 := by decide
end Go.Proofs.Ytadibbbaegbljaa

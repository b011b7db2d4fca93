/- groovelaw29.awake is true. -/
import Derived.Test.YtalipfnbpnkgnaaGreatAwk29
import Derived.Test.YtalipfnbpnkgnaaGreatEUnr
namespace Go.Proofs.YtalipfnbpnkgnaaGreat
open Go.RowKit

theorem gold_cw : (4 : Int) < cw goldE allP 3 0 := by decide
theorem awake29_true (w : World) : Calls Tryz.prog 10 #[] w (Ret w (.bool true)) := by
  refine awake29 w (fun v w' h => ?_) (fun v w' h => ?_)
  · exact erank_some 2 2 0 goldE v ⟨#[48, 49, 48]⟩ w' h gold_ok gold_eck (by decide) (by decide) (by decide) 2 0 gold_rank
  · have h2 := eunr_ok 2 2 0 3 4 goldE v w' h gold_ok gold_eck (by decide) (by decide) (by decide) gold_cw
    have hu : (ur goldE allP 3 ((0 : Nat) : Int) 4).1 = [49, 48, 49] := by rw [show ur goldE allP 3 ((0 : Nat) : Int) 4 = ([49, 48, 49], 1) from gold_unrank]
    rw [hu] at h2
    exact h2
end Go.Proofs.YtalipfnbpnkgnaaGreat

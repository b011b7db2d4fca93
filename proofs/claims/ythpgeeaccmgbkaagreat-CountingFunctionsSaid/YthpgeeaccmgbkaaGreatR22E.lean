/- The refusals of grooveref22.Paths, From, Closed, Orbits. -/
import Derived.Test.YthpgeeaccmgbkaaGreatRBack
import Derived.Test.YthpgeeaccmgbkaaGreatRChk
namespace Go.Proofs.YthpgeeaccmgbkaaGreat
open Go.RowKit

/-- A list of numbers and why it is empty. -/
def LstRet (l : List Int) (c : Int) (w : World) (e : Ending) (w' : World) : Prop := Below w.heap.size w w' ∧ ∃ u, e = .returned (.tuple #[u, .int .i64 c]) ∧ Row w' u l.length (civ l)
end Go.Proofs.YthpgeeaccmgbkaaGreat


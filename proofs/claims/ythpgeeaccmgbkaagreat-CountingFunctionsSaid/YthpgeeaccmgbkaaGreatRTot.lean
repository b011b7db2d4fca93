/- grooveref22.Total (given From), closed, Closed where they answer. -/
import Derived.Test.YthpgeeaccmgbkaaGreatPart19
import Derived.Test.YthpgeeaccmgbkaaGreatPart13
namespace Go.Proofs.YthpgeeaccmgbkaaGreat
open Go.RowKit

end Go.Proofs.YthpgeeaccmgbkaaGreat


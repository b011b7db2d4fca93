/- A block is kept by whatever leaves the old blocks alone. -/
import Derived.Test.YtadibbbaegbljaaBase
namespace Go.Proofs.Ytadibbbaegbljaa
open Go.RowKit
theorem Blk.keep {w w' : World} {b : Nat} {t : TypeId} {xs : List Value} (h : Blk w b t xs) (k : Below w.heap.size w w') : Blk w' b t xs := h.below k h.lt
end Go.Proofs.Ytadibbbaegbljaa

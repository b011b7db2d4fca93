/- The reference integers: subMag, Add. -/
import Derived.Deep.RegionHeld3
import Derived.Test.YtjpalbonclgflaaGreatRefAdd
namespace Go.Proofs.YtjpalbonclgflaaGreat
open Go.RowKit

end Go.Proofs.YtjpalbonclgflaaGreat

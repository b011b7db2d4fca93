/- The reference integers: addMag. -/
import Derived.Test.YtjpalbonclgflaaGreatRefB
namespace Go.Proofs.YtjpalbonclgflaaGreat
open Go.RowKit

end Go.Proofs.YtjpalbonclgflaaGreat

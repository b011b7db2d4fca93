/- sturm.Roots; sturm.Count at canonical numbers (printed by gen_cnt5.py). -/
import Derived.Test.YtjpalbonclgflaaGreatRfn
namespace Go.Proofs.YtjpalbonclgflaaGreat
open Go.RowKit

end Go.Proofs.YtjpalbonclgflaaGreat

/- grooveref01.Compare and Sign, at canonical integers. -/
import Derived.Deep.RegionHeld3
import Derived.Test.YtjpalbonclgflaaGreatRadd
namespace Go.Proofs.YtjpalbonclgflaaGreat
open Go.RowKit

theorem cmpZ_neg2 {x y : Int} (hx : x < 0) (hy : y < 0) : cmpZ x y = cmpN y.natAbs x.natAbs := by
  unfold cmpZ cmpN
  repeat' split
  all_goals first | rfl | omega
theorem cmpZ_pos2 {x y : Int} (hx : 0 ≤ x) (hy : 0 ≤ y) : cmpZ x y = cmpN x.natAbs y.natAbs := by
  unfold cmpZ cmpN
  repeat' split
  all_goals first | rfl | omega
end Go.Proofs.YtjpalbonclgflaaGreat

/- Contracts and plain laws of several functions, one after the other: RCmp01, RatT. -/
import Derived.Deep.RegionHeld3
import Derived.Test.YtjpalbonclgflaaGreatRadd
import Derived.Test.YtjpalbonclgflaaGreatRatB
/- grooveref01.Compare and Sign, at canonical integers. -/
namespace Go.Proofs.YtjpalbonclgflaaGreat
open Go.RowKit

theorem cmpZ_neg2 {x y : Int} (hx : x < 0) (hy : y < 0) : cmpZ x y = cmpN y.natAbs x.natAbs := by
  unfold cmpZ cmpN
  repeat' split
  all_goals first | rfl | omega
theorem cmpZ_pos2 {x y : Int} (hx : 0 ≤ x) (hy : 0 ≤ y) : cmpZ x y = cmpN x.natAbs y.natAbs := by
  unfold cmpZ cmpN
  repeat' split
  all_goals first | rfl | omega
end Go.Proofs.YtjpalbonclgflaaGreat

/- The table of the operations is read. -/
namespace Go.Proofs.YtjpalbonclgflaaGreat
open Go.RowKit

theorem idx0 (w : World) : (Instr.index 126 (.agg #[.func (.func 166) #[] #[], .func (.func 167) #[] #[], .func (.func 168) #[] #[], .func (.func 169) #[] #[]]) (.int .i64 0)).run Tryz.prog w = .ok (.agg #[.func (.func 166) #[] #[]]) w := by kernel_rfl
theorem idx1 (w : World) : (Instr.index 126 (.agg #[.func (.func 166) #[] #[], .func (.func 167) #[] #[], .func (.func 168) #[] #[], .func (.func 169) #[] #[]]) (.int .i64 1)).run Tryz.prog w = .ok (.agg #[.func (.func 167) #[] #[]]) w := by kernel_rfl
theorem idx2 (w : World) : (Instr.index 126 (.agg #[.func (.func 166) #[] #[], .func (.func 167) #[] #[], .func (.func 168) #[] #[], .func (.func 169) #[] #[]]) (.int .i64 2)).run Tryz.prog w = .ok (.agg #[.func (.func 168) #[] #[]]) w := by kernel_rfl
theorem idx3 (w : World) : (Instr.index 126 (.agg #[.func (.func 166) #[] #[], .func (.func 167) #[] #[], .func (.func 168) #[] #[], .func (.func 169) #[] #[]]) (.int .i64 3)).run Tryz.prog w = .ok (.agg #[.func (.func 169) #[] #[]]) w := by kernel_rfl
theorem fld0 (f : Nat) (w : World) : (Instr.field 125 (.agg #[.func (.func f) #[] #[]]) 0).run Tryz.prog w = .ok (.func (.func f) #[] #[]) w := by kernel_rfl
end Go.Proofs.YtjpalbonclgflaaGreat


/- A block is kept by whatever leaves the old blocks alone. -/
import Derived.Test.YtadibbbaegbljaaBase
namespace Go.Proofs.Ytadibbbaegbljaa
open Go.RowKit
theorem Blk.keep {w w' : World} {b : Nat} {t : TypeId} {xs : List Value} (h : Blk w b t xs) (k : Below w.heap.size w w') : Blk w' b t xs := h.below k h.lt
/-- Two blocks laid one after the other, in a region that draws. -/
theorem two_new (w : World) (t t' : TypeId) (xs ys : List Value) : Blk ((w.alloc (.cells xs.toArray t (0, 0))).alloc (.cells ys.toArray t' (0, 0))).drew w.heap.size t xs ∧ Blk ((w.alloc (.cells xs.toArray t (0, 0))).alloc (.cells ys.toArray t' (0, 0))).drew (w.heap.size + 1) t' ys ∧ Below w.heap.size w ((w.alloc (.cells xs.toArray t (0, 0))).alloc (.cells ys.toArray t' (0, 0))).drew := by
  refine ⟨((Blk.new w t xs).alloc _).drew, ?_, (((Below.refl w.heap.size w).alloc (Nat.le_refl _) _).alloc (by simp) _).drew⟩
  have h := (Blk.new (w.alloc (.cells xs.toArray t (0, 0))) t' ys).drew
  rwa [World.size_alloc] at h
end Go.Proofs.Ytadibbbaegbljaa

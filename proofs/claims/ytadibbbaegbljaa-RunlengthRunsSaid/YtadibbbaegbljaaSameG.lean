/- graph.Same. -/
import Derived.Test.YtadibbbaegbljaaEdges
import Derived.Test.YtadibbbaegbljaaKeep
namespace Go.Proofs.Ytadibbbaegbljaa
open Go.RowKit
set_option maxRecDepth 100000 in
set_option maxHeartbeats 800000 in
theorem same_yes (L S : Int) (es : List E3) (va vb : Value) (w : World) (ha : Row w va es.length (ce es)) (hb : Row w vb es.length (ce es)) :
    Calls Try.prog 34 #[.agg #[.int .i64 L, .int .i64 S, va], .agg #[.int .i64 L, .int .i64 S, vb]] w (Ret w (.bool true)) := by
  have s0 := ((Below.refl w.heap.size w).alloc (Nat.le_refl _) (.cells #[.int .i64 L, .int .i64 S, va] 46)).alloc (by simp) (.cells #[.int .i64 L, .int .i64 S, vb] 46)
  have HA := Lib.hid (ha.below s0 (Nat.le_refl _)); clear ha
  have HB := Lib.hid (hb.below s0 (Nat.le_refl _)); clear hb
  have S0 := Lib.hid s0; clear s0
  have hd : decide (es = es) = true := by simp
  have heq := fun w' h1 h2 => eqEdges_any es es va vb w' h1 h2
  rw [hd] at heq
  have HEQ := Lib.hid heq; clear heq hd
  go_enter Try.func34, Try.ntmps34
  go_wp2_with (go_at_call 38; refine (HEQ.out _ HA.out HB.out).mono ?_; rintro e w1 ⟨hq, rfl⟩; have HQ := Lib.hid hq; clear hq)
  go_ret
  exact ⟨S0.out.trans (HQ.out.mono S0.out.size), rfl⟩
end Go.Proofs.Ytadibbbaegbljaa

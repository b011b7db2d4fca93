/- What is too great: grooveref29.Great, grooveref01.Great, groovelaw29.long. -/
import Derived.Test.YtalipfnbpnkgnaaGreatPart4
namespace Go.Proofs.YtalipfnbpnkgnaaGreat
open Go.RowKit

/-- Some truth value. -/
def SomeB (w : World) (e : Ending) (w' : World) : Prop := Below w.heap.size w w' ∧ ∃ b, e = .returned (.bool b)
set_option maxRecDepth 100000 in
set_option maxHeartbeats 3200000 in
theorem great09_any (L S : Int) (a : Option Addr) (n c : Nat) (w : World) :
    Calls Tryz.prog 61 #[.agg #[.int .i64 L, .int .i64 S, .slice a n c]] w (SomeB w) := by
  have s0 := (Below.refl w.heap.size w).alloc (Nat.le_refl _) (.cells #[.int .i64 L, .int .i64 S, .slice a n c] 24)
  have S0 := Lib.hid s0; clear s0
  go_enter Tryz.func61, Tryz.ntmps61
  go_wp2_with fail
  all_goals
    go_ret
    exact ⟨S0.out, _, rfl⟩
set_option maxRecDepth 100000 in
set_option maxHeartbeats 3200000 in
theorem great29_any (L S : Int) (a : Option Addr) (n c : Nat) (w : World) :
    Calls Tryz.prog 26 #[.agg #[.int .i64 L, .int .i64 S, .slice a n c]] w (SomeB w) := by
  have s0 := (Below.refl w.heap.size w).alloc (Nat.le_refl _) (.cells #[.int .i64 L, .int .i64 S, .slice a n c] 24)
  have b0 := Blk.new w 24 [.int .i64 L, .int .i64 S, .slice a n c]
  have S0 := Lib.hid s0; clear s0
  have B0 := Lib.hid b0; clear b0
  go_enter Tryz.func26, Tryz.ntmps26
  go_wp2_with fail
  go_at_call 61
  refine (great09_any _ _ _ _ _ _).mono ?_
  rintro e w1 ⟨hq, b, rfl⟩
  have s1 := S0.out.trans (hq.mono S0.out.size)
  have tk := B0.out.keep hq; have x0 := tk.cell (j := 0) rfl; have x1 := tk.cell (j := 1) rfl; have x2 := tk.cell (j := 2) rfl; have C0 := Lib.hid tk; clear tk
  have S1 := Lib.hid s1; clear s1
  clear hq
  cases b with
  | true =>
    go_wp2_with fail
    go_ret
    exact ⟨S1.out, _, rfl⟩
  | false =>
    go_wp2_with fail
    all_goals
      go_ret
      exact ⟨S1.out, _, rfl⟩
set_option maxRecDepth 100000 in
set_option maxHeartbeats 3200000 in
theorem great01_any (ng : Bool) (s : ByteArray) (w : World) :
    Calls Tryz.prog 9 #[.agg #[.bool ng, .string s]] w (Ret w (.bool (decide (60 < (s.size : Int))))) := by
  have s0 := (Below.refl w.heap.size w).alloc (Nat.le_refl _) (.cells #[.bool ng, .string s] 33)
  have S0 := Lib.hid s0; clear s0
  by_cases h : 60 < (s.size : Int)
  · have t1 : decide (60 < (s.size : Int)) = true := by simpa using h
    rw [t1]
    go_enter Tryz.func9, Tryz.ntmps9
    go_wp2_with fail
    go_ret
    exact ⟨S0.out, by simp⟩
  · have t1 : decide (60 < (s.size : Int)) = false := by simp; omega
    rw [t1]
    go_enter Tryz.func9, Tryz.ntmps9
    go_wp2_with fail
    go_ret
    exact ⟨S0.out, by simp⟩
set_option maxRecDepth 100000 in
set_option maxHeartbeats 3200000 in
theorem long_any (n : Int) (w : World) : Calls Tryz.prog 7 #[.int .i64 n] w (SomeB w) := by
  go_enter Tryz.func7, Tryz.ntmps7
  go_wp2_with fail
  all_goals
    go_ret
    exact ⟨Below.refl _ _, _, rfl⟩
end Go.Proofs.YtalipfnbpnkgnaaGreat

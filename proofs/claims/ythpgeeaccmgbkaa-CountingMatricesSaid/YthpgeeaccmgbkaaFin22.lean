/- groovelaw22.fine: where it is true the graph is valid, with at most 8 states and 30 edges. -/
import Derived.Test.YthpgeeaccmgbkaaRChk
import Derived.Test.YthpgeeaccmgbkaaPart12
import Derived.Test.YthpgeeaccmgbkaaPart15
namespace Go.Proofs.Ythpgeeaccmgbkaa
open Go.RowKit

def G10Ret (S : Int) (n : Nat) (w : World) (e : Ending) (w' : World) : Prop := Below w.heap.size w w' ∧ ∃ b, e = .returned (.bool b) ∧ (b = false → ¬ (8 < S ∧ S ≤ 64) ∧ ¬ (30 < (n : Int) ∧ (n : Int) ≤ 1024))
set_option maxRecDepth 100000 in
set_option maxHeartbeats 3200000 in
theorem great10_any (L S : Int) (a : Option Addr) (n c : Nat) (w : World) :
    Calls Try.prog 25 #[.agg #[.int .i64 L, .int .i64 S, .slice a n c]] w (G10Ret S n w) := by
  have s0 := (Below.refl w.heap.size w).alloc (Nat.le_refl _) (.cells #[.int .i64 L, .int .i64 S, .slice a n c] 24)
  have S0 := Lib.hid s0; clear s0
  go_enter Try.func25, Try.ntmps25
  go_wp2_with fail
  all_goals
    go_ret
    refine ⟨S0.out, _, rfl, ?_⟩
    intro hb
    first
      | omega
      | (simp at hb; omega)
      | simp at hb
def FineP (L S : Int) (es : List E3) : Prop := chk L S es = 0 ∧ S ≤ 8 ∧ es.length ≤ 30
def FineRet (L S : Int) (es : List E3) (w : World) (e : Ending) (w' : World) : Prop := Below w.heap.size w w' ∧ ∃ b, e = .returned (.bool b) ∧ (b = true → FineP L S es)
set_option maxRecDepth 100000 in
set_option maxHeartbeats 3200000 in
theorem fine22_any (L S : Int) (es : List E3) (v : Value) (w : World) (hr : Row w v es.length (ce es)) :
    Calls Try.prog 9 #[.agg #[.int .i64 L, .int .i64 S, v]] w (FineRet L S es w) := by
  obtain ⟨va, vc, rfl, hle⟩ := hr.slice
  obtain ⟨mm, hmm⟩ : ∃ mm, mm = es.length := ⟨_, rfl⟩
  have s0 := (Below.refl w.heap.size w).alloc (Nat.le_refl _) (.cells #[.int .i64 L, .int .i64 S, .slice va es.length vc] 24)
  have b0 := Blk.new w 24 [.int .i64 L, .int .i64 S, .slice va es.length vc]
  have hrc := fun w' h => rcheck_any L S es (.slice va es.length vc) w' h
  have hr0 := hr.below s0 (Nat.le_refl _)
  have hF : chk L S es = 0 → ¬ (8 < S ∧ S ≤ 64) → ¬ (30 < (es.length : Int) ∧ (es.length : Int) ≤ 1024) → FineP L S es := fun h h1 h2 => by
    have := chk_all h
    exact ⟨h, by omega, by omega⟩
  obtain ⟨C, hC⟩ : ∃ C, C = chk L S es := ⟨_, rfl⟩
  rw [← hC] at hrc hF
  rw [← hmm] at s0 b0 hrc hr0 hF
  have hga := fun w' => great10_any L S va mm vc w'
  have HMM := Lib.hid hmm; clear hmm
  have S0 := Lib.hid s0; clear s0
  have B0 := Lib.hid b0; clear b0
  have HF := Lib.hid hF; clear hF
  have HRC := Lib.hid hrc; clear hrc
  have HGA := Lib.hid hga; clear hga
  have HR0 := Lib.hid hr0; clear hr0
  clear hr hC
  go_enter Try.func9, Try.ntmps9
  rw [← HMM.out]
  go_wp2_with fail
  go_at_call 25
  refine (HGA.out _).mono ?_
  rintro e w1 ⟨hq, b, rfl, hb⟩
  have s1 := S0.out.trans (hq.mono S0.out.size)
  have hr1 := HR0.out.below hq (Nat.le_refl _)
  have tk := B0.out.keep hq; have x0 := tk.cell (j := 0) rfl; have x1 := tk.cell (j := 1) rfl; have x2 := tk.cell (j := 2) rfl; have C0 := Lib.hid tk; clear tk
  have S1 := Lib.hid s1; clear s1
  have HR1 := Lib.hid hr1; clear hr1
  clear hq
  cases b with
  | true =>
    go_wp2_with fail
    go_ret
    exact ⟨S1.out, _, rfl, fun h => by cases h⟩
  | false =>
    obtain ⟨g1, g2⟩ := hb rfl
    go_wp2_with fail
    go_at_call 26
    refine (HRC.out _ HR1.out).mono ?_
    rintro e w2 ⟨hq, rfl⟩
    have s2 := S1.out.trans (hq.mono S1.out.size)
    have S2 := Lib.hid s2; clear s2
    clear hq
    by_cases hd0 : C = 0
    · have t0 : (C == 0) = true := by simp [hd0]
      go_wp2_with fail
      go_ret
      exact ⟨S2.out, _, rfl, fun _ => HF.out hd0 g1 g2⟩
    · have t0 : (C == 0) = false := by simp [hd0]
      go_wp2_with fail
      go_ret
      exact ⟨S2.out, _, rfl, fun h => by cases h⟩
end Go.Proofs.Ythpgeeaccmgbkaa

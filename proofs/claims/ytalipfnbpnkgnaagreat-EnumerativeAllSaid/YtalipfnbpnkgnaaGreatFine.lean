/- groovelaw29.fine: where it is true the graph is valid, deterministic, has states, and at most 4 labels. -/
import Derived.Test.YtalipfnbpnkgnaaGreatGreat29
import Derived.Test.YtalipfnbpnkgnaaGreatDet
import Derived.Test.YtalipfnbpnkgnaaGreatEPrc
namespace Go.Proofs.YtalipfnbpnkgnaaGreat
open Go.RowKit

set_option maxRecDepth 100000 in
set_option maxHeartbeats 3200000 in
theorem great29_lab (L S : Int) (a : Option Addr) (n c : Nat) (w : World) (h4 : 4 < L) (h16 : L ≤ 16) :
    Calls Tryz.prog 26 #[.agg #[.int .i64 L, .int .i64 S, .slice a n c]] w (Ret w (.bool true)) := by
  have s0 := (Below.refl w.heap.size w).alloc (Nat.le_refl _) (.cells #[.int .i64 L, .int .i64 S, .slice a n c] 24)
  have b0 := Blk.new w 24 [.int .i64 L, .int .i64 S, .slice a n c]
  have t4 : decide (4 < L) = true := by simpa using h4
  have t16 : decide (L ≤ 16) = true := by simpa using h16
  have S0 := Lib.hid s0; clear s0
  have B0 := Lib.hid b0; clear b0
  go_enter Tryz.func26, Tryz.ntmps26
  go_wp2_with fail
  go_at_call 61
  refine (great09_any _ _ _ _ _ _).mono ?_
  rintro e w1 ⟨hq, b, rfl⟩
  have s1 := S0.out.trans (hq.mono S0.out.size)
  have tk := B0.out.keep hq; have x0 := tk.cell (j := 0) rfl; have x1 := tk.cell (j := 1) rfl; have x2 := tk.cell (j := 2) rfl; have C0 := Lib.hid tk; clear tk
  have S1 := Lib.hid s1; clear s1
  clear hq
  cases b with
  | true =>
    go_wp2_with fail
    go_ret
    exact ⟨S1.out, rfl⟩
  | false =>
    go_wp2_with fail
    all_goals
      go_ret
      first
        | exact ⟨S1.out, rfl⟩
        | exact ⟨S1.out, by simp [*]⟩
def FineP (L S : Int) (es : List E3) : Prop := eck L S es = 0 ∧ 0 < S ∧ L ≤ 4
def FineRet (L S : Int) (es : List E3) (w : World) (e : Ending) (w' : World) : Prop := Below w.heap.size w w' ∧ ∃ b, e = .returned (.bool b) ∧ (b = true → FineP L S es)
set_option maxRecDepth 100000 in
set_option maxHeartbeats 3200000 in
theorem fine_any (L S : Int) (es : List E3) (v : Value) (w : World) (hr : Row w v es.length (ce es)) (hok : okEs es) :
    Calls Tryz.prog 17 #[.agg #[.int .i64 L, .int .i64 S, v]] w (FineRet L S es w) := by
  obtain ⟨va, vc, rfl, hle⟩ := hr.slice
  obtain ⟨mm, hmm⟩ : ∃ mm, mm = es.length := ⟨_, rfl⟩
  have s0 := (Below.refl w.heap.size w).alloc (Nat.le_refl _) (.cells #[.int .i64 L, .int .i64 S, .slice va es.length vc] 24)
  have b0 := Blk.new w 24 [.int .i64 L, .int .i64 S, .slice va es.length vc]
  have hdt := det_any L S es (.slice va es.length vc) _ (hr.below s0 (Nat.le_refl _)) hok
  obtain ⟨dis, hdis⟩ : ∃ dis, dis = (decide (chk L S es = 0) && detB es) := ⟨_, rfl⟩
  obtain ⟨der, hder⟩ : ∃ der : Int, der = (if chk L S es = 0 then 0 else 1) := ⟨_, rfl⟩
  have hF : dis = true → 0 < S → L ≤ 16 → ¬ 4 < L → FineP L S es := by
    intro h1 h2 h3 h4
    rw [hdis, Bool.and_eq_true, decide_eq_true_eq] at h1
    refine ⟨?_, h2, by omega⟩
    unfold eck
    rw [if_neg (by simp [h1.1]), if_neg (by omega), if_pos h1.2]
  rw [← hdis, ← hder] at hdt
  rw [← hmm] at hdt s0 b0
  have hgl := fun w' h4 h16 => great29_lab L S va mm vc w' h4 h16
  have hga := fun w' => great29_any L S va mm vc w'
  have HMM := Lib.hid hmm; clear hmm
  have HDT := Lib.hid hdt; clear hdt
  have S0 := Lib.hid s0; clear s0
  have B0 := Lib.hid b0; clear b0
  have HF := Lib.hid hF; clear hF
  have HGL := Lib.hid hgl; clear hgl
  have HGA := Lib.hid hga; clear hga
  clear hr hok hdis hder
  go_enter Tryz.func17, Tryz.ntmps17
  rw [← HMM.out]
  go_wp2_with fail
  go_at_call 48
  refine HDT.out.mono ?_
  rintro e w1 ⟨hq, rfl⟩
  have s1 := S0.out.trans (hq.mono S0.out.size)
  have tk := B0.out.keep hq; have x0 := tk.cell (j := 0) rfl; have x1 := tk.cell (j := 1) rfl; have x2 := tk.cell (j := 2) rfl; have C0 := Lib.hid tk; clear tk
  have S1 := Lib.hid s1; clear s1
  clear hq
  go_wp2_with fail
  go_at_call 26
  by_cases hb : 4 < L ∧ L ≤ 16
  · refine (HGL.out _ hb.1 hb.2).mono ?_
    rintro e w2 ⟨hq, rfl⟩
    have s2 := S1.out.trans (hq.mono S1.out.size)
    clear x0 x1 x2
    have tk := C0.out.keep hq; have x0 := tk.cell (j := 0) rfl; have x1 := tk.cell (j := 1) rfl; have x2 := tk.cell (j := 2) rfl; have D0 := Lib.hid tk; clear tk
    have S2 := Lib.hid s2; clear s2
    clear hq
    go_wp2_with fail
    go_ret
    exact ⟨S2.out, _, rfl, fun h => by cases h⟩
  · refine (HGA.out _).mono ?_
    rintro e w2 ⟨hq, b, rfl⟩
    have s2 := S1.out.trans (hq.mono S1.out.size)
    clear x0 x1 x2
    have tk := C0.out.keep hq; have x0 := tk.cell (j := 0) rfl; have x1 := tk.cell (j := 1) rfl; have x2 := tk.cell (j := 2) rfl; have D0 := Lib.hid tk; clear tk
    have S2 := Lib.hid s2; clear s2
    clear hq
    cases b with
    | true =>
      go_wp2_with fail
      go_ret
      exact ⟨S2.out, _, rfl, fun h => by cases h⟩
    | false =>
      cases dis with
      | false =>
        by_cases hd0 : der = 0
        · have t0 : (der == 0) = true := by simp [hd0]
          go_wp2_with fail
          go_ret
          exact ⟨S2.out, _, rfl, fun h => by cases h⟩
        · have t0 : (der == 0) = false := by simp [hd0]
          go_wp2_with fail
          go_ret
          exact ⟨S2.out, _, rfl, fun h => by cases h⟩
      | true =>
        by_cases hd0 : der = 0
        · have t0 : (der == 0) = true := by simp [hd0]
          by_cases hS : 0 < S
          · have tS : decide (0 < S) = true := by simpa using hS
            by_cases hL : L ≤ 16
            · have tL : decide (L ≤ 16) = true := by simpa using hL
              have hf := HF.out rfl hS hL (by omega)
              have HFP := Lib.hid hf; clear hf
              go_wp2_with fail
              go_ret
              exact ⟨S2.out, _, rfl, fun _ => HFP.out⟩
            · have tL : decide (L ≤ 16) = false := by simpa using hL
              go_wp2_with fail
              go_ret
              exact ⟨S2.out, _, rfl, fun h => by cases h⟩
          · have tS : decide (0 < S) = false := by simpa using hS
            go_wp2_with fail
            go_ret
            exact ⟨S2.out, _, rfl, fun h => by cases h⟩
        · have t0 : (der == 0) = false := by simp [hd0]
          go_wp2_with fail
          go_ret
          exact ⟨S2.out, _, rfl, fun h => by cases h⟩
end Go.Proofs.YtalipfnbpnkgnaaGreat

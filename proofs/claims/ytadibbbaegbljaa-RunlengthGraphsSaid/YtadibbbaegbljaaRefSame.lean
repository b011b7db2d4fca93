/- grooveref09.Same at equal graphs. -/
import Derived.Test.YtadibbbaegbljaaEdgeA
import Derived.Test.YtadibbbaegbljaaKeep
import Derived.BigQuiet
namespace Go.Proofs.Ytadibbbaegbljaa
open Go.RowKit

set_option maxRecDepth 100000 in
set_option maxHeartbeats 1600000 in
theorem rsame_yes (L S : Int) (es : List E3) (va vb : Value) (w : World) (ha : Row w va es.length (ce es)) (hb : Row w vb es.length (ce es)) :
    Calls Try.prog 31 #[.agg #[.int .i64 L, .int .i64 S, va], .agg #[.int .i64 L, .int .i64 S, vb]] w (Ret w (.bool true)) := by
  obtain ⟨a_s, cs, rfl, hls⟩ := ha.slice
  obtain ⟨a_t, ct, rfl, -⟩ := hb.slice
  have s0 := ((Below.refl w.heap.size w).alloc (Nat.le_refl _) (.cells #[.int .i64 L, .int .i64 S, .slice a_s es.length cs] 46)).alloc (by simp) (.cells #[.int .i64 L, .int .i64 S, .slice a_t es.length ct] 46)
  obtain ⟨n, hn⟩ : ∃ n, n = es.length := ⟨_, rfl⟩
  rw [← hn] at ha hb hls s0 ⊢
  have ba := (Blk.new w 46 [.int .i64 L, .int .i64 S, .slice a_s n cs]).alloc (.cells #[.int .i64 L, .int .i64 S, .slice a_t n ct] 46)
  have bb := Blk.new (w.alloc (.cells #[.int .i64 L, .int .i64 S, .slice a_s n cs] 46)) 46 [.int .i64 L, .int .i64 S, .slice a_t n ct]
  simp only [World.size_alloc] at bb
  have HS := Lib.hid (ha.below s0 (Nat.le_refl _)); clear ha
  have HT := Lib.hid (hb.below s0 (Nat.le_refl _)); clear hb
  have HN := Lib.hid hn; clear hn
  have hba0 := ba.cell (j := 0) rfl
  have hba1 := ba.cell (j := 1) rfl
  have hba2 := ba.cell (j := 2) rfl
  have hbb0 := bb.cell (j := 0) rfl
  have hbb1 := bb.cell (j := 1) rfl
  have hbb2 := bb.cell (j := 2) rfl
  have BA := Lib.hid ba; clear ba
  have BB := Lib.hid bb; clear bb
  have S0 := Lib.hid s0; clear s0
  go_enter Try.func31, Try.ntmps31
  go_wp2_with fail
  obtain ⟨W, hW⟩ : ∃ W, W = (w.alloc (.cells #[.int .i64 L, .int .i64 S, .slice a_s n cs] 46)).alloc (.cells #[.int .i64 L, .int .i64 S, .slice a_t n ct] 46) := ⟨_, rfl⟩
  rw [← hW] at HS HT BA BB S0
  have hW' := Lib.hid hW; clear hW
  clear hba0 hba1 hba2 hbb0 hbb1 hbb2
  go_loopw [5] (fun i wr => ∃ k : Nat, k ≤ n ∧ i = .int .i64 k ∧ Below W.heap.size W wr) (fun i _ => n - (intOf i).toNat)
  case atStart => exact ⟨0, Nat.zero_le _, rfl, by rw [hW'.out]; exact Below.refl _ _⟩
  case round =>
    obtain ⟨k, hk, rfl, hbel⟩ := hrel
    have ba := BA.out.keep hbel
    have bb := BB.out.keep hbel
    have a2 := ba.cell (j := 2) rfl
    have b2 := bb.cell (j := 2) rfl
    have HBA := Lib.hid ba; clear ba
    have HBB := Lib.hid bb; clear bb
    have HB := Lib.hid hbel; clear hbel
    by_cases hlt2 : k < n
    · have g1 : es[k]? = some (es[k]'(by rw [← HN.out]; exact hlt2)) := List.getElem?_eq_getElem _
      obtain ⟨x, hx⟩ : ∃ x, x = es[k]'(by rw [← HN.out]; exact hlt2) := ⟨_, rfl⟩
      rw [← hx] at g1; clear hx
      obtain ⟨b1, o1, rfl, hb1, hc1⟩ := HS.out.at_ (by omega)
      obtain ⟨b2', o2, rfl, hb2, hc2⟩ := HT.out.at_ (by omega)
      obtain ⟨p0, p1, p2⟩ := edge_cells hc1 HB.out hb1 g1
      obtain ⟨q0, q1, q2⟩ := edge_cells hc2 HB.out hb2 g1
      clear hc1 hc2
      have hneq := neq_edge x x
      have hd : (decide (x = x)) = true := by simp
      rw [hd] at hneq
      clear hd g1
      go_wp2_with fail
      go_quiet (fail)
      go_wp2_with fail
      go_roundw
      case rel => exact ⟨k + 1, by omega, by go_num, below_drewN HB.out _⟩
      case measure => simp [intOf]; omega
    · go_wp2_with fail
      go_ret
      exact ⟨S0.out.trans (HB.out.mono S0.out.size), rfl⟩
end Go.Proofs.Ytadibbbaegbljaa

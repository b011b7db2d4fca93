/- groovelaw09.Golden, and what Principal and Bits tell of it. -/
import Derived.Test.YtalipfnbpnkgnaaGreatEPrc
import Derived.Test.YtalipfnbpnkgnaaGreatPart13
namespace Go.Proofs.YtalipfnbpnkgnaaGreat
open Go.RowKit

def goldE : List E3 := [⟨0, 0, 0⟩, ⟨0, 1, 1⟩, ⟨1, 0, 0⟩]
theorem gold_eck : eck 2 2 goldE = 0 := by decide
theorem gold_ok : okEs goldE := by
  intro e he
  simp only [goldE, List.mem_cons, List.not_mem_nil, or_false] at he
  rcases he with rfl | rfl | rfl <;> (intro x hx; simp only [List.mem_cons, List.not_mem_nil, or_false] at hx; omega)
theorem gold_up : uptoZ 2 = [0, 1] := by decide
theorem gold_prin : prin goldE 3 3 (uptoZ 2) = [0, 1] := by
  rw [gold_up]
  exact prin_stop (by decide)
theorem gold_prcP : prcP 2 2 goldE 3 (ineg 3) (imag 3) = ([0, 1], 0) := by
  have h3 : ival (ineg 3) (imag 3) = 3 := ival_canon 3
  have hc : cnB (ineg 3) (imag 3) = true := (cnB_iff _ _).2 (by rw [h3]; exact ⟨rfl, rfl⟩)
  unfold prcP
  rw [if_neg (by rw [gold_eck]; decide), if_neg (by decide), hc, if_neg (by decide), h3, if_neg (by decide)]
  have h2 : prin goldE (3 : Int).toNat 3 (uptoZ (2 : Int).toNat) = [0, 1] := gold_prin
  rw [h2, if_neg (by decide)]
theorem gold_has2 : hasB 2 goldE 4 2 = true := by
  have h : prin goldE 4 ((2 ^ 2 : Nat) : Int) (uptoZ 2) = [0, 1] := by
    rw [gold_up]
    exact prin_stop (by decide)
  unfold hasB
  rw [h]; rfl
theorem gold_has3 : hasB 2 goldE 4 3 = false := by
  have h : prin goldE 4 ((2 ^ 3 : Nat) : Int) (uptoZ 2) = [] := by
    rw [gold_up, prin_go (by decide)]
    have e : keepS goldE 4 ((2 ^ 3 : Nat) : Int) [0, 1] = [0] := by decide
    rw [e, prin_go (by decide)]
    have e2 : keepS goldE 4 ((2 ^ 3 : Nat) : Int) [0] = [] := by decide
    rw [e2]
    exact prin_stop (by decide)
  unfold hasB
  rw [h]; rfl
/-- What Golden returns. -/
def GoldRet (w : World) (e : Ending) (w' : World) : Prop :=
  Below w.heap.size w w' ∧ ∃ v, e = .returned (.agg #[.int .i64 2, .int .i64 2, v]) ∧ Row w' v 3 (ce goldE)
set_option maxRecDepth 100000 in
set_option maxHeartbeats 3200000 in
theorem golden_any (w : World) : Calls Tryz.prog 28 #[] w (GoldRet w) := by
  have b0 := (Blk.new w 24 [.int .i64 2, .int .i64 2, .slice (some ⟨w.heap.size + 1, 0, none⟩) 3 3]).alloc (.cells #[.int .i64 0, .int .i64 0, .int .i64 0, .int .i64 0, .int .i64 1, .int .i64 1, .int .i64 1, .int .i64 0, .int .i64 0] 111)
  have b1 := Blk.new (w.alloc (.cells #[.int .i64 2, .int .i64 2, .slice (some ⟨w.heap.size + 1, 0, none⟩) 3 3] 24)) 111 (ce goldE)
  simp only [World.size_alloc] at b1
  have x0 := b0.cell (j := 0) rfl
  have x1 := b0.cell (j := 1) rfl
  have x2 := b0.cell (j := 2) rfl
  have s0 := ((Below.refl w.heap.size w).alloc (Nat.le_refl _) (.cells #[.int .i64 2, .int .i64 2, .slice (some ⟨w.heap.size + 1, 0, none⟩) 3 3] 24)).alloc (by simp) (.cells #[.int .i64 0, .int .i64 0, .int .i64 0, .int .i64 0, .int .i64 1, .int .i64 1, .int .i64 1, .int .i64 0, .int .i64 0] 111)
  have hrow := Row.ofBlk b1 (m := 3) (cap := 3) (Nat.le_refl _) (by decide) 9
  have S0 := Lib.hid s0; clear s0
  have HROW := Lib.hid hrow; clear hrow
  clear b0 b1
  go_enter Tryz.func28, Tryz.ntmps28
  go_wp2_with fail
  refine bodyPost_ret (v := .agg #[.int .i64 2, .int .i64 2, .slice (some ⟨w.heap.size + 1, 0, none⟩) 3 3]) (by simp [results, Tryz.results28, go_sem, x0, x1, x2]) rfl ⟨S0.out, _, rfl, HROW.out⟩
end Go.Proofs.YtalipfnbpnkgnaaGreat

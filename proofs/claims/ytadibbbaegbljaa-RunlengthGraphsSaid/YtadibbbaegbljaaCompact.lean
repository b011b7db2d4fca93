/- The contract of slices.Compact at edges without equal neighbours: it returns its argument; nothing that was there is changed. -/
import Derived.Test.YtadibbbaegbljaaEdges
namespace Go.Proofs.Ytadibbbaegbljaa
open Go.RowKit

/-- No two neighbours are equal. -/
def NoTwins (es : List E3) : Prop := ∀ k x y, es[k]? = some x → es[k + 1]? = some y → x ≠ y

set_option maxRecDepth 100000 in
set_option maxHeartbeats 1600000 in
theorem compactEdges_any (es : List E3) (v : Value) (w : World) (hr : Row w v es.length (ce es)) (hno : NoTwins es) :
    Calls Try.prog 92 #[v] w (Ret w v) := by
  obtain ⟨a, c, rfl, hle⟩ := hr.slice
  have HR := Lib.hid hr; clear hr
  have HNO := Lib.hid hno; clear hno
  obtain ⟨n, hn⟩ : ∃ n, n = es.length := ⟨_, rfl⟩
  rw [← hn] at HR hle ⊢
  have HN := Lib.hid hn; clear hn
  by_cases h2 : n < 2
  · go_enter Try.func92, Try.ntmps92
    go_wp2_with fail
    go_ret
    exact ⟨Below.refl _ _, rfl⟩
  · obtain ⟨b, off, rfl, hb, hc⟩ := HR.out.at_ (by omega)
    have HC := Lib.hid hc; clear hc
    go_enter Try.func92, Try.ntmps92
    go_wp2_with fail
    go_loopw [3] (fun i wr => ∃ k : Nat, 1 ≤ k ∧ k ≤ n ∧ i = .int .i64 k ∧ Below w.heap.size w wr) (fun i _ => n - (intOf i).toNat)
    case atStart => exact ⟨1, Nat.le_refl _, by omega, rfl, Below.refl _ _⟩
    case round =>
      obtain ⟨k, hk1, hk, rfl, hbel⟩ := hrel
      have HB := Lib.hid hbel; clear hbel
      by_cases hlt : k < n
      · have g1 : es[k]? = some (es[k]'(by rw [← HN.out]; exact hlt)) := List.getElem?_eq_getElem _
        obtain ⟨x, hx⟩ : ∃ x, x = es[k]'(by rw [← HN.out]; exact hlt) := ⟨_, rfl⟩
        rw [← hx] at g1; clear hx
        have hl2 : k - 1 < es.length := by rw [← HN.out]; omega
        have g2 : es[k - 1]? = some (es[k - 1]'hl2) := List.getElem?_eq_getElem _
        obtain ⟨y, hy⟩ : ∃ y, y = es[k - 1]'hl2 := ⟨_, rfl⟩
        rw [← hy] at g2; clear hy hl2
        have hxy : ¬ x = y := fun e => HNO.out (k - 1) y x g2 (by rw [Nat.sub_add_cancel hk1]; exact g1) e.symm
        obtain ⟨p0, p1, p2⟩ := edge_cells HC.out HB.out hb g1
        obtain ⟨q0, q1, q2⟩ := edge_cells HC.out HB.out hb g2
        have heq := eql_edge x y
        have hd : (decide (x = y)) = false := by simp [hxy]
        rw [hd] at heq
        clear hd g1 g2
        have HXY := Lib.hid hxy; clear hxy
        go_wp2_with fail
        have hw2 : (0 : Int) ≤ (k : Int) - 1 := by omega
        have hw2' : (1 : Int) ≤ (k : Int) := by omega
        have hw4 : (k : Int) - 1 < n := by omega
        have hw1 : IntKind.i64.wrap ((k : Int) - 1) = (k : Int) - 1 := IntWalk.i64_in _ (by omega)
        have hw3 : ((k : Int) - 1).toNat = k - 1 := by omega
        go_quiet (fail)
        clear hw1 hw3
        go_wp2_with fail
        go_roundw
        case rel => exact ⟨k + 1, by omega, by omega, by go_num, below_drewN HB.out _⟩
        case measure => simp [intOf]; omega
      · go_wp2_with fail
        go_ret
        exact ⟨HB.out, rfl⟩
end Go.Proofs.Ytadibbbaegbljaa

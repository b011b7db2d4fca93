/- graph.checkSet, where the set is one. -/
import Derived.Test.YtadibbbaegbljaaLeave
import Derived.Test.YtadibbbaegbljaaShelf
namespace Go.Proofs.Ytadibbbaegbljaa
open Go.RowKit

/-- A set of states: ascending, within range. -/
def IsSet (S : Int) (set : List Int) : Prop := (∀ s ∈ set, 0 ≤ s ∧ s < S) ∧ set.Pairwise (· < ·)
theorem IsSet.next {S : Int} {set : List Int} (h : IsSet S set) {k : Nat} {x y : Int} (hx : set[k]? = some x) (hy : set[k + 1]? = some y) : x < y := by
  obtain ⟨h1, rfl⟩ := List.getElem?_eq_some_iff.1 hx
  obtain ⟨h2, rfl⟩ := List.getElem?_eq_some_iff.1 hy
  exact List.pairwise_iff_getElem.1 h.2 k (k + 1) h1 h2 (by omega)
set_option maxRecDepth 100000 in
set_option maxHeartbeats 800000 in
theorem checkSet_ok (L S : Int) (v vs : Value) (set : List Int) (w : World) (hr : Row w vs set.length (ci set)) (hs : IsSet S set) :
    Calls Try.prog 78 #[.agg #[.int .i64 L, .int .i64 S, v], vs] w (Ret w (.int .i64 0)) := by
  obtain ⟨a, cap, rfl, hcap⟩ := hr.slice
  have hbS := Blk.new w 46 [.int .i64 L, .int .i64 S, v]
  have cS := hbS.cell (j := 1) rfl
  clear hbS
  go_enter Try.func78, Try.ntmps78
  go_wp2_with fail
  go_loop [9] (fun i => ∃ k : Nat, k ≤ set.length ∧ i = .int .i64 k) (fun i => set.length - (intOf i).toNat)
  case atStart => exact ⟨0, Nat.zero_le _, rfl⟩
  case round =>
    obtain ⟨k, hk, rfl⟩ := hrel
    by_cases hlt : k < set.length
    · obtain ⟨b, off, rfl, hbl, hce⟩ := hr.at_ (by omega)
      obtain ⟨x, hx⟩ : ∃ x, set[k]? = some x := ⟨set[k], by simp [hlt]⟩
      have c0 := (below_new w (.cells #[.int .i64 L, .int .i64 S, v] 46) hbl (off + k)).trans (hce _ _ (ci_get hx))
      have hx1 := hs.1 x (List.mem_of_getElem? hx)
      by_cases hk0 : k = 0
      · subst hk0
        rw [Nat.add_zero] at c0
        have HX := Lib.hid hx; clear hx
        go_wp2_with fail
        go_round
        case rel => exact ⟨1, by omega, by go_num⟩
        case measure => simp [intOf]; omega
      · obtain ⟨y, hy⟩ : ∃ y, set[k - 1]? = some y := ⟨set[k - 1], List.getElem?_eq_getElem (by omega)⟩
        have hyx : y < x := hs.next hy (by rw [show k - 1 + 1 = k by omega]; exact hx)
        have c1 := (below_new w (.cells #[.int .i64 L, .int .i64 S, v] 46) hbl (off + (k - 1))).trans (hce _ _ (ci_get hy))
        have HX := Lib.hid hx; clear hx
        have HY := Lib.hid hy; clear hy
        have hk1 : 0 < k := by omega
        clear hk0
        go_wp2_with fail
        go_round
        case rel => exact ⟨k + 1, by omega, by go_num⟩
        case measure => simp [intOf]; omega
    · obtain rfl : k = set.length := by omega
      go_wp2_with fail
      go_ret
      exact ⟨(Below.refl _ _).alloc (Nat.le_refl _) _, rfl⟩
end Go.Proofs.Ytadibbbaegbljaa

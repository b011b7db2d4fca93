/- slices.Equal at ints: of equal rows. -/
import Derived.BigQuiet
import Derived.Test.YtalipfnbpnkgnaaGreatDel
namespace Go.Proofs.YtalipfnbpnkgnaaGreat
open Go.RowKit

set_option maxRecDepth 100000 in
set_option maxHeartbeats 3200000 in
theorem equalZ_yes (l : List Int) (va vb : Value) (w : World) (ha : Row w va l.length (ci l)) (hb : Row w vb l.length (ci l)) :
    Calls Tryz.prog 24 #[va, vb] w (Ret w (.bool true)) := by
  obtain ⟨a1, c1, rfl, hle⟩ := ha.slice
  obtain ⟨a2, c2, rfl, -⟩ := hb.slice
  obtain ⟨n, hn⟩ : ∃ n, n = l.length := ⟨_, rfl⟩
  rw [← hn] at ha hb hle ⊢
  have HA := Lib.hid ha; clear ha
  have HB := Lib.hid hb; clear hb
  have HN := Lib.hid hn; clear hn
  have hne : ((n : Int) != (n : Int)) = false := by simp
  go_enter Tryz.func24, Tryz.ntmps24
  go_wp2_with fail
  go_loopw [5, 13] (fun _ i wr => ∃ k : Nat, k ≤ n ∧ i = .int .i64 k ∧ Below w.heap.size w wr) (fun _ i _ => n - (intOf i).toNat)
  case atStart => exact ⟨0, Nat.zero_le _, rfl, Below.refl _ _⟩
  case round =>
    obtain ⟨k, hk, rfl, hbel⟩ := hrel
    have HBEL := Lib.hid hbel; clear hbel
    by_cases hlt : k < n
    · have hget : l[k]? = some (l[k]'(by rw [← HN.out]; exact hlt)) := List.getElem?_eq_getElem _
      obtain ⟨x, hx⟩ : ∃ x, x = l[k]'(by rw [← HN.out]; exact hlt) := ⟨_, rfl⟩
      rw [← hx] at hget
      obtain ⟨b1, o1, rfl, hb1, hc1⟩ := HA.out.at_ (by omega)
      obtain ⟨b2, o2, rfl, hb2, hc2⟩ := HB.out.at_ (by omega)
      have x0 := (HBEL.out.cell (p := ⟨b1, o1 + k, none⟩) hb1).trans (hc1 k _ (ci_at hget))
      have x1 := (HBEL.out.cell (p := ⟨b2, o2 + k, none⟩) hb2).trans (hc2 k _ (ci_at hget))
      have hxx : (x != x) = false := by simp
      clear hx hget hc1 hc2
      go_wp2_with fail
      go_quiet (fail)
      go_wp2_with fail
      go_roundw
      case rel => exact ⟨k + 1, by omega, by go_num, below_drewN HBEL.out _⟩
      case measure => simp [intOf]; omega
    · obtain rfl : k = n := by omega
      go_wp2_with fail
      go_ret
      exact ⟨HBEL.out, rfl⟩
end Go.Proofs.YtalipfnbpnkgnaaGreat

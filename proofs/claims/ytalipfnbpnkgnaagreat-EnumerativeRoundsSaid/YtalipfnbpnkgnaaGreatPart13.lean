/- Contracts and plain laws of several functions, one after the other: EqZ, Cont. -/
import Derived.BigQuiet
import Derived.Test.YtalipfnbpnkgnaaGreatPart2
/- slices.Equal at ints: of equal rows. -/
namespace Go.Proofs.YtalipfnbpnkgnaaGreat
open Go.RowKit

set_option maxRecDepth 100000 in
set_option maxHeartbeats 3200000 in
theorem equalZ_yes (l : List Int) (va vb : Value) (w : World) (ha : Row w va l.length (ci l)) (hb : Row w vb l.length (ci l)) :
    Calls Tryz.prog 24 #[va, vb] w (Ret w (.bool true)) := by
  obtain ⟨a1, c1, rfl, hle⟩ := ha.slice
  obtain ⟨a2, c2, rfl, -⟩ := hb.slice
  obtain ⟨n, hn⟩ : ∃ n, n = l.length := ⟨_, rfl⟩
  rw [← hn] at ha hb hle ⊢
  have HA := Lib.hid ha; clear ha
  have HB := Lib.hid hb; clear hb
  have HN := Lib.hid hn; clear hn
  have hne : ((n : Int) != (n : Int)) = false := by simp
  go_enter Tryz.func24, Tryz.ntmps24
  go_wp2_with fail
  go_loopw [5, 13] (fun _ i wr => ∃ k : Nat, k ≤ n ∧ i = .int .i64 k ∧ Below w.heap.size w wr) (fun _ i _ => n - (intOf i).toNat)
  case atStart => exact ⟨0, Nat.zero_le _, rfl, Below.refl _ _⟩
  case round =>
    obtain ⟨k, hk, rfl, hbel⟩ := hrel
    have HBEL := Lib.hid hbel; clear hbel
    by_cases hlt : k < n
    · have hget : l[k]? = some (l[k]'(by rw [← HN.out]; exact hlt)) := List.getElem?_eq_getElem _
      obtain ⟨x, hx⟩ : ∃ x, x = l[k]'(by rw [← HN.out]; exact hlt) := ⟨_, rfl⟩
      rw [← hx] at hget
      obtain ⟨b1, o1, rfl, hb1, hc1⟩ := HA.out.at_ (by omega)
      obtain ⟨b2, o2, rfl, hb2, hc2⟩ := HB.out.at_ (by omega)
      have x0 := (HBEL.out.cell (p := ⟨b1, o1 + k, none⟩) hb1).trans (hc1 k _ (ci_at hget))
      have x1 := (HBEL.out.cell (p := ⟨b2, o2 + k, none⟩) hb2).trans (hc2 k _ (ci_at hget))
      have hxx : (x != x) = false := by simp
      clear hx hget hc1 hc2
      go_wp2_with fail
      go_quiet (fail)
      go_wp2_with fail
      go_roundw
      case rel => exact ⟨k + 1, by omega, by go_num, below_drewN HBEL.out _⟩
      case measure => simp [intOf]; omega
    · obtain rfl : k = n := by omega
      go_wp2_with fail
      go_ret
      exact ⟨HBEL.out, rfl⟩
end Go.Proofs.YtalipfnbpnkgnaaGreat

/- slices.Contains at a row of ints. -/
namespace Go.Proofs.YtalipfnbpnkgnaaGreat
open Go.RowKit

def IdxRet (x : Int) (l : List Int) (w : World) (e : Ending) (w' : World) : Prop := Below w.heap.size w w' ∧ ∃ z : Int, e = .returned (.int .i64 z) ∧ decide (0 ≤ z) = decide (x ∈ l)
set_option maxRecDepth 100000 in
set_option maxHeartbeats 3200000 in
theorem index_any (l : List Int) (v : Value) (x : Int) (w : World) (hr : Row w v l.length (ci l)) (hl : l.length ≤ 1000000) :
    Calls Tryz.prog 60 #[v, .int .i64 x] w (IdxRet x l w) := by
  obtain ⟨va, vc, rfl, hle⟩ := hr.slice
  obtain ⟨m, hm⟩ : ∃ m, m = l.length := ⟨_, rfl⟩
  rw [← hm] at hr hle hl ⊢
  have HR := Lib.hid hr; clear hr
  have HM := Lib.hid hm; clear hm
  go_enter Tryz.func60, Tryz.ntmps60
  go_wp2_with fail
  go_loopw [8] (fun i wr => ∃ j : Nat, j ≤ m ∧ i = .int .i64 j ∧ wr = w ∧ x ∉ l.take j) (fun i _ => m - (intOf i).toNat)
  case atStart => exact ⟨0, Nat.zero_le _, rfl, rfl, by simp⟩
  case round =>
    obtain ⟨j, hj, rfl, rfl, hno⟩ := hrel
    by_cases hlt : j < m
    · have hjl : j < l.length := by rw [← HM.out]; exact hlt
      have hget : l[j]? = some (l[j]'hjl) := List.getElem?_eq_getElem _
      obtain ⟨y, hy⟩ : ∃ y, y = l[j]'hjl := ⟨_, rfl⟩
      rw [← hy] at hget
      obtain ⟨b, off, rfl, hbw, hce⟩ := HR.out.at_ (by omega)
      have c0 := hce j _ (ci_at hget)
      have hix : (0 : Int) ≤ (j : Int) := by omega
      by_cases hxy : x = y
      · have t1 : (x == y) = true := by simp [hxy]
        have hres : decide (0 ≤ (j : Int)) = decide (x ∈ l) := by
          have : x ∈ l := by rw [hxy]; exact List.mem_of_getElem? hget
          simp [this]
        have HRES := Lib.hid hres; clear hres
        clear hce hget hxy hy hno
        go_wp2_with fail
        go_ret
        exact ⟨Below.refl _ _, _, rfl, HRES.out⟩
      · have t1 : (x == y) = false := by simp [hxy]
        have hnx : x ∉ l.take (j + 1) := by
          rw [List.take_succ_eq_append_getElem hjl, ← hy]
          simp [hno, hxy]
        have HNX := Lib.hid hnx; clear hnx
        clear hce hget hxy hy hno
        go_wp2_with fail
        go_roundw
        case rel => exact ⟨j + 1, by omega, by go_num, trivial, HNX.out⟩
        case measure => simp [intOf]; omega
    · obtain rfl : j = m := by omega
      have hres : decide (0 ≤ (-1 : Int)) = decide (x ∈ l) := by
        rw [List.take_of_length_le (by rw [HM.out]; exact Nat.le_refl _)] at hno
        simp [hno]
      have HRES := Lib.hid hres; clear hres
      clear hno
      go_wp2_with fail
      go_ret
      exact ⟨Below.refl _ _, _, rfl, HRES.out⟩
set_option maxRecDepth 100000 in
set_option maxHeartbeats 3200000 in
theorem contains_any (l : List Int) (v : Value) (x : Int) (w : World) (hr : Row w v l.length (ci l)) (hl : l.length ≤ 1000000) :
    Calls Tryz.prog 25 #[v, .int .i64 x] w (Ret w (.bool (decide (x ∈ l)))) := by
  have hi := index_any l v x w hr hl
  obtain ⟨va, vc, rfl, hle⟩ := hr.slice
  have HI := Lib.hid hi; clear hi
  clear hr
  go_enter Tryz.func25, Tryz.ntmps25
  go_wp2_with fail
  go_at_call 60
  refine HI.out.mono ?_
  rintro e w1 ⟨hq, z, rfl, hz⟩
  obtain ⟨tb, htb⟩ : ∃ tb, decide (x ∈ l) = tb := ⟨_, rfl⟩
  have htb2 := htb
  rw [htb2] at hz ⊢
  have HQ := Lib.hid hq; clear hq
  have HTB := Lib.hid htb; clear htb
  clear htb2
  go_wp2_with fail
  go_ret
  exact ⟨HQ.out, by rw [HTB.out]; rfl⟩
end Go.Proofs.YtalipfnbpnkgnaaGreat


/- slices.ContainsFunc at a row of canonical numbers, with Stream's test. -/
import Derived.Test.YtalipfnbpnkgnaaGreatICheck
import Derived.Test.YtalipfnbpnkgnaaGreatPart4
import Derived.Test.YtalipfnbpnkgnaaGreatEUnr
namespace Go.Proofs.YtalipfnbpnkgnaaGreat
open Go.RowKit

set_option maxRecDepth 100000 in
set_option maxHeartbeats 3200000 in
theorem stream1_any (a : Int) (w : World) (hs : small a) :
    Calls Tryz.prog 40 #[.agg #[.bool (ineg a), .string (imag a)]] w (Ret w (.bool false)) := by
  have hic := fun w' => icheck_any (ineg a) (imag a) w' hs
  have hch : chkZ (cnB (ineg a) (imag a)) = 0 := by rw [cnB_canon]; rfl
  rw [hch] at hic
  have s0 := (Below.refl w.heap.size w).alloc (Nat.le_refl _) (.cells #[.bool (ineg a), .string (imag a)] 33)
  have S0 := Lib.hid s0; clear s0
  have HIC := Lib.hid hic; clear hic
  go_enter Tryz.func40, Tryz.ntmps40
  go_wp2_with fail
  go_at_call 41
  refine (HIC.out _).mono ?_
  rintro e w1 ⟨hq, rfl⟩
  have s1 := S0.out.trans (hq.mono S0.out.size)
  have S1 := Lib.hid s1; clear s1
  clear hq
  go_wp2_with fail
  go_ret
  exact ⟨S1.out, rfl⟩
set_option maxRecDepth 100000 in
set_option maxHeartbeats 3200000 in
theorem idxI_any (l : List Int) (v : Value) (w : World) (hr : Row w v l.length (civ l)) (hs : ∀ x ∈ l, small x) :
    Calls Tryz.prog 27 #[v, .func (.func 40) #[] #[]] w (Ret w (.int .i64 (-1))) := by
  obtain ⟨va, vc, rfl, hle⟩ := hr.slice
  obtain ⟨m, hm⟩ : ∃ m, m = l.length := ⟨_, rfl⟩
  have hent : ∀ args w, (callFunc 40 args).run Tryz.prog w = .ok (.enter 40 args) w := fun args w => enters_of Tryz.func40 (by kernel_rfl) rfl args w
  rw [← hm] at hr hle ⊢
  have HR := Lib.hid hr; clear hr
  have HM := Lib.hid hm; clear hm
  have HS := Lib.hid hs; clear hs
  go_enter Tryz.func27, Tryz.ntmps27
  go_wp2_with fail
  go_loopw [8] (fun i wr => ∃ j : Nat, j ≤ m ∧ i = .int .i64 j ∧ Below w.heap.size w wr) (fun i _ => m - (intOf i).toNat)
  case atStart => exact ⟨0, Nat.zero_le _, rfl, Below.refl _ _⟩
  case round =>
    obtain ⟨j, hj, rfl, hbel⟩ := hrel
    by_cases hlt : j < m
    · have hjl : j < l.length := by rw [← HM.out]; exact hlt
      have hget : l[j]? = some (l[j]'hjl) := List.getElem?_eq_getElem _
      have hsj := HS.out _ (List.getElem_mem hjl)
      obtain ⟨y, hy⟩ : ∃ y, y = l[j]'hjl := ⟨_, rfl⟩
      rw [← hy] at hget hsj
      obtain ⟨b, off, rfl, hbw, hce⟩ := HR.out.at_ (by omega)
      have c01 := int_cells hce hbel hbw hget
      obtain ⟨c0, c1⟩ := c01
      have his := stream1_any y wr hsj
      have HIS := Lib.hid his; clear his
      have HBEL := Lib.hid hbel; clear hbel
      clear hce hget hy
      go_wp2_with fail
      refine HIS.out.mono ?_
      rintro e w1 ⟨hq1, rfl⟩
      have s1 := HBEL.out.trans (hq1.mono HBEL.out.size)
      have S1 := Lib.hid s1; clear s1
      clear hq1
      go_wp2_with fail
      go_roundw
      case rel => exact ⟨j + 1, by omega, by go_num, S1.out⟩
      case measure => simp [intOf]; omega
    · obtain rfl : j = m := by omega
      have HBEL := Lib.hid hbel; clear hbel
      go_wp2_with fail
      go_ret
      exact ⟨HBEL.out, rfl⟩
set_option maxRecDepth 100000 in
set_option maxHeartbeats 3200000 in
theorem cfI_any (l : List Int) (v : Value) (w : World) (hr : Row w v l.length (civ l)) (hs : ∀ x ∈ l, small x) :
    Calls Tryz.prog 8 #[v, .func (.func 40) #[] #[]] w (Ret w (.bool false)) := by
  have hi := idxI_any l v w hr hs
  have HI := Lib.hid hi; clear hi
  go_enter Tryz.func8, Tryz.ntmps8
  go_wp2_with fail
  go_at_call 27
  refine HI.out.mono ?_
  rintro e w1 ⟨hq, rfl⟩
  have HQ := Lib.hid hq; clear hq
  go_wp2_with fail
  go_ret
  exact ⟨HQ.out, rfl⟩
end Go.Proofs.YtalipfnbpnkgnaaGreat

/- slices.ContainsFunc at a row of any numbers, with Expand's test. -/
import Derived.Shelf.Abstract
import Derived.Test.YthpgeeaccmgbkaaPart15
namespace Go.Proofs.Ythpgeeaccmgbkaa
open Go.RowKit

set_option maxRecDepth 100000 in
set_option maxHeartbeats 3200000 in
theorem exp1_any (ng : Bool) (sg : ByteArray) (w : World) (hs : sg.size ≤ 1099511627775) :
    Calls Try.prog 49 #[.agg #[.bool ng, .string sg]] w (Ret w (.bool (!cnB ng sg))) := by
  have hic := fun w' => icheck_any ng sg w' hs
  obtain ⟨t, ht⟩ : ∃ t, cnB ng sg = t := ⟨_, rfl⟩
  rw [ht] at hic ⊢
  have s0 := (Below.refl w.heap.size w).alloc (Nat.le_refl _) (.cells #[.bool ng, .string sg] 28)
  have S0 := Lib.hid s0; clear s0
  have HIC := Lib.hid hic; clear hic
  cases t with
  | true =>
    go_enter Try.func49, Try.ntmps49
    go_wp2_with fail
    go_at_call 50
    refine (HIC.out _).mono ?_
    rintro e w1 ⟨hq, rfl⟩
    have s1 := S0.out.trans (hq.mono S0.out.size)
    have S1 := Lib.hid s1; clear s1
    clear hq
    simp only [chkZ]
    go_wp2_with fail
    go_ret
    exact ⟨S1.out, rfl⟩
  | false =>
    go_enter Try.func49, Try.ntmps49
    go_wp2_with fail
    go_at_call 50
    refine (HIC.out _).mono ?_
    rintro e w1 ⟨hq, rfl⟩
    have s1 := S0.out.trans (hq.mono S0.out.size)
    have S1 := Lib.hid s1; clear s1
    clear hq
    simp only [chkZ]
    go_wp2_with fail
    go_ret
    exact ⟨S1.out, rfl⟩
def IdxRet (b : Bool) (w : World) (e : Ending) (w' : World) : Prop := Below w.heap.size w w' ∧ ∃ z : Int, e = .returned (.int .i64 z) ∧ decide (0 ≤ z) = b
set_option maxRecDepth 100000 in
set_option maxHeartbeats 3200000 in
theorem idxG_any (l : List (Bool × ByteArray)) (v : Value) (w : World) (hr : Row w v l.length (cnv l)) (hs : ∀ x ∈ l, x.2.size ≤ 1099511627775) :
    Calls Try.prog 70 #[v, .func (.func 49) #[] #[]] w (IdxRet (oddB l) w) := by
  obtain ⟨va, vc, rfl, hle⟩ := hr.slice
  obtain ⟨m, hm⟩ : ∃ m, m = l.length := ⟨_, rfl⟩
  have hent : ∀ args w, (callFunc 49 args).run Try.prog w = .ok (.enter 49 args) w := fun args w => enters_of Try.func49 (by kernel_rfl) rfl args w
  obtain ⟨R, hR⟩ : ∃ R, R = oddB l := ⟨_, rfl⟩
  have hRR : R = oddB (l.drop 0) := hR
  rw [← hR]
  rw [← hm] at hr hle ⊢
  have HR := Lib.hid hr; clear hr
  have HM := Lib.hid hm; clear hm
  have HS := Lib.hid hs; clear hs
  have HRR := Lib.hid hRR; clear hRR
  clear hR
  go_enter Try.func70, Try.ntmps70
  go_wp2_with fail
  go_loopw [8] (fun i wr => ∃ j : Nat, j ≤ m ∧ i = .int .i64 j ∧ Below w.heap.size w wr ∧ R = oddB (l.drop j)) (fun i _ => m - (intOf i).toNat)
  case atStart => exact ⟨0, Nat.zero_le _, rfl, Below.refl _ _, HRR.out⟩
  case round =>
    obtain ⟨j, hj, rfl, hbel, hno⟩ := hrel
    by_cases hlt : j < m
    · have hjl : j < l.length := by rw [← HM.out]; exact hlt
      have hget : l[j]? = some (l[j]'hjl) := List.getElem?_eq_getElem _
      have hsj := HS.out _ (List.getElem_mem hjl)
      rw [List.drop_eq_getElem_cons hjl] at hno
      obtain ⟨y, hy⟩ : ∃ y, y = l[j]'hjl := ⟨_, rfl⟩
      rw [← hy] at hget hsj hno
      obtain ⟨ng, sg⟩ := y
      obtain ⟨b, off, rfl, hbw, hce⟩ := HR.out.at_ (by omega)
      have c01 := num_cells hce hbel hbw hget
      obtain ⟨c0, c1⟩ := c01
      have his := exp1_any ng sg wr hsj
      obtain ⟨t, ht⟩ : ∃ t, cnB ng sg = t := ⟨_, rfl⟩
      have hstep : oddB ((ng, sg) :: l.drop (j + 1)) = (!cnB ng sg || oddB (l.drop (j + 1))) := rfl
      rw [hstep, ht] at hno
      rw [ht] at his
      have HIS := Lib.hid his; clear his
      have HBEL := Lib.hid hbel; clear hbel
      clear hce hget hy hstep ht
      cases t with
      | true =>
        have hno2 : R = oddB (l.drop (j + 1)) := by rw [hno]; rfl
        have HNO := Lib.hid hno2; clear hno2
        clear hno
        go_wp2_with fail
        refine HIS.out.mono ?_
        rintro e w1 ⟨hq1, rfl⟩
        have s1 := HBEL.out.trans (hq1.mono HBEL.out.size)
        have S1 := Lib.hid s1; clear s1
        clear hq1
        go_wp2_with fail
        go_roundw
        case rel => exact ⟨j + 1, by omega, by go_num, S1.out, HNO.out⟩
        case measure => simp [intOf]; omega
      | false =>
        have hno2 : R = true := by rw [hno]; rfl
        have HNO := Lib.hid hno2; clear hno2
        clear hno
        go_wp2_with fail
        refine HIS.out.mono ?_
        rintro e w1 ⟨hq1, rfl⟩
        have s1 := HBEL.out.trans (hq1.mono HBEL.out.size)
        have S1 := Lib.hid s1; clear s1
        clear hq1
        go_wp2_with fail
        go_ret
        exact ⟨S1.out, _, rfl, by rw [HNO.out]; exact decide_eq_true (by omega)⟩
    · obtain rfl : j = m := by omega
      rw [List.drop_of_length_le (by rw [← HM.out]; exact Nat.le_refl _)] at hno
      have hno2 : R = false := hno
      have HNO := Lib.hid hno2; clear hno2
      have HBEL := Lib.hid hbel; clear hbel
      clear hno
      go_wp2_with fail
      go_ret
      exact ⟨HBEL.out, _, rfl, by rw [HNO.out]; rfl⟩
set_option maxRecDepth 100000 in
set_option maxHeartbeats 3200000 in
theorem cfG_any (l : List (Bool × ByteArray)) (v : Value) (w : World) (hr : Row w v l.length (cnv l)) (hs : ∀ x ∈ l, x.2.size ≤ 1099511627775) :
    Calls Try.prog 51 #[v, .func (.func 49) #[] #[]] w (Ret w (.bool (oddB l))) := by
  have hi := idxG_any l v w hr hs
  obtain ⟨R, hR⟩ : ∃ R, R = oddB l := ⟨_, rfl⟩
  rw [← hR] at hi ⊢
  have HI := Lib.hid hi; clear hi
  clear hR
  go_enter Try.func51, Try.ntmps51
  go_wp2_with fail
  go_at_call 70
  refine HI.out.mono ?_
  rintro e w1 ⟨hq, z, rfl, hz⟩
  have HQ := Lib.hid hq; clear hq
  go_wp2_with fail
  go_ret
  exact ⟨HQ.out, rfl⟩
end Go.Proofs.Ythpgeeaccmgbkaa

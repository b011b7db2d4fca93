/- integer.Check at any digits. -/
import Derived.Deep.RegionHeld3
import Derived.StillTailTactics
import Derived.Test.YthpgeeaccmgbkaaPart9
import Derived.Test.YthpgeeaccmgbkaaPart2
import Derived.Test.YthpgeeaccmgbkaaInt
import Derived.Test.YthpgeeaccmgbkaaPart15
namespace Go.Proofs.Ythpgeeaccmgbkaa
open Go.RowKit

/-- Whether digits are canonical. -/
def cnB (ng : Bool) (s : ByteArray) : Bool := decide (ineg (ival ng s) = ng ∧ imag (ival ng s) = s)
theorem cnB_iff (ng : Bool) (s : ByteArray) : cnB ng s = true ↔ ineg (ival ng s) = ng ∧ imag (ival ng s) = s := by simp [cnB]
theorem beq_str (s t : ByteArray) : (s == t) = decide (s = t) := by
  rw [beq_toListBytes]
  by_cases h : s = t
  · subst h; simp
  · have h2 : ¬ s.toList = t.toList := fun e => h (str_ext (by rw [← ByteArray.toList_eq, ← ByteArray.toList_eq]; exact e))
    simp [h, h2]
theorem neq_canon (ng : Bool) (s : ByteArray) (w : World) : (binOp .neq 28 (.agg #[.bool (ineg (ival ng s)), .string (imag (ival ng s))]) (.agg #[.bool ng, .string s])).run Try.prog w = .ok (.bool (!cnB ng s)) w := by
  have e : cnB ng s = (ineg (ival ng s) == ng && imag (ival ng s) == s) := by
    unfold cnB
    rw [beq_str]
    by_cases h1 : ineg (ival ng s) = ng <;> by_cases h2 : imag (ival ng s) = s <;> simp [h1, h2]
  rw [run_neq_struct, eqIn_int, e]; rfl
theorem neq_canon2 (ng : Bool) (s : ByteArray) (w : World) : (binOp .neq 28 (.agg #[.bool ng, .string s]) (.agg #[.bool (ineg (ival ng s)), .string (imag (ival ng s))])).run Try.prog w = .ok (.bool (!cnB ng s)) w := by
  have e : cnB ng s = (ng == ineg (ival ng s) && s == imag (ival ng s)) := by
    unfold cnB
    rw [beq_str]
    by_cases h1 : ineg (ival ng s) = ng
    · by_cases h2 : imag (ival ng s) = s
      · simp [h1, h2]
      · have h3 : ¬ s = imag (ival ng s) := fun e => h2 e.symm
        simp [h1, h2, h3]
    · have h3 : ¬ ng = ineg (ival ng s) := fun e => h1 e.symm
      simp [h1, h3]
  rw [run_neq_struct, eqIn_int, e]; rfl
def chkZ (c : Bool) : Int := if c then 0 else 1
set_option maxRecDepth 100000 in
set_option maxHeartbeats 3200000 in
theorem icheck_any (ng : Bool) (s : ByteArray) (w : World) (hs : s.size ≤ 1099511627775) :
    Calls Try.prog 50 #[.agg #[.bool ng, .string s]] w (Ret w (.int .i64 (chkZ (cnB ng s)))) := by
  have hs' : s.size ≤ 1099511627776 := by omega
  have hq := fun w' => neq_canon ng s w'
  have s0 := (Below.refl w.heap.size w).alloc (Nat.le_refl _) (.cells #[.bool ng, .string s] 28)
  have hnum := fun v w' h => number_any ng (dg (bval s.data.toList)) v w' h (dg_lt _) (dg_size hs')
  have hval : IntV (sgn ng (val (dg (bval s.data.toList)))) = .agg #[.bool (ineg (ival ng s)), .string (imag (ival ng s))] := by rw [val_dg]; rfl
  rw [hval] at hnum
  have hdig := fun w' => digits_any ng s w' hs'
  obtain ⟨cb, hcb⟩ : ∃ cb, cb = cnB ng s := ⟨_, rfl⟩
  rw [← hcb] at hq ⊢
  have HNUM := Lib.hid hnum; clear hnum
  have HDIG := Lib.hid hdig; clear hdig
  have HCB := Lib.hid hcb; clear hcb
  have S0 := Lib.hid s0; clear s0
  clear hval
  go_enter Try.func50, Try.ntmps50
  go_wp2_with fail
  refine wp_region_held_drew (S := fun w' => w'.cell? ⟨w.heap.size, 0, none⟩ = some (.bool ng) ∧ w'.cell? ⟨w.heap.size, 1, none⟩ = some (.string s)) (by kernel_rfl) ?_ (fun hHeld => ?_)
  · go_keep
  refine wpAnyH_take (i := 0) (v := ?_) rfl (by kernel_rfl) (by kernel_rfl) (by kernel_rfl) (fun _ _ _ h => h) (Or.inl ⟨by rfl, ?_⟩) (by assumption) ?_
  rotate_left
  · (intro wS hSw; (try dsimp only at hSw); go_simp; (try with_reducible rfl))
  (try simp only [Act.put, List.setIfInBounds_toArray, List.set_cons_zero, List.set_cons_succ])
  refine wpAnyH_take (i := 1) (v := ?_) rfl (by kernel_rfl) (by kernel_rfl) (by kernel_rfl) (fun _ _ _ h => h) (Or.inl ⟨by rfl, ?_⟩) (by assumption) ?_
  rotate_left
  · (intro wS hSw; (try dsimp only at hSw); go_simp; (try with_reducible rfl))
  (try simp only [Act.put, List.setIfInBounds_toArray, List.set_cons_zero, List.set_cons_succ])
  refine wpAnyH_take (i := 2) (v := ?_) rfl (by kernel_rfl) (by kernel_rfl) (by kernel_rfl) (fun _ _ _ h => h) (Or.inl ⟨by rfl, ?_⟩) (by assumption) ?_
  rotate_left
  · (intro wS hSw; (try dsimp only at hSw); go_simp; (try with_reducible rfl))
  (try simp only [Act.put, List.setIfInBounds_toArray, List.set_cons_zero, List.set_cons_succ])
  refine wpAnyH_take (i := 5) (v := ?_) rfl (by kernel_rfl) (by kernel_rfl) (by kernel_rfl) (fun _ _ _ h => h) (Or.inl ⟨by rfl, ?_⟩) (by assumption) ?_
  rotate_left
  · (intro wS hSw; (try dsimp only at hSw); go_simp; (try with_reducible rfl))
  (try simp only [Act.put, List.setIfInBounds_toArray, List.set_cons_zero, List.set_cons_succ])
  refine wpAnyH_ready (rs := [3]) (by kernel_rfl) (by simp) ?_
  refine AllReadyH.cons rfl (fun K hK => ?_) AllReadyH.nil
  go_simp
  go_at_call 35
  refine (HDIG.out _).mono ?_
  rintro e w2 ⟨hq2, v2, rfl, hv2⟩
  dsimp only
  have z0 := (hq2.cell (p := ⟨w.heap.size, 0, none⟩) (by simp)).trans hHeld.1
  have z1 := (hq2.cell (p := ⟨w.heap.size, 1, none⟩) (by simp)).trans hHeld.2
  refine hK.out _ _ ⟨z0, z1⟩ (fun hHeld2 => ?_)
  clear hK K
  (try simp only [Act.put, List.setIfInBounds_toArray, List.set_cons_zero, List.set_cons_succ])
  have hsz2 : w.heap.size < w2.heap.size := by have := hq2.size; simp at this; omega
  refine wpAnyH_ready (rs := [4]) (by kernel_rfl) (by simp) ?_
  refine AllReadyH.cons rfl (fun K hK => ?_) AllReadyH.nil
  go_simp
  go_at_call 29
  refine (HNUM.out _ _ hv2).mono ?_
  rintro e w3 ⟨hq3, rfl⟩
  dsimp only
  have z2 := (hq3.cell (p := ⟨w.heap.size, 0, none⟩) (by simp; omega)).trans hHeld2.1
  have z3 := (hq3.cell (p := ⟨w.heap.size, 1, none⟩) (by simp; omega)).trans hHeld2.2
  refine hK.out _ _ ⟨z2, z3⟩ (fun hHeld3 => ?_)
  clear hK K
  (try simp only [Act.put, List.setIfInBounds_toArray, List.set_cons_zero, List.set_cons_succ])
  have s3 := S0.out.drew.trans (hq2.mono (by simp))
  have s4 := s3.trans (hq3.mono s3.size)
  have S4 := Lib.hid s4; clear s4
  clear hq2 hq3 hv2 s3
  refine wpAnyH_take (i := 6) (v := ?_) rfl (by kernel_rfl) (by kernel_rfl) (by kernel_rfl) (fun _ _ _ h => h) (Or.inl ⟨by rfl, ?_⟩) (by assumption) ?_
  rotate_left
  · (intro wS hSw; (try dsimp only at hSw); go_simp; (try with_reducible rfl))
  (try simp only [Act.put, List.setIfInBounds_toArray, List.set_cons_zero, List.set_cons_succ])
  refine wpAnyH_done (by kernel_rfl) ?_ _
  clear hq
  cases cb with
  | true =>
    go_wp2_with fail
    go_ret
    exact ⟨S4.out, rfl⟩
  | false =>
    go_wp2_with fail
    go_ret
    exact ⟨S4.out, rfl⟩
end Go.Proofs.Ythpgeeaccmgbkaa

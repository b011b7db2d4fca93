/- integer.short at numbers of one digit. -/
import Derived.Deep.RegionHeld3
import Derived.Test.YthpgeeaccmgbkaaIntB
namespace Go.Proofs.Ythpgeeaccmgbkaa
open Go.RowKit

def ShortRet (q r : Nat) (w : World) (e : Ending) (w' : World) : Prop := Below w.heap.size w w' ∧ ∃ v, e = .returned (.tuple #[v, .int .u32 (r : Int)]) ∧ Row w' v (dg q).length (cs32 (dg q))
theorem or_zero_u64 {X : Nat} (h : X < 18446744073709551616) : bits BinOp.or IntKind.u64 0 (X : Int) = (X : Int) := by
  show IntKind.u64.wrap ((BitVec.ofInt 64 0 ||| BitVec.ofInt 64 (X : Int)).toNat : Int) = _
  have e0 : BitVec.ofInt 64 0 = 0#64 := by decide
  have e1 : (BitVec.ofInt 64 (X : Int)).toNat = X := by
    rw [BitVec.toNat_ofInt]; omega
  rw [e0, BitVec.zero_or, e1, IntKind.wrap_u64]
  omega
set_option maxRecDepth 100000 in
set_option maxHeartbeats 3200000 in
theorem short_one (X D : Nat) (vx : Value) (w : World) (hr : Row w vx 1 (cs32 [X])) (hX : X < 4294967296) (hD0 : 0 < D) (hD : D < 4294967296) :
    Calls Try.prog 80 #[vx, .int .u32 (D : Int)] w (ShortRet (X / D) (X % D) w) := by
  obtain ⟨Q, hQ⟩ : ∃ Q, Q = X / D := ⟨_, rfl⟩
  obtain ⟨Rr, hRr⟩ : ∃ Rr, Rr = X % D := ⟨_, rfl⟩
  have hQX : Q ≤ X := by rw [hQ]; exact Nat.div_le_self _ _
  have hRD : Rr < D := by rw [hRr]; exact Nat.mod_lt _ hD0
  have hwD : IntKind.u64.wrap (D : Int) = (D : Int) := by rw [IntKind.wrap_u64]; omega
  have hwq : IntKind.u64.wrap ((X : Int) / (D : Int)) = (Q : Int) := by
    rw [show (X : Int) / (D : Int) = ((X / D : Nat) : Int) from (Int.natCast_ediv X D).symm, ← hQ, IntKind.wrap_u64]; omega
  have hwr : Int.tmod (X : Int) (D : Int) = (Rr : Int) := by
    rw [Int.tmod_eq_emod_of_nonneg (by omega), ← Int.natCast_emod X D, ← hRr]
  have hwq2 : IntKind.u32.wrap (Q : Int) = (Q : Int) := by rw [IntKind.wrap_u32]; omega
  have hwr2 : IntKind.u32.wrap (Rr : Int) = (Rr : Int) := by rw [IntKind.wrap_u32]; omega
  have htz : tz [Q] = dg Q := by
    have h := tz_lt (l := [Q]) (fun d hd => by obtain rfl : d = Q := by simpa using hd
                                               omega)
    rw [← h]; simp [val]
  rw [← hQ, ← hRr]
  have HTZ := Lib.hid htz; clear htz
  clear hQ hRr
  obtain ⟨va, vc, rfl, hle⟩ := hr.slice
  obtain ⟨b, off, rfl, hbw, hce⟩ := hr.at_ (by omega)
  have c0 := hce 0 _ (cs32_get (d := X) (i := 0) rfl)
  rw [Nat.add_zero] at c0
  have hmk := mk32 1 (by omega) 1 rfl
  go_enter Try.func80, Try.ntmps80
  go_wp2_with fail
  clear hmk
  go_loopw [7, 8] (fun u i wr => ∃ (z : Int) (r q : Nat), i = .int .i64 z ∧ u = .int .u64 (r : Int) ∧ ((z = 0 ∧ r = 0 ∧ q = 0) ∨ (z = -1 ∧ r = Rr ∧ q = Q)) ∧ Below w.heap.size w wr ∧ Blk wr w.heap.size 59 (cs32 [q])) (fun _ i _ => (intOf i + 1).toNat)
  case atStart =>
    refine ⟨0, 0, 0, rfl, rfl, .inl ⟨rfl, rfl, rfl⟩, (Below.refl _ _).alloc (Nat.le_refl _) _, ?_⟩
    exact Blk.new w 59 [.int .u32 0]
  case round =>
    obtain ⟨z, r, q, rfl, rfl, hcase, hbel, hblk⟩ := hrel
    rcases hcase with ⟨rfl, rfl, rfl⟩ | ⟨rfl, rfl, rfl⟩
    · have c1 := (hbel.cell (p := ⟨b, off, none⟩) hbw).trans c0
      have n0 := hblk.cell (j := 0) rfl
      have f0 := hblk.frozen 0
      have hblt := hblk.lt
      have hor := or_zero_u64 (X := X) (by omega)
      have hDn : ¬ D = 0 := by omega
      have hDn2 : ¬ (D : Int) = 0 := by omega
      have HB := Lib.hid hbel; clear hbel
      have HBLK := Lib.hid hblk; clear hblk
      go_wp2_with fail
      refine wp_region_held_drew (S := fun _ => True) (by kernel_rfl) trivial (fun hHeld => ?_)
      refine wpAnyH_take (i := 0) (v := ?_) rfl (by kernel_rfl) (by kernel_rfl) (by kernel_rfl) (fun _ _ _ h => h) (Or.inl ⟨by rfl, ?_⟩) (by assumption) ?_
      rotate_left
      · (intro wS hSw; (try dsimp only at hSw); go_simp; (try with_reducible rfl))
      (try simp only [Act.put, List.setIfInBounds_toArray, List.set_cons_zero, List.set_cons_succ])
      refine wpAnyH_take (i := 1) (v := ?_) rfl (by kernel_rfl) (by kernel_rfl) (by kernel_rfl) (fun _ _ _ h => h) (Or.inl ⟨by rfl, ?_⟩) (by assumption) ?_
      rotate_left
      · (intro wS hSw; (try dsimp only at hSw); go_simp; (try with_reducible rfl))
      (try simp only [Act.put, List.setIfInBounds_toArray, List.set_cons_zero, List.set_cons_succ])
      refine wpAnyH_take (i := 2) (v := ?_) rfl (by kernel_rfl) (by kernel_rfl) (by kernel_rfl) (fun _ _ _ h => h) (Or.inl ⟨by rfl, ?_⟩) (by assumption) ?_
      rotate_left
      · (intro wS hSw; (try dsimp only at hSw); go_simp; (try with_reducible rfl))
      (try simp only [Act.put, List.setIfInBounds_toArray, List.set_cons_zero, List.set_cons_succ])
      refine wpAnyH_take (i := 3) (v := ?_) rfl (by kernel_rfl) (by kernel_rfl) (by kernel_rfl) (fun _ _ _ h => h) (Or.inl ⟨by rfl, ?_⟩) (by assumption) ?_
      rotate_left
      · (intro wS hSw; (try dsimp only at hSw); go_simp; (try with_reducible rfl))
      (try simp only [Act.put, List.setIfInBounds_toArray, List.set_cons_zero, List.set_cons_succ])
      refine wpAnyH_take (i := 4) (v := ?_) rfl (by kernel_rfl) (by kernel_rfl) (by kernel_rfl) (fun _ _ _ h => h) (Or.inl ⟨by rfl, ?_⟩) (by assumption) ?_
      rotate_left
      · (intro wS hSw; (try dsimp only at hSw); go_simp; (try with_reducible rfl))
      (try simp only [Act.put, List.setIfInBounds_toArray, List.set_cons_zero, List.set_cons_succ])
      refine wpAnyH_take (i := 5) (v := ?_) rfl (by kernel_rfl) (by kernel_rfl) (by kernel_rfl) (fun _ _ _ h => h) (Or.inl ⟨by rfl, ?_⟩) (by assumption) ?_
      rotate_left
      · (intro wS hSw; (try dsimp only at hSw); go_simp; (try with_reducible rfl))
      (try simp only [Act.put, List.setIfInBounds_toArray, List.set_cons_zero, List.set_cons_succ])
      refine wpAnyH_take (i := 6) (v := ?_) rfl (by kernel_rfl) (by kernel_rfl) (by kernel_rfl) (fun _ _ _ h => h) (Or.inl ⟨by rfl, ?_⟩) (by assumption) ?_
      rotate_left
      · (intro wS hSw; (try dsimp only at hSw); go_simp; (try with_reducible rfl))
      (try simp only [Act.put, List.setIfInBounds_toArray, List.set_cons_zero, List.set_cons_succ])
      refine wpAnyH_take (i := 7) (v := ?_) rfl (by kernel_rfl) (by kernel_rfl) (by kernel_rfl) (fun _ _ _ h => h) (Or.inl ⟨by rfl, ?_⟩) (by assumption) ?_
      rotate_left
      · (intro wS hSw; (try dsimp only at hSw); go_simp; (try with_reducible rfl))
      (try simp only [Act.put, List.setIfInBounds_toArray, List.set_cons_zero, List.set_cons_succ])
      refine wpAnyH_take (i := 8) (v := ?_) rfl (by kernel_rfl) (by kernel_rfl) (by kernel_rfl) (fun _ _ _ h => h) (Or.inl ⟨by rfl, ?_⟩) (by assumption) ?_
      rotate_left
      · (intro wS hSw; (try dsimp only at hSw); go_simp; (try with_reducible rfl))
      (try simp only [Act.put, List.setIfInBounds_toArray, List.set_cons_zero, List.set_cons_succ])
      refine wpAnyH_take (i := 9) (v := ?_) rfl (by kernel_rfl) (by kernel_rfl) (by kernel_rfl) (fun _ _ _ h => h) (Or.inl ⟨by rfl, ?_⟩) (by assumption) ?_
      rotate_left
      · (intro wS hSw; (try dsimp only at hSw); go_simp; (try with_reducible rfl))
      (try simp only [Act.put, List.setIfInBounds_toArray, List.set_cons_zero, List.set_cons_succ])
      refine wpAnyH_take (i := 10) (v := ?_) rfl (by kernel_rfl) (by kernel_rfl) (by kernel_rfl) (fun _ _ _ h => h) (Or.inl ⟨by rfl, ?_⟩) (by assumption) ?_
      rotate_left
      · (intro wS hSw; (try dsimp only at hSw); go_simp; (try with_reducible rfl))
      (try simp only [Act.put, List.setIfInBounds_toArray, List.set_cons_zero, List.set_cons_succ])
      refine wpAnyH_take (i := 11) (v := ?_) rfl (by kernel_rfl) (by kernel_rfl) (by kernel_rfl) (fun _ _ _ h => h) (Or.inl ⟨by rfl, ?_⟩) (by assumption) ?_
      rotate_left
      · (intro wS hSw; (try dsimp only at hSw); go_simp; (try with_reducible rfl))
      (try simp only [Act.put, List.setIfInBounds_toArray, List.set_cons_zero, List.set_cons_succ])
      refine wpAnyH_ready (rs := [12]) (by kernel_rfl) (by simp) ?_
      refine AllReadyH.cons rfl (fun K hK => ?_) AllReadyH.nil
      go_simp
      refine hK.out _ _ ?_ (fun hHeld => ?_)
      · ((try dsimp only); skip)
      clear hK K
      (try simp only [Act.put, List.setIfInBounds_toArray, List.set_cons_zero, List.set_cons_succ])
      refine wpAnyH_take (i := 13) (v := ?_) rfl (by kernel_rfl) (by kernel_rfl) (by kernel_rfl) (fun _ _ _ h => h) (Or.inl ⟨by rfl, ?_⟩) (by assumption) ?_
      rotate_left
      · (intro wS hSw; (try dsimp only at hSw); go_simp; (try with_reducible rfl))
      (try simp only [Act.put, List.setIfInBounds_toArray, List.set_cons_zero, List.set_cons_succ])
      refine wpAnyH_done (by kernel_rfl) ?_ _
      go_wp2_with fail
      go_roundw
      case rel =>
        refine ⟨-1, _, _, rfl, rfl, .inr ⟨rfl, rfl, rfl⟩, (HB.out.setCell (p := ⟨w.heap.size, 0, none⟩) (Nat.le_refl _) _).drew, ?_⟩
        exact (HBLK.out.set 0 _).drew
      case measure => simp [intOf]
    · have hblk2 : Row wr (.slice (some ⟨w.heap.size, 0, none⟩) 1 1) 1 (cs32 [q]) := Row.ofBlk hblk (m := 1) (cap := 1) (Nat.le_refl _) (by decide) 1
      have htr := trim_any [q] _ wr hblk2
      have HTR := Lib.hid htr; clear htr
      have HB := Lib.hid hbel; clear hbel
      go_wp2_with fail
      go_at_call 59
      refine HTR.out.mono ?_
      rintro e w2 ⟨rfl, v', rfl, hv⟩
      rw [HTZ.out] at hv
      have HV := Lib.hid hv; clear hv
      go_wp2_with fail
      go_ret2
      exact ⟨HB.out, _, rfl, HV.out⟩
end Go.Proofs.Ythpgeeaccmgbkaa

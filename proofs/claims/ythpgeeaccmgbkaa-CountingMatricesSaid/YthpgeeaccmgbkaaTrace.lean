/- matrix.trace. -/
import Derived.Test.YthpgeeaccmgbkaaProdM
namespace Go.Proofs.Ythpgeeaccmgbkaa
open Go.RowKit

def trM (M : List (List Int)) (j : Nat) : Int := ((List.range j).map fun s => ent M s s).sum
theorem trM_succ (M : List (List Int)) (j : Nat) : trM M (j + 1) = trM M j + ent M j j := by
  unfold trM; rw [List.range_succ, List.map_append]; exact sum_snoc _ _
theorem trM_sm {M : List (List Int)} {n m p : Nat} (h : MatOk M n m p) (j : Nat) (hj : j ≤ 255) : sm (p + 1) (trM M j) := by
  refine sm_sum' (fun z hz => ?_) (by simpa using hj)
  obtain ⟨s, -, rfl⟩ := List.mem_map.1 hz
  exact h.ent s s
set_option maxRecDepth 100000 in
set_option maxHeartbeats 6400000 in
theorem trace_any (n p : Nat) (M : List (List Int)) (v : Value) (w : World) (hT : Tab w v M) (okM : MatOk M n n p) (hn : n ≤ 100) (hp : p ≤ 1000000) :
    Calls Try.prog 85 #[v] w (Ret w (IntV (trM M n))) := by
  have hT' := hT
  obtain ⟨rvs, h1, h2, h3⟩ := hT'
  obtain ⟨va, vc, rfl, hle⟩ := h2.slice
  rw [okM.len] at hT hle ⊢
  clear h1 h2 h3 rvs
  have br := (Blk.new w 28 [.bool false, .string ⟨#[]⟩]).alloc (.cells #[.bool false, .string ⟨#[]⟩] 28)
  have bs := Blk.new (w.alloc (.cells #[.bool false, .string ⟨#[]⟩] 28)) 28 [.bool false, .string ⟨#[]⟩]
  have s0 := ((Below.refl w.heap.size w).alloc (Nat.le_refl _) (.cells #[.bool false, .string ⟨#[]⟩] 28)).alloc (by simp) (.cells #[.bool false, .string ⟨#[]⟩] 28)
  simp only [World.size_alloc] at bs
  have hT0 := hT
  have HPT := Lib.hid hT0; clear hT0
  have BR := Lib.hid br; clear br
  have BS := Lib.hid bs; clear bs
  have S0 := Lib.hid s0; clear s0
  clear hT
  go_enter Try.func85, Try.ntmps85
  go_wp2_with fail
  go_loopw [8] (fun i wx => ∃ j : Nat, j ≤ n ∧ i = .int .i64 (j : Int) ∧ Below w.heap.size w wx ∧ Blk wx w.heap.size 28 [.bool false, .string ⟨#[]⟩] ∧ Blk wx (w.heap.size + 1) 28 [.bool (ineg (trM M j)), .string (imag (trM M j))]) (fun i _ => n - (intOf i).toNat)
  case atStart =>
    have h0 : trM M 0 = 0 := rfl
    exact ⟨0, Nat.zero_le _, rfl, S0.out, BR.out, by rw [h0, ineg_zero, imag_zero]; exact BS.out⟩
  case round =>
    obtain ⟨j, hj, rfl, hbx, hbr, hbs⟩ := hrel
    obtain ⟨wx, rfl⟩ : ∃ wx : World, wx = wr := ⟨_, rfl⟩
    by_cases hlt : j < n
    · obtain ⟨rvs, h1, h2, h3⟩ := HPT.out
      rw [okM.len] at h2
      obtain ⟨b6, o6, he6, hb6, hc6⟩ := h2.at_ (by omega)
      obtain ⟨rfl, -⟩ : va = some ⟨b6, o6, none⟩ ∧ True := ⟨he6, trivial⟩
      have hmj : M[j]? = some (M[j]'(by rw [okM.len]; exact hlt)) := List.getElem?_eq_getElem _
      obtain ⟨r, hrd⟩ : ∃ r, r = M[j]'(by rw [okM.len]; exact hlt) := ⟨_, rfl⟩
      rw [← hrd] at hmj
      have hrl := okM.row r (List.mem_of_getElem? hmj)
      obtain ⟨rv, g1, g2⟩ := h3 j _ hmj
      obtain ⟨ra, rc, rfl, -⟩ := g2.slice
      rw [hrl] at g2 g1
      obtain ⟨rb, ro, rfl, hrb, hcr⟩ := g2.at_ (by omega)
      have hjr : j < r.length := by rw [hrl]; exact hlt
      have hz0 : r[j]? = some (r[j]'hjr) := List.getElem?_eq_getElem _
      have hz : r[j]? = some (ent M j j) := by rw [ent_get hmj hz0]; exact hz0
      have c0 := (hbx.cell (p := ⟨b6, o6 + j, none⟩) hb6).trans (hc6 j _ g1)
      obtain ⟨z0, z1⟩ := int_cells hcr hbx hrb hz
      obtain ⟨X, hX⟩ : ∃ X, X = ent M j j := ⟨_, rfl⟩
      obtain ⟨T, hT⟩ : ∃ T, T = trM M j := ⟨_, rfl⟩
      have hsu := trM_succ M j
      have sX : sm p X := by rw [hX]; exact okM.ent j j
      have sT : sm (p + 1) T := by rw [hT]; exact trM_sm okM j (by omega)
      rw [← hX] at z0 z1
      rw [← hX, ← hT] at hsu
      rw [← hT] at hbs
      have hadd := fun w' => iadd_any (ineg T) (ineg X) (imag T) (imag X) w' (Nat.le_trans sT.size (by omega)) (Nat.le_trans sX.size (by omega))
      simp only [ival_canon] at hadd
      have cN0 := hbs.cell (j := 0) rfl
      have cN1 := hbs.cell (j := 1) rfl
      have hix1 : (0 : Int) ≤ (j : Int) := by omega
      have hix2 : (j : Int) < (n : Int) := by omega
      have hbsl := hbs.lt
      have hne1 : ¬ rb = (w.heap.size + 1) := by omega
      have hne2 : ¬ (w.heap.size + 1) = rb := by omega
      clear h1 h2 h3 hc6 hcr g1 g2 hz hz0 hX hT sX sT hmj hrd hrl hjr
      have HSU := Lib.hid hsu; clear hsu
      have HADD := Lib.hid hadd; clear hadd
      have HBX := Lib.hid hbx; clear hbx
      have HBS := Lib.hid hbs; clear hbs
      have HBR := Lib.hid hbr; clear hbr
      clear okM
      go_wp2_with fail
      refine wp_region_held_drew (S := fun w' => w'.cell? ⟨rb, ro + j * 2, none⟩ = some (.bool (ineg X)) ∧ w'.cell? ⟨rb, ro + j * 2 + 1, none⟩ = some (.string (imag X))) (by kernel_rfl) ?_ (fun hHeld => ?_)
      · go_keep
      refine wpAnyH_take (i := 1) (v := ?_) rfl (by kernel_rfl) (by kernel_rfl) (by kernel_rfl) (fun _ _ _ h => h) (Or.inl ⟨by rfl, ?_⟩) (by assumption) ?_
      rotate_left
      · (intro wS hSw; (try dsimp only at hSw); go_simp; (try with_reducible rfl))
      (try simp only [Act.put, List.setIfInBounds_toArray, List.set_cons_zero, List.set_cons_succ])
      refine wpAnyH_take (i := 2) (v := ?_) rfl (by kernel_rfl) (by kernel_rfl) (by kernel_rfl) (fun _ _ _ h => h) (Or.inl ⟨by rfl, ?_⟩) (by assumption) ?_
      rotate_left
      · (intro wS hSw; (try dsimp only at hSw); go_simp; (try with_reducible rfl))
      (try simp only [Act.put, List.setIfInBounds_toArray, List.set_cons_zero, List.set_cons_succ])
      refine wpAnyH_take (i := 3) (v := ?_) rfl (by kernel_rfl) (by kernel_rfl) (by kernel_rfl) (fun _ _ _ h => h) (Or.inl ⟨by rfl, ?_⟩) (by assumption) ?_
      rotate_left
      · (intro wS hSw; (try dsimp only at hSw); go_simp; (try with_reducible rfl))
      (try simp only [Act.put, List.setIfInBounds_toArray, List.set_cons_zero, List.set_cons_succ])
      refine wpAnyH_take (i := 4) (v := ?_) rfl (by kernel_rfl) (by kernel_rfl) (by kernel_rfl) (fun _ _ _ h => h) (Or.inl ⟨by rfl, ?_⟩) (by assumption) ?_
      rotate_left
      · (intro wS hSw; (try dsimp only at hSw); go_simp; (try with_reducible rfl))
      (try simp only [Act.put, List.setIfInBounds_toArray, List.set_cons_zero, List.set_cons_succ])
      refine wpAnyH_ready (rs := [0]) (by kernel_rfl) (by simp) ?_
      refine AllReadyH.cons rfl (fun K hK => ?_) AllReadyH.nil
      go_simp
      refine hK.out _ _ ?_ (fun hHeld => ?_)
      · ((try dsimp only); go_keep)
      clear hK K
      (try simp only [Act.put, List.setIfInBounds_toArray, List.set_cons_zero, List.set_cons_succ])
      refine wpAnyH_ready (rs := [5]) (by kernel_rfl) (by simp) ?_
      refine AllReadyH.cons rfl (fun K hK => ?_) AllReadyH.nil
      go_simp
      go_at_call 14
      refine (HADD.out _).mono ?_
      rintro e w5 ⟨hq, rfl⟩
      dsimp only
      have y0 := (hq.cell (p := ⟨rb, ro + j * 2, none⟩) (show rb < wx.heap.size by omega)).trans hHeld.1
      have y1 := (hq.cell (p := ⟨rb, ro + j * 2 + 1, none⟩) (show rb < wx.heap.size by omega)).trans hHeld.2
      refine hK.out _ _ ⟨y0, y1⟩ (fun hHeld2 => ?_)
      clear hK K y0 y1
      (try simp only [Act.put, List.setIfInBounds_toArray, List.set_cons_zero, List.set_cons_succ])
      have n5 := Blk.keep (w := wx.drew) HBS.out hq
      have r5 := Blk.keep (w := wx.drew) HBR.out hq
      have r6 := (r5.setOther (a := ⟨w.heap.size + 1, 0, none⟩) (by show w.heap.size + 1 ≠ w.heap.size; omega) (.bool (ineg (T + X)))).setOther (a := ⟨w.heap.size + 1, 1, none⟩) (by show w.heap.size + 1 ≠ w.heap.size; omega) (.string (imag (T + X)))
      have HR6 := Lib.hid r6; clear r6
      clear r5
      have hb5 := HBX.out.drew.trans (hq.mono HBX.out.size)
      have f0 := n5.frozen 0
      have f1 := n5.frozen 1
      have d0 := n5.cell (j := 0) rfl
      have d1 := n5.cell (j := 1) rfl
      have hst := (n5.set 0 (.bool (ineg (T + X)))).set 1 (.string (imag (T + X)))
      have HST := Lib.hid hst; clear hst
      have HB5 := Lib.hid hb5; clear hb5
      clear hq cN0 cN1 n5
      refine wpAnyH_ready (rs := [6]) (by kernel_rfl) (by simp) ?_
      refine AllReadyH.cons rfl (fun K hK => ?_) AllReadyH.nil
      go_simp
      refine hK.out _ _ ?_ (fun hHeld => ?_)
      · ((try dsimp only); go_keep)
      clear hK K
      (try simp only [Act.put, List.setIfInBounds_toArray, List.set_cons_zero, List.set_cons_succ])
      refine wpAnyH_done (by kernel_rfl) ?_ _
      (try simp only [List.getElem_toArray, List.getElem_cons_zero, List.getElem_cons_succ, Act.put, List.setIfInBounds_toArray, List.set_cons_zero, List.set_cons_succ])
      clear hHeld hHeld2
      go_wp2_with fail
      go_roundw
      case rel => exact ⟨j + 1, by omega, by go_num, (HB5.out.setCell (p := ⟨w.heap.size + 1, 0, none⟩) (Nat.le_succ _) _).setCell (p := ⟨w.heap.size + 1, 1, none⟩) (Nat.le_succ _) _, HR6.out, by rw [HSU.out]; exact HST.out⟩
      case measure => simp [intOf]; omega
    · obtain rfl : j = n := by omega
      obtain ⟨Z, hZ⟩ : ∃ Z, Z = trM M j := ⟨_, rfl⟩
      rw [← hZ] at hbs
      have z0 := hbs.cell (j := 0) rfl
      have z1 := hbs.cell (j := 1) rfl
      have f0 := hbr.frozen 0
      have f1 := hbr.frozen 1
      have d0 := hbr.cell (j := 0) rfl
      have d1 := hbr.cell (j := 1) rfl
      have HBR := Lib.hid hbr; clear hbr
      have S5 := Lib.hid hbx; clear hbx
      have HZ := Lib.hid hZ; clear hZ
      clear hbs okM
      go_wp2_with fail
      rw [← HZ.out]
      have e0 := ((HBR.out.set 0 (.bool (ineg Z))).set 1 (.string (imag Z))).cell (j := 0) rfl
      have e1 := ((HBR.out.set 0 (.bool (ineg Z))).set 1 (.string (imag Z))).cell (j := 1) rfl
      have s6 := (S5.out.setCell (p := ⟨w.heap.size, 0, none⟩) (Nat.le_refl _) (.bool (ineg Z))).setCell (p := ⟨w.heap.size, 1, none⟩) (Nat.le_refl _) (.string (imag Z))
      exact bodyPost_ret (v := IntV Z) (by simp [results, Try.results85, go_sem, e0, e1]) rfl ⟨s6, rfl⟩
end Go.Proofs.Ythpgeeaccmgbkaa

/- matrix.product, whole. -/
import Derived.Test.YthpgeeaccmgbkaaGreatProd
import Derived.Test.YthpgeeaccmgbkaaGreatPart13
namespace Go.Proofs.YthpgeeaccmgbkaaGreat
open Go.RowKit Go.Shelf

theorem mulF_sm {A B : List (List Int)} {n m c p : Nat} (hA : MatOk A n m p) (hB : MatOk B m c p) (hm : m ≤ 255) (i k : Nat) : sm (p + p + 1) (mulF A B i k) := by
  unfold mulF
  refine sm_sum' (fun z hz => ?_) (by simp [hB.len]; omega)
  obtain ⟨j, -, rfl⟩ := List.mem_map.1 hz
  exact (hA.ent i j).mul (hB.ent j k)
theorem matF_ok {n m p : Nat} {f : Nat → Nat → Int} (h : ∀ i k, sm p (f i k)) : MatOk (matF n m f) n m p where
  len := matF_length n m f
  row := fun r hr => by obtain ⟨i, -, rfl⟩ := List.mem_map.1 hr; simp
  sm := fun r hr z hz => by
    obtain ⟨i, -, rfl⟩ := List.mem_map.1 hr
    obtain ⟨k, -, rfl⟩ := List.mem_map.1 hz
    exact h i k
theorem mmul_ok {A B : List (List Int)} {n m c p : Nat} (hA : MatOk A n m p) (hB : MatOk B m c p) (hm : m ≤ 255) : MatOk (matF n c (mulF A B)) n c (p + p + 1) := matF_ok (mulF_sm hA hB hm)
theorem tab_first {w : World} {v : Value} {M : List (List Int)} {n m p : Nat} (h : Tab w v M) (ok : MatOk M n m p) (hn : 0 < n) : ∃ b off c a' c', v = .slice (some ⟨b, off, none⟩) M.length c ∧ b < w.heap.size ∧ w.cell? ⟨b, off, none⟩ = some (.slice a' m c') := by
  obtain ⟨rvs, h1, h2, h3⟩ := h
  obtain ⟨a, c, rfl, -⟩ := h2.slice
  obtain ⟨b, off, rfl, hb, hc⟩ := h2.at_ (by rw [ok.len]; exact hn)
  have h0 : M[0]? = some (M[0]'(by rw [ok.len]; exact hn)) := List.getElem?_eq_getElem _
  obtain ⟨rv, h4, h5⟩ := h3 0 _ h0
  obtain ⟨a', c', e, -⟩ := h5.slice
  rw [ok.row _ (List.mem_of_getElem? h0)] at e
  have := hc 0 _ h4
  rw [e] at this
  exact ⟨b, off, c, a', c', rfl, hb, this⟩
set_option maxRecDepth 100000 in
set_option maxHeartbeats 3200000 in
theorem product_any (n m c p : Nat) (A B : List (List Int)) (va vb : Value) (w : World) (hA : Tab w va A) (hB : Tab w vb B) (okA : MatOk A n m p) (okB : MatOk B m c p) (hn : n ≤ 100) (hm0 : 0 < m) (hm : m ≤ 100) (hc : c ≤ 100) (hp : p ≤ 100000) :
    Calls Tryz.prog 111 #[va, vb] w (MatRet n c (matF n c (mulF A B)) w) := by
  have hB1 := hB
  obtain ⟨bb, ob, cb, a', c', rfl, hbb, hcell⟩ := tab_first hB1 okB hm0
  obtain ⟨rvs, h1, h2, -⟩ := id hA
  obtain ⟨aa, ca, rfl, hla⟩ := h2.slice
  have s1 := ((Below.refl w.heap.size w).alloc (Nat.le_refl _) (.cells #[.slice aa A.length ca] 70)).alloc (by simp) (.cells #[.slice (some ⟨bb, ob, none⟩) B.length cb] 70)
  have b0 := (Blk.new w 70 [.slice aa A.length ca]).alloc (.cells #[.slice (some ⟨bb, ob, none⟩) B.length cb] 70)
  have b1 := Blk.new (w.alloc (.cells #[.slice aa A.length ca] 70)) 70 [.slice (some ⟨bb, ob, none⟩) B.length cb]
  simp only [World.size_alloc] at b1
  obtain ⟨w1, hw1⟩ : ∃ w1, (w.alloc (.cells #[.slice aa A.length ca] 70)).alloc (.cells #[.slice (some ⟨bb, ob, none⟩) B.length cb] 70) = w1 := ⟨_, rfl⟩
  rw [hw1] at s1 b0 b1
  have htab := table_mat n c 131 #[.pointer (some ⟨w.heap.size + 1, 0, none⟩), .pointer (some ⟨w.heap.size, 0, none⟩)] (mulF A B) w1.drew (by omega) (by omega) (enters_of Tryz.func131 (by kernel_rfl) rfl)
    (fun i k w' hi hk hb => callsIn_wide.1 (prod1_in i k n m c p w.heap.size (w.heap.size + 1) A B _ _ w w' hA hB okA okB hi hk hm hp (s1.drew.trans (hb.mono s1.size)) (Blk.keep (w := w1.drew) b0 hb) (Blk.keep (w := w1.drew) b1 hb)))
  have g0 := b0.cell (j := 0) rfl
  have g1 := b1.cell (j := 0) rfl
  have g2 := (s1.cell (p := ⟨bb, ob, none⟩) hbb).trans hcell
  have hAl := okA.len
  have hBl := okB.len
  have hl0 := b0.lt
  have hl1 := b1.lt
  have hm1 : (0 : Int) < (m : Int) := by omega
  rw [hAl] at g0 hw1 hla ⊢
  rw [hBl] at g1 hw1 ⊢
  have HTAB := Lib.hid htab; clear htab
  have S1 := Lib.hid s1; clear s1
  clear b0 b1 hA hB hB1 h1 h2 hcell hAl hBl
  go_enter Tryz.func111, Tryz.ntmps111
  go_wp2_with fail
  refine wp_region_held_drew (S := fun w' => w'.cell? ⟨w.heap.size, 0, none⟩ = some (.slice aa n ca) ∧ w'.cell? ⟨w.heap.size + 1, 0, none⟩ = some (.slice (some ⟨bb, ob, none⟩) m cb) ∧ w'.cell? ⟨bb, ob, none⟩ = some (.slice a' c c')) (by kernel_rfl) ?_ (fun hHeld => ?_)
  · go_keep
  refine wpAnyH_take (i := 0) (v := ?_) rfl (by kernel_rfl) (by kernel_rfl) (by kernel_rfl) (fun _ _ _ h => h) (Or.inl ⟨by rfl, ?_⟩) (by assumption) ?_
  rotate_left
  · (intro wS hSw; (try dsimp only at hSw); go_simp; (try with_reducible rfl))
  (try simp only [Act.put, List.setIfInBounds_toArray, List.set_cons_zero, List.set_cons_succ])
  refine wpAnyH_take (i := 1) (v := ?_) rfl (by kernel_rfl) (by kernel_rfl) (by kernel_rfl) (fun _ _ _ h => h) (Or.inl ⟨by rfl, ?_⟩) (by assumption) ?_
  rotate_left
  · (intro wS hSw; (try dsimp only at hSw); go_simp; (try with_reducible rfl))
  (try simp only [Act.put, List.setIfInBounds_toArray, List.set_cons_zero, List.set_cons_succ])
  refine wpAnyH_take (i := 2) (v := ?_) rfl (by kernel_rfl) (by kernel_rfl) (by kernel_rfl) (fun _ _ _ h => h) (Or.inl ⟨by rfl, ?_⟩) (by assumption) ?_
  rotate_left
  · (intro wS hSw; (try dsimp only at hSw); go_simp; (try with_reducible rfl))
  (try simp only [Act.put, List.setIfInBounds_toArray, List.set_cons_zero, List.set_cons_succ])
  refine wpAnyH_take (i := 3) (v := ?_) rfl (by kernel_rfl) (by kernel_rfl) (by kernel_rfl) (fun _ _ _ h => h) (Or.inl ⟨by rfl, ?_⟩) (by assumption) ?_
  rotate_left
  · (intro wS hSw; (try dsimp only at hSw); go_simp; (try with_reducible rfl))
  (try simp only [Act.put, List.setIfInBounds_toArray, List.set_cons_zero, List.set_cons_succ])
  refine wpAnyH_take (i := 4) (v := ?_) rfl (by kernel_rfl) (by kernel_rfl) (by kernel_rfl) (fun _ _ _ h => h) (Or.inl ⟨by rfl, ?_⟩) (by assumption) ?_
  rotate_left
  · (intro wS hSw; (try dsimp only at hSw); go_simp; (try with_reducible rfl))
  (try simp only [Act.put, List.setIfInBounds_toArray, List.set_cons_zero, List.set_cons_succ])
  refine wpAnyH_take (i := 5) (v := ?_) rfl (by kernel_rfl) (by kernel_rfl) (by kernel_rfl) (fun _ _ _ h => h) (Or.inl ⟨by rfl, ?_⟩) (by assumption) ?_
  rotate_left
  · (intro wS hSw; (try dsimp only at hSw); go_simp; (try with_reducible rfl))
  (try simp only [Act.put, List.setIfInBounds_toArray, List.set_cons_zero, List.set_cons_succ])
  refine wpAnyH_ready (rs := [6]) (by kernel_rfl) (by simp) ?_
  refine AllReadyH.cons rfl (fun K hK => ?_) AllReadyH.nil
  go_simp
  refine hK.out _ _ ?_ (fun hHeld => ?_)
  · ((try dsimp only); go_keep)
  clear hK K
  (try simp only [Act.put, List.setIfInBounds_toArray, List.set_cons_zero, List.set_cons_succ])
  refine wpAnyH_ready (rs := [7]) (by kernel_rfl) (by simp) ?_
  refine AllReadyH.cons rfl (fun K hK => ?_) AllReadyH.nil
  go_simp
  refine HTAB.out.mono ?_
  rintro e w2 ⟨hq, b, rfl, hm2⟩
  dsimp only
  have z0 := (hq.cell (p := ⟨w.heap.size, 0, none⟩) (show w.heap.size < w1.heap.size from hl0)).trans hHeld.1
  have z1 := (hq.cell (p := ⟨w.heap.size + 1, 0, none⟩) (show w.heap.size + 1 < w1.heap.size from hl1)).trans hHeld.2.1
  have z2 := (hq.cell (p := ⟨bb, ob, none⟩) (show bb < w1.heap.size by omega)).trans hHeld.2.2
  refine hK.out _ _ ⟨z0, z1, z2⟩ (fun hHeld => ?_)
  clear hK K
  (try simp only [Act.put, List.setIfInBounds_toArray, List.set_cons_zero, List.set_cons_succ])
  have s2 := S1.out.drew.trans (hq.mono S1.out.size)
  have hm3 := hm2.mono (show w.heap.size ≤ w1.drew.heap.size from S1.out.size)
  have S2 := Lib.hid s2; clear s2
  have HM3 := Lib.hid hm3; clear hm3
  clear hq hm2 z0 z1 z2
  refine wpAnyH_take (i := 8) (v := ?_) rfl (by kernel_rfl) (by kernel_rfl) (by kernel_rfl) (fun _ _ _ h => h) (Or.inl ⟨by rfl, ?_⟩) (by assumption) ?_
  rotate_left
  · (intro wS hSw; (try dsimp only at hSw); go_simp; (try with_reducible rfl))
  (try simp only [Act.put, List.setIfInBounds_toArray, List.set_cons_zero, List.set_cons_succ])
  refine wpAnyH_done (by kernel_rfl) ?_ _
  (try simp only [List.getElem_toArray, List.getElem_cons_zero, List.getElem_cons_succ, Act.put, List.setIfInBounds_toArray, List.set_cons_zero, List.set_cons_succ])
  go_wp2_with fail
  go_ret
  exact ⟨S2.out, b, rfl, HM3.out⟩
end Go.Proofs.YthpgeeaccmgbkaaGreat

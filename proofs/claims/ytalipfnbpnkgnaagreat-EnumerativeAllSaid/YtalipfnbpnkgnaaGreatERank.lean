/- enumerative.Rank at valid graphs, states and words. -/
import Derived.Test.YtalipfnbpnkgnaaGreatRank
import Derived.Test.YtalipfnbpnkgnaaGreatEPrc
import Derived.Test.YtalipfnbpnkgnaaGreatPart8
namespace Go.Proofs.YtalipfnbpnkgnaaGreat
open Go.RowKit

theorem rank_any (L : Int) (S s0 : Nat) (es : List E3) (v tv : Value) (wd : ByteArray) (p : Int → Bool) (w : World) (hr : Row w v es.length (ce es)) (ht : Tab w tv (tabL es S p wd.size)) (hS : S ≤ 64) (hl : es.length ≤ 1024) (hin : InS S es) (hlab : ∀ e ∈ es, 0 ≤ e.l ∧ e.l < 16) (hs0 : s0 < S) (hm : wd.size ≤ 4096) :
    Calls Tryz.prog 33 #[.agg #[.int .i64 L, .int .i64 (S : Int), v], tv, .int .i64 (s0 : Int), .string wd] w (RkRet p (rk es p wd.data.toList (s0 : Int) 0) w) :=
  callsIn_wide.1 (rank_in L S s0 es v tv wd p w hr ht hS hl hin hlab hs0 hm)
theorem chk_lab {L S : Int} {es : List E3} (h : chk L S es = 0) (hL : L ≤ 16) : ∀ e ∈ es, 0 ≤ e.l ∧ e.l < 16 := fun e he => by
  have h1 := (chk_all h).2.2.2.2 e he
  unfold edgeBad at h1
  omega
theorem elen_zero {S : Nat} {s : Nat} (hs : s < S) : elen (S : Int) (s : Int) 0 = 0 := by
  unfold elen
  rw [if_neg (by omega), if_neg (by omega)]
set_option maxRecDepth 100000 in
set_option maxHeartbeats 3200000 in
theorem erank_some (L : Int) (S s0 : Nat) (es : List E3) (v : Value) (wd : ByteArray) (w : World) (hr : Row w v es.length (ce es)) (hok : okEs es) (hE : eck L (S : Int) es = 0) (hs0 : s0 < S) (hw : ckw L wd.data.toList = 0) (hm : wd.size ≤ 4096) (a t : Int) (hR : rk es allP wd.data.toList (s0 : Int) 0 = some (a, t)) :
    Calls Tryz.prog 21 #[.agg #[.int .i64 L, .int .i64 (S : Int), v], .int .i64 (s0 : Int), .string wd] w (Ret w (.tuple #[IntV a, .int .i64 0])) := by
  obtain ⟨va, vc, rfl, hle⟩ := hr.slice
  obtain ⟨mm, hmm⟩ : ∃ mm, mm = es.length := ⟨_, rfl⟩
  have hz := eck_zero hE
  have hca := chk_all hz.1
  have s0' := (Below.refl w.heap.size w).alloc (Nat.le_refl _) (.cells #[.int .i64 L, .int .i64 (S : Int), .slice va es.length vc] 24)
  have s0'' := s0'.alloc (by simp) (.cells #[.bool false, .string ⟨#[]⟩] 33)
  have b0 := (Blk.new w 24 [.int .i64 L, .int .i64 (S : Int), .slice va es.length vc]).alloc (.cells #[.bool false, .string ⟨#[]⟩] 33)
  have b1 := Blk.new (w.alloc (.cells #[.int .i64 L, .int .i64 (S : Int), .slice va es.length vc] 24)) 33 [.bool false, .string ⟨#[]⟩]
  simp only [World.size_alloc] at b1
  have hr0 := hr.below s0'' (Nat.le_refl _)
  have hck := echeck_any L (S : Int) es _ _ hr0 hok
  have hel := fun w' => elen_any L (S : Int) (s0 : Int) 0 (.slice va es.length vc) w'
  have hkw := fun w' => eckw_any L (S : Int) va es.length vc wd w' (by omega)
  rw [hE] at hck
  rw [elen_zero hs0] at hel
  rw [hw] at hkw
  have htab := fun w' (h : Row w' (.slice va es.length vc) es.length (ce es)) => table_any L S wd.size es (.slice va es.length vc) 55 #[] allP w' h (by omega) hm (by omega) (chk_inS hz.1) (fun args w => enters_of Tryz.func55 (by kernel_rfl) rfl args w) (fun s w' _ _ => every_any _ _)
  have hrank := fun w' tv (h : Row w' (.slice va es.length vc) es.length (ce es)) (ht : Tab w' tv (tabL es S allP wd.size)) => rank_any L S s0 es (.slice va es.length vc) tv wd allP w' h ht (by omega) (by omega) (chk_inS hz.1) (chk_lab hz.1 hz.2.1) hs0 hm
  simp only [RkRet, hR] at hrank
  rw [← hmm] at s0'' b0 b1 hr0 hck hle hel hkw htab hrank
  have HMM := Lib.hid hmm; clear hmm
  have HCK := Lib.hid hck; clear hck
  have HEL := Lib.hid hel; clear hel
  have HKW := Lib.hid hkw; clear hkw
  have HTAB := Lib.hid htab; clear htab
  have HRK := Lib.hid hrank; clear hrank
  have S0 := Lib.hid s0''; clear s0''
  have B0 := Lib.hid b0; clear b0
  have B1 := Lib.hid b1; clear b1
  have HR := Lib.hid hr0; clear hr0
  clear hr hok hE hw hz hca s0'
  go_enter Tryz.func21, Tryz.ntmps21
  rw [← HMM.out]
  go_wp2_with fail
  go_at_call 53
  refine HCK.out.mono ?_
  rintro e w1 ⟨hq1, rfl⟩
  have s1 := S0.out.trans (hq1.mono S0.out.size)
  have hr1 := HR.out.below hq1 (Nat.le_refl _)
  have tk := B0.out.keep hq1; have x0 := tk.cell (j := 0) rfl; have x1 := tk.cell (j := 1) rfl; have x2 := tk.cell (j := 2) rfl; have C0 := Lib.hid tk; clear tk
  have y0 := B1.out.keep hq1
  have C1 := Lib.hid y0; clear y0
  have S1 := Lib.hid s1; clear s1
  have HR1 := Lib.hid hr1; clear hr1
  clear hq1
  go_wp2_with fail
  go_at_call 54
  refine (HEL.out _).mono ?_
  rintro e w2 ⟨hq1, rfl⟩
  have s1 := S1.out.trans (hq1.mono S1.out.size)
  have hr1 := HR1.out.below hq1 (Nat.le_refl _)
  clear x0 x1 x2
  have tk := C0.out.keep hq1; have x0 := tk.cell (j := 0) rfl; have x1 := tk.cell (j := 1) rfl; have x2 := tk.cell (j := 2) rfl; have D0 := Lib.hid tk; clear tk
  have y0 := C1.out.keep hq1
  have D1 := Lib.hid y0; clear y0
  have S2 := Lib.hid s1; clear s1
  have HR2 := Lib.hid hr1; clear hr1
  clear hq1
  go_wp2_with fail
  go_at_call 32
  refine (HKW.out _).mono ?_
  rintro e w3 ⟨hq1, rfl⟩
  have s1 := S2.out.trans (hq1.mono S2.out.size)
  have hr1 := HR2.out.below hq1 (Nat.le_refl _)
  clear x0 x1 x2
  have tk := D0.out.keep hq1; have x0 := tk.cell (j := 0) rfl; have x1 := tk.cell (j := 1) rfl; have x2 := tk.cell (j := 2) rfl; have E0 := Lib.hid tk; clear tk
  have y0 := D1.out.keep hq1
  have E1 := Lib.hid y0; clear y0
  have S3 := Lib.hid s1; clear s1
  have HR3 := Lib.hid hr1; clear hr1
  clear hq1
  have hw3 : w.heap.size + 1 < w3.heap.size := E1.out.lt
  go_wp2_with fail
  refine wp_region_held_drew (S := fun w' => w'.cell? ⟨w.heap.size, 0, none⟩ = some (.int .i64 L) ∧ w'.cell? ⟨w.heap.size, 1, none⟩ = some (.int .i64 (S : Int)) ∧ w'.cell? ⟨w.heap.size, 2, none⟩ = some (.slice va mm vc)) (by kernel_rfl) ?_ (fun hHeld => ?_)
  · go_keep
  refine wpAnyH_take (i := 0) (v := ?_) rfl (by kernel_rfl) (by kernel_rfl) (by kernel_rfl) (fun _ _ _ h => h) (Or.inl ⟨by rfl, ?_⟩) (by assumption) ?_
  rotate_left
  · (intro wS hSw; (try dsimp only at hSw); go_simp; (try with_reducible rfl))
  (try simp only [Act.put, List.setIfInBounds_toArray, List.set_cons_zero, List.set_cons_succ])
  refine wpAnyH_take (i := 1) (v := ?_) rfl (by kernel_rfl) (by kernel_rfl) (by kernel_rfl) (fun _ _ _ h => h) (Or.inl ⟨by rfl, ?_⟩) (by assumption) ?_
  rotate_left
  · (intro wS hSw; (try dsimp only at hSw); go_simp; (try with_reducible rfl))
  (try simp only [Act.put, List.setIfInBounds_toArray, List.set_cons_zero, List.set_cons_succ])
  refine wpAnyH_take (i := 2) (v := ?_) rfl (by kernel_rfl) (by kernel_rfl) (by kernel_rfl) (fun _ _ _ h => h) (Or.inl ⟨by rfl, ?_⟩) (by assumption) ?_
  rotate_left
  · (intro wS hSw; (try dsimp only at hSw); go_simp; (try with_reducible rfl))
  (try simp only [Act.put, List.setIfInBounds_toArray, List.set_cons_zero, List.set_cons_succ])
  refine wpAnyH_take (i := 3) (v := ?_) rfl (by kernel_rfl) (by kernel_rfl) (by kernel_rfl) (fun _ _ _ h => h) (Or.inl ⟨by rfl, ?_⟩) (by assumption) ?_
  rotate_left
  · (intro wS hSw; (try dsimp only at hSw); go_simp; (try with_reducible rfl))
  (try simp only [Act.put, List.setIfInBounds_toArray, List.set_cons_zero, List.set_cons_succ])
  refine wpAnyH_take (i := 5) (v := ?_) rfl (by kernel_rfl) (by kernel_rfl) (by kernel_rfl) (fun _ _ _ h => h) (Or.inl ⟨by rfl, ?_⟩) (by assumption) ?_
  rotate_left
  · (intro wS hSw; (try dsimp only at hSw); go_simp; (try with_reducible rfl))
  (try simp only [Act.put, List.setIfInBounds_toArray, List.set_cons_zero, List.set_cons_succ])
  refine wpAnyH_take (i := 6) (v := ?_) rfl (by kernel_rfl) (by kernel_rfl) (by kernel_rfl) (fun _ _ _ h => h) (Or.inl ⟨by rfl, ?_⟩) (by assumption) ?_
  rotate_left
  · (intro wS hSw; (try dsimp only at hSw); go_simp; (try with_reducible rfl))
  (try simp only [Act.put, List.setIfInBounds_toArray, List.set_cons_zero, List.set_cons_succ])
  refine wpAnyH_ready (rs := [4, 12]) (by kernel_rfl) (by simp) ?_
  refine AllReadyH.cons rfl (fun K hK => ?_) (AllReadyH.cons rfl (fun K hK => ?_) AllReadyH.nil)
  · go_simp
    go_at_call 34
    refine (HTAB.out _ (HR3.out.drew)).mono ?_
    rintro e w41 ⟨hq, tv, rfl, htb⟩
    dsimp only
    have z0 := (hq.cell (p := ⟨w.heap.size, 0, none⟩) (show w.heap.size < w3.heap.size by omega)).trans hHeld.1
    have z1 := (hq.cell (p := ⟨w.heap.size, 1, none⟩) (show w.heap.size < w3.heap.size by omega)).trans hHeld.2.1
    have z2 := (hq.cell (p := ⟨w.heap.size, 2, none⟩) (show w.heap.size < w3.heap.size by omega)).trans hHeld.2.2
    refine hK.out _ _ ⟨z0, z1, z2⟩ (fun hHeld => ?_)
    clear hK K
    (try simp only [Act.put, List.setIfInBounds_toArray, List.set_cons_zero, List.set_cons_succ])
    have s5 := (S3.out.drew).trans (hq.mono (S3.out.drew).size)
    have r5 := (HR3.out.drew).below hq (Nat.le_refl _)
    have y5 := (E1.out.drew).keep hq
    have l5 : w.heap.size + 1 < w41.heap.size := y5.lt
    have Sw41 := Lib.hid s5; clear s5
    have HRw41 := Lib.hid r5; clear r5
    have Rw41 := Lib.hid y5; clear y5
    have t5 := htb.tab
    have Tw41 := Lib.hid t5; clear t5
    clear htb
    clear hq z0 z1 z2
    refine wpAnyH_ready (rs := [7, 12]) (by kernel_rfl) (by simp) ?_
    refine AllReadyH.cons rfl (fun K hK => ?_) (AllReadyH.cons rfl (fun K hK => ?_) AllReadyH.nil)
    · go_simp
      go_at_call 33
      refine (HRK.out _ _ (HRw41.out) Tw41.out).mono ?_
      rintro e w42 ⟨hq, rfl⟩
      dsimp only
      have z0 := (hq.cell (p := ⟨w.heap.size, 0, none⟩) (show w.heap.size < w41.heap.size by omega)).trans hHeld.1
      have z1 := (hq.cell (p := ⟨w.heap.size, 1, none⟩) (show w.heap.size < w41.heap.size by omega)).trans hHeld.2.1
      have z2 := (hq.cell (p := ⟨w.heap.size, 2, none⟩) (show w.heap.size < w41.heap.size by omega)).trans hHeld.2.2
      refine hK.out _ _ ⟨z0, z1, z2⟩ (fun hHeld => ?_)
      clear hK K
      (try simp only [Act.put, List.setIfInBounds_toArray, List.set_cons_zero, List.set_cons_succ])
      have s5 := (Sw41.out).trans (hq.mono (Sw41.out).size)
      have r5 := (HRw41.out).below hq (Nat.le_refl _)
      have y5 := (Rw41.out).keep hq
      have l5 : w.heap.size + 1 < w42.heap.size := y5.lt
      have Sw42 := Lib.hid s5; clear s5
      have HRw42 := Lib.hid r5; clear r5
      have Rw42 := Lib.hid y5; clear y5
      clear hq z0 z1 z2
      refine wpAnyH_take (i := 8) (v := ?_) rfl (by kernel_rfl) (by kernel_rfl) (by kernel_rfl) (fun _ _ _ h => h) (Or.inl ⟨by rfl, ?_⟩) (by assumption) ?_
      rotate_left
      · (intro wS hSw; (try dsimp only at hSw); go_simp; (try with_reducible rfl))
      (try simp only [Act.put, List.setIfInBounds_toArray, List.set_cons_zero, List.set_cons_succ])
      refine wpAnyH_take (i := 9) (v := ?_) rfl (by kernel_rfl) (by kernel_rfl) (by kernel_rfl) (fun _ _ _ h => h) (Or.inl ⟨by rfl, ?_⟩) (by assumption) ?_
      rotate_left
      · (intro wS hSw; (try dsimp only at hSw); go_simp; (try with_reducible rfl))
      (try simp only [Act.put, List.setIfInBounds_toArray, List.set_cons_zero, List.set_cons_succ])
      refine wpAnyH_take (i := 10) (v := ?_) rfl (by kernel_rfl) (by kernel_rfl) (by kernel_rfl) (fun _ _ _ h => h) (Or.inl ⟨by rfl, ?_⟩) (by assumption) ?_
      rotate_left
      · (intro wS hSw; (try dsimp only at hSw); go_simp; (try with_reducible rfl))
      (try simp only [Act.put, List.setIfInBounds_toArray, List.set_cons_zero, List.set_cons_succ])
      refine wpAnyH_take (i := 11) (v := ?_) rfl (by kernel_rfl) (by kernel_rfl) (by kernel_rfl) (fun _ _ _ h => h) (Or.inl ⟨by rfl, ?_⟩) (by assumption) ?_
      rotate_left
      · (intro wS hSw; (try dsimp only at hSw); go_simp; (try with_reducible rfl))
      (try simp only [Act.put, List.setIfInBounds_toArray, List.set_cons_zero, List.set_cons_succ])
      refine wpAnyH_ready (rs := [12]) (by kernel_rfl) (by simp) ?_
      refine AllReadyH.cons rfl (fun K hK => ?_) AllReadyH.nil
      go_simp
      refine hK.out _ _ ?_ (fun hHeld => ?_)
      · ((try dsimp only); go_keep)
      clear hK K
      (try simp only [Act.put, List.setIfInBounds_toArray, List.set_cons_zero, List.set_cons_succ])
      have hbq : Below (w42).heap.size (w42) ((w42).alloc (.cells #[.bool false, .string ⟨#[]⟩] 33)) := (Below.refl _ _).alloc (Nat.le_refl _) _
      have a5 := Blk.new (w42) 33 [.bool false, .string ⟨#[]⟩]
      have g5 : (w42).heap.size = w42.heap.size := rfl
      rw [g5] at a5
      have s5 := (Sw42.out).trans (hbq.mono (Sw42.out).size)
      have r5 := (HRw42.out).below hbq (Nat.le_refl _)
      have y5 := (Rw42.out).keep hbq
      obtain ⟨ba, hba⟩ : ∃ ba, ba = w42.heap.size := ⟨_, rfl⟩
      have hane : w.heap.size + 1 < ba := by omega
      rw [← hba] at a5
      have e5 : (w42).alloc (.cells #[.bool false, .string ⟨#[]⟩] 33) = (w42).alloc (.cells #[.bool false, .string ⟨#[]⟩] 33) := rfl
      rw [e5] at a5 s5 r5 y5 hbq
      obtain ⟨w43, hv5⟩ : ∃ w43, (w42).alloc (.cells #[.bool false, .string ⟨#[]⟩] 33) = w43 := ⟨_, rfl⟩
      rw [hv5] at hHeld a5 s5 r5 y5 hbq
      have l5 : w.heap.size + 1 < w43.heap.size := y5.lt
      have al5 := a5.lt
      have Sw43 := Lib.hid s5; clear s5
      have HRw43 := Lib.hid r5; clear r5
      have Rw43 := Lib.hid y5; clear y5
      have Aw43 := Lib.hid a5; clear a5
      have hpa : (Value.pointer (some ⟨w42.heap.size, 0, none⟩)) = Value.pointer (some ⟨ba, 0, none⟩) := by rw [hba]
      (try simp only [World.size_drew])
      rw [hv5]
      (try rw [hpa])
      clear hbq hv5 hba hpa g5 e5
      have a0 := (Aw43.out).cell (j := 0) rfl
      have a1 := (Aw43.out).cell (j := 1) rfl
      have f0 := (Aw43.out).frozen 0
      have f1 := (Aw43.out).frozen 1
      have hne : ¬ ba = w.heap.size := by omega
      refine wpAnyH_ready (rs := [13]) (by kernel_rfl) (by simp) ?_
      refine AllReadyH.cons rfl (fun K hK => ?_) AllReadyH.nil
      go_simp
      refine hK.out _ _ ?_ (fun hHeld => ?_)
      · ((try dsimp only); go_keep)
      clear hK K
      (try simp only [Act.put, List.setIfInBounds_toArray, List.set_cons_zero, List.set_cons_succ])
      refine wpAnyH_take (i := 14) (v := ?_) rfl (by kernel_rfl) (by kernel_rfl) (by kernel_rfl) (fun _ _ _ h => h) (Or.inl ⟨by rfl, ?_⟩) (by assumption) ?_
      rotate_left
      · (intro wS hSw; (try dsimp only at hSw); go_simp; (try with_reducible rfl))
      (try simp only [Act.put, List.setIfInBounds_toArray, List.set_cons_zero, List.set_cons_succ])
      refine wpAnyH_take (i := 15) (v := ?_) rfl (by kernel_rfl) (by kernel_rfl) (by kernel_rfl) (fun _ _ _ h => h) (Or.inl ⟨by rfl, ?_⟩) (by assumption) ?_
      rotate_left
      · (intro wS hSw; (try dsimp only at hSw); go_simp; (try with_reducible rfl))
      (try simp only [Act.put, List.setIfInBounds_toArray, List.set_cons_zero, List.set_cons_succ])
      refine wpAnyH_done (by kernel_rfl) ?_ _
      (try simp only [List.getElem_toArray, List.getElem_cons_zero, List.getElem_cons_succ, Act.put, List.setIfInBounds_toArray, List.set_cons_zero, List.set_cons_succ])
      have az := ((Aw43.out).set 0 (.bool (ineg a))).set 1 (.string (imag a))
      have hkz : ∀ b, b ≠ ba → ((w43.setCell ⟨ba, 0, none⟩ (.bool (ineg a))).setCell ⟨ba, 1, none⟩ (.string (imag a))).heap[b]? = w43.heap[b]? := fun b h => (Below.heap_setCell _ _ _ b h).trans (Below.heap_setCell _ _ _ b h)
      have rz := (Rw43.out).of_block (hkz _ (by omega))
      have sz := ((Sw43.out).setCell (p := ⟨ba, 0, none⟩) (show w.heap.size ≤ ba by omega) (.bool (ineg a))).setCell (p := ⟨ba, 1, none⟩) (show w.heap.size ≤ ba by omega) (.string (imag a))
      obtain ⟨wz, hwz⟩ : ∃ wz, (w43.setCell ⟨ba, 0, none⟩ (.bool (ineg a))).setCell ⟨ba, 1, none⟩ (.string (imag a)) = wz := ⟨_, rfl⟩
      rw [hwz] at az rz sz ⊢
      clear hwz hkz hHeld a0 a1 f0 f1
      have a0 := az.cell (j := 0) rfl
      have a1 := az.cell (j := 1) rfl
      have r0 := rz.cell (j := 0) rfl
      have r1 := rz.cell (j := 1) rfl
      have f0 := rz.frozen 0
      have f1 := rz.frozen 1
      have SZ := Lib.hid sz; clear sz
      have AZ := Lib.hid az; clear az
      go_wp2_with fail
      refine bodyPost_ret (v := .tuple #[IntV a, .int .i64 0]) ?_ rfl ?_
      · have e0 := ((rz.set 0 (.bool (ineg a))).set 1 (.string (imag a))).cell (j := 0) rfl
        have e1 := ((rz.set 0 (.bool (ineg a))).set 1 (.string (imag a))).cell (j := 1) rfl
        simp [results, Tryz.results21, go_sem, e0, e1, IntV]
      · exact ⟨(SZ.out.setCell (p := ⟨w.heap.size + 1, 0, none⟩) (show w.heap.size ≤ w.heap.size + 1 by omega) _).setCell (p := ⟨w.heap.size + 1, 1, none⟩) (show w.heap.size ≤ w.heap.size + 1 by omega) _, rfl⟩
    · go_simp
      refine hK.out _ _ ?_ (fun hHeld => ?_)
      · ((try dsimp only); go_keep)
      clear hK K
      (try simp only [Act.put, List.setIfInBounds_toArray, List.set_cons_zero, List.set_cons_succ])
      have hbq : Below (w41).heap.size (w41) ((w41).alloc (.cells #[.bool false, .string ⟨#[]⟩] 33)) := (Below.refl _ _).alloc (Nat.le_refl _) _
      have a5 := Blk.new (w41) 33 [.bool false, .string ⟨#[]⟩]
      have g5 : (w41).heap.size = w41.heap.size := rfl
      rw [g5] at a5
      have s5 := (Sw41.out).trans (hbq.mono (Sw41.out).size)
      have r5 := (HRw41.out).below hbq (Nat.le_refl _)
      have y5 := (Rw41.out).keep hbq
      obtain ⟨ba, hba⟩ : ∃ ba, ba = w41.heap.size := ⟨_, rfl⟩
      have hane : w.heap.size + 1 < ba := by omega
      rw [← hba] at a5
      have e5 : (w41).alloc (.cells #[.bool false, .string ⟨#[]⟩] 33) = (w41).alloc (.cells #[.bool false, .string ⟨#[]⟩] 33) := rfl
      rw [e5] at a5 s5 r5 y5 hbq
      obtain ⟨w44, hv5⟩ : ∃ w44, (w41).alloc (.cells #[.bool false, .string ⟨#[]⟩] 33) = w44 := ⟨_, rfl⟩
      rw [hv5] at hHeld a5 s5 r5 y5 hbq
      have l5 : w.heap.size + 1 < w44.heap.size := y5.lt
      have al5 := a5.lt
      have t5 := Tab.below Tw41.out hbq (Nat.le_refl _)
      have Tw44 := Lib.hid t5; clear t5
      have Sw44 := Lib.hid s5; clear s5
      have HRw44 := Lib.hid r5; clear r5
      have Rw44 := Lib.hid y5; clear y5
      have Aw44 := Lib.hid a5; clear a5
      have hpa : (Value.pointer (some ⟨w41.heap.size, 0, none⟩)) = Value.pointer (some ⟨ba, 0, none⟩) := by rw [hba]
      (try simp only [World.size_drew])
      rw [hv5]
      (try rw [hpa])
      clear hbq hv5 hba hpa g5 e5
      refine wpAnyH_ready (rs := [7]) (by kernel_rfl) (by simp) ?_
      refine AllReadyH.cons rfl (fun K hK => ?_) AllReadyH.nil
      go_simp
      go_at_call 33
      refine (HRK.out _ _ (HRw44.out) Tw44.out).mono ?_
      rintro e w45 ⟨hq, rfl⟩
      dsimp only
      have z0 := (hq.cell (p := ⟨w.heap.size, 0, none⟩) (show w.heap.size < w44.heap.size by omega)).trans hHeld.1
      have z1 := (hq.cell (p := ⟨w.heap.size, 1, none⟩) (show w.heap.size < w44.heap.size by omega)).trans hHeld.2.1
      have z2 := (hq.cell (p := ⟨w.heap.size, 2, none⟩) (show w.heap.size < w44.heap.size by omega)).trans hHeld.2.2
      refine hK.out _ _ ⟨z0, z1, z2⟩ (fun hHeld => ?_)
      clear hK K
      (try simp only [Act.put, List.setIfInBounds_toArray, List.set_cons_zero, List.set_cons_succ])
      have s5 := (Sw44.out).trans (hq.mono (Sw44.out).size)
      have r5 := (HRw44.out).below hq (Nat.le_refl _)
      have y5 := (Rw44.out).keep hq
      have l5 : w.heap.size + 1 < w45.heap.size := y5.lt
      have Sw45 := Lib.hid s5; clear s5
      have HRw45 := Lib.hid r5; clear r5
      have Rw45 := Lib.hid y5; clear y5
      have a5 := (Aw44.out).keep hq
      have Aw45 := Lib.hid a5; clear a5
      clear hq z0 z1 z2
      refine wpAnyH_take (i := 8) (v := ?_) rfl (by kernel_rfl) (by kernel_rfl) (by kernel_rfl) (fun _ _ _ h => h) (Or.inl ⟨by rfl, ?_⟩) (by assumption) ?_
      rotate_left
      · (intro wS hSw; (try dsimp only at hSw); go_simp; (try with_reducible rfl))
      (try simp only [Act.put, List.setIfInBounds_toArray, List.set_cons_zero, List.set_cons_succ])
      refine wpAnyH_take (i := 9) (v := ?_) rfl (by kernel_rfl) (by kernel_rfl) (by kernel_rfl) (fun _ _ _ h => h) (Or.inl ⟨by rfl, ?_⟩) (by assumption) ?_
      rotate_left
      · (intro wS hSw; (try dsimp only at hSw); go_simp; (try with_reducible rfl))
      (try simp only [Act.put, List.setIfInBounds_toArray, List.set_cons_zero, List.set_cons_succ])
      refine wpAnyH_take (i := 10) (v := ?_) rfl (by kernel_rfl) (by kernel_rfl) (by kernel_rfl) (fun _ _ _ h => h) (Or.inl ⟨by rfl, ?_⟩) (by assumption) ?_
      rotate_left
      · (intro wS hSw; (try dsimp only at hSw); go_simp; (try with_reducible rfl))
      (try simp only [Act.put, List.setIfInBounds_toArray, List.set_cons_zero, List.set_cons_succ])
      refine wpAnyH_take (i := 11) (v := ?_) rfl (by kernel_rfl) (by kernel_rfl) (by kernel_rfl) (fun _ _ _ h => h) (Or.inl ⟨by rfl, ?_⟩) (by assumption) ?_
      rotate_left
      · (intro wS hSw; (try dsimp only at hSw); go_simp; (try with_reducible rfl))
      (try simp only [Act.put, List.setIfInBounds_toArray, List.set_cons_zero, List.set_cons_succ])
      have a0 := (Aw45.out).cell (j := 0) rfl
      have a1 := (Aw45.out).cell (j := 1) rfl
      have f0 := (Aw45.out).frozen 0
      have f1 := (Aw45.out).frozen 1
      have hne : ¬ ba = w.heap.size := by omega
      refine wpAnyH_ready (rs := [13]) (by kernel_rfl) (by simp) ?_
      refine AllReadyH.cons rfl (fun K hK => ?_) AllReadyH.nil
      go_simp
      refine hK.out _ _ ?_ (fun hHeld => ?_)
      · ((try dsimp only); go_keep)
      clear hK K
      (try simp only [Act.put, List.setIfInBounds_toArray, List.set_cons_zero, List.set_cons_succ])
      refine wpAnyH_take (i := 14) (v := ?_) rfl (by kernel_rfl) (by kernel_rfl) (by kernel_rfl) (fun _ _ _ h => h) (Or.inl ⟨by rfl, ?_⟩) (by assumption) ?_
      rotate_left
      · (intro wS hSw; (try dsimp only at hSw); go_simp; (try with_reducible rfl))
      (try simp only [Act.put, List.setIfInBounds_toArray, List.set_cons_zero, List.set_cons_succ])
      refine wpAnyH_take (i := 15) (v := ?_) rfl (by kernel_rfl) (by kernel_rfl) (by kernel_rfl) (fun _ _ _ h => h) (Or.inl ⟨by rfl, ?_⟩) (by assumption) ?_
      rotate_left
      · (intro wS hSw; (try dsimp only at hSw); go_simp; (try with_reducible rfl))
      (try simp only [Act.put, List.setIfInBounds_toArray, List.set_cons_zero, List.set_cons_succ])
      refine wpAnyH_done (by kernel_rfl) ?_ _
      (try simp only [List.getElem_toArray, List.getElem_cons_zero, List.getElem_cons_succ, Act.put, List.setIfInBounds_toArray, List.set_cons_zero, List.set_cons_succ])
      have az := ((Aw45.out).set 0 (.bool (ineg a))).set 1 (.string (imag a))
      have hkz : ∀ b, b ≠ ba → ((w45.setCell ⟨ba, 0, none⟩ (.bool (ineg a))).setCell ⟨ba, 1, none⟩ (.string (imag a))).heap[b]? = w45.heap[b]? := fun b h => (Below.heap_setCell _ _ _ b h).trans (Below.heap_setCell _ _ _ b h)
      have rz := (Rw45.out).of_block (hkz _ (by omega))
      have sz := ((Sw45.out).setCell (p := ⟨ba, 0, none⟩) (show w.heap.size ≤ ba by omega) (.bool (ineg a))).setCell (p := ⟨ba, 1, none⟩) (show w.heap.size ≤ ba by omega) (.string (imag a))
      obtain ⟨wz, hwz⟩ : ∃ wz, (w45.setCell ⟨ba, 0, none⟩ (.bool (ineg a))).setCell ⟨ba, 1, none⟩ (.string (imag a)) = wz := ⟨_, rfl⟩
      rw [hwz] at az rz sz ⊢
      clear hwz hkz hHeld a0 a1 f0 f1
      have a0 := az.cell (j := 0) rfl
      have a1 := az.cell (j := 1) rfl
      have r0 := rz.cell (j := 0) rfl
      have r1 := rz.cell (j := 1) rfl
      have f0 := rz.frozen 0
      have f1 := rz.frozen 1
      have SZ := Lib.hid sz; clear sz
      have AZ := Lib.hid az; clear az
      go_wp2_with fail
      refine bodyPost_ret (v := .tuple #[IntV a, .int .i64 0]) ?_ rfl ?_
      · have e0 := ((rz.set 0 (.bool (ineg a))).set 1 (.string (imag a))).cell (j := 0) rfl
        have e1 := ((rz.set 0 (.bool (ineg a))).set 1 (.string (imag a))).cell (j := 1) rfl
        simp [results, Tryz.results21, go_sem, e0, e1, IntV]
      · exact ⟨(SZ.out.setCell (p := ⟨w.heap.size + 1, 0, none⟩) (show w.heap.size ≤ w.heap.size + 1 by omega) _).setCell (p := ⟨w.heap.size + 1, 1, none⟩) (show w.heap.size ≤ w.heap.size + 1 by omega) _, rfl⟩
  · go_simp
    refine hK.out _ _ ?_ (fun hHeld => ?_)
    · ((try dsimp only); go_keep)
    clear hK K
    (try simp only [Act.put, List.setIfInBounds_toArray, List.set_cons_zero, List.set_cons_succ])
    have hbq : Below (w3.drew).heap.size (w3.drew) ((w3.drew).alloc (.cells #[.bool false, .string ⟨#[]⟩] 33)) := (Below.refl _ _).alloc (Nat.le_refl _) _
    have a5 := Blk.new (w3.drew) 33 [.bool false, .string ⟨#[]⟩]
    have g5 : (w3.drew).heap.size = w3.heap.size := rfl
    rw [g5] at a5
    have s5 := (S3.out.drew).trans (hbq.mono (S3.out.drew).size)
    have r5 := (HR3.out.drew).below hbq (Nat.le_refl _)
    have y5 := (E1.out.drew).keep hbq
    obtain ⟨ba, hba⟩ : ∃ ba, ba = w3.heap.size := ⟨_, rfl⟩
    have hane : w.heap.size + 1 < ba := by omega
    rw [← hba] at a5
    have e5 : (w3.drew).alloc (.cells #[.bool false, .string ⟨#[]⟩] 33) = (w3.alloc (.cells #[.bool false, .string ⟨#[]⟩] 33)).drew := rfl
    rw [e5] at a5 s5 r5 y5 hbq
    obtain ⟨w46, hv5⟩ : ∃ w46, (w3.alloc (.cells #[.bool false, .string ⟨#[]⟩] 33)).drew = w46 := ⟨_, rfl⟩
    rw [hv5] at hHeld a5 s5 r5 y5 hbq
    have l5 : w.heap.size + 1 < w46.heap.size := y5.lt
    have al5 := a5.lt
    have Sw46 := Lib.hid s5; clear s5
    have HRw46 := Lib.hid r5; clear r5
    have Rw46 := Lib.hid y5; clear y5
    have Aw46 := Lib.hid a5; clear a5
    have hpa : (Value.pointer (some ⟨w3.heap.size, 0, none⟩)) = Value.pointer (some ⟨ba, 0, none⟩) := by rw [hba]
    (try simp only [World.size_drew])
    rw [hv5]
    (try rw [hpa])
    clear hbq hv5 hba hpa g5 e5
    refine wpAnyH_ready (rs := [4]) (by kernel_rfl) (by simp) ?_
    refine AllReadyH.cons rfl (fun K hK => ?_) AllReadyH.nil
    go_simp
    go_at_call 34
    refine (HTAB.out _ (HRw46.out)).mono ?_
    rintro e w47 ⟨hq, tv, rfl, htb⟩
    dsimp only
    have z0 := (hq.cell (p := ⟨w.heap.size, 0, none⟩) (show w.heap.size < w46.heap.size by omega)).trans hHeld.1
    have z1 := (hq.cell (p := ⟨w.heap.size, 1, none⟩) (show w.heap.size < w46.heap.size by omega)).trans hHeld.2.1
    have z2 := (hq.cell (p := ⟨w.heap.size, 2, none⟩) (show w.heap.size < w46.heap.size by omega)).trans hHeld.2.2
    refine hK.out _ _ ⟨z0, z1, z2⟩ (fun hHeld => ?_)
    clear hK K
    (try simp only [Act.put, List.setIfInBounds_toArray, List.set_cons_zero, List.set_cons_succ])
    have s5 := (Sw46.out).trans (hq.mono (Sw46.out).size)
    have r5 := (HRw46.out).below hq (Nat.le_refl _)
    have y5 := (Rw46.out).keep hq
    have l5 : w.heap.size + 1 < w47.heap.size := y5.lt
    have Sw47 := Lib.hid s5; clear s5
    have HRw47 := Lib.hid r5; clear r5
    have Rw47 := Lib.hid y5; clear y5
    have t5 := htb.tab
    have Tw47 := Lib.hid t5; clear t5
    clear htb
    have a5 := (Aw46.out).keep hq
    have Aw47 := Lib.hid a5; clear a5
    clear hq z0 z1 z2
    refine wpAnyH_ready (rs := [7]) (by kernel_rfl) (by simp) ?_
    refine AllReadyH.cons rfl (fun K hK => ?_) AllReadyH.nil
    go_simp
    go_at_call 33
    refine (HRK.out _ _ (HRw47.out) Tw47.out).mono ?_
    rintro e w48 ⟨hq, rfl⟩
    dsimp only
    have z0 := (hq.cell (p := ⟨w.heap.size, 0, none⟩) (show w.heap.size < w47.heap.size by omega)).trans hHeld.1
    have z1 := (hq.cell (p := ⟨w.heap.size, 1, none⟩) (show w.heap.size < w47.heap.size by omega)).trans hHeld.2.1
    have z2 := (hq.cell (p := ⟨w.heap.size, 2, none⟩) (show w.heap.size < w47.heap.size by omega)).trans hHeld.2.2
    refine hK.out _ _ ⟨z0, z1, z2⟩ (fun hHeld => ?_)
    clear hK K
    (try simp only [Act.put, List.setIfInBounds_toArray, List.set_cons_zero, List.set_cons_succ])
    have s5 := (Sw47.out).trans (hq.mono (Sw47.out).size)
    have r5 := (HRw47.out).below hq (Nat.le_refl _)
    have y5 := (Rw47.out).keep hq
    have l5 : w.heap.size + 1 < w48.heap.size := y5.lt
    have Sw48 := Lib.hid s5; clear s5
    have HRw48 := Lib.hid r5; clear r5
    have Rw48 := Lib.hid y5; clear y5
    have a5 := (Aw47.out).keep hq
    have Aw48 := Lib.hid a5; clear a5
    clear hq z0 z1 z2
    refine wpAnyH_take (i := 8) (v := ?_) rfl (by kernel_rfl) (by kernel_rfl) (by kernel_rfl) (fun _ _ _ h => h) (Or.inl ⟨by rfl, ?_⟩) (by assumption) ?_
    rotate_left
    · (intro wS hSw; (try dsimp only at hSw); go_simp; (try with_reducible rfl))
    (try simp only [Act.put, List.setIfInBounds_toArray, List.set_cons_zero, List.set_cons_succ])
    refine wpAnyH_take (i := 9) (v := ?_) rfl (by kernel_rfl) (by kernel_rfl) (by kernel_rfl) (fun _ _ _ h => h) (Or.inl ⟨by rfl, ?_⟩) (by assumption) ?_
    rotate_left
    · (intro wS hSw; (try dsimp only at hSw); go_simp; (try with_reducible rfl))
    (try simp only [Act.put, List.setIfInBounds_toArray, List.set_cons_zero, List.set_cons_succ])
    refine wpAnyH_take (i := 10) (v := ?_) rfl (by kernel_rfl) (by kernel_rfl) (by kernel_rfl) (fun _ _ _ h => h) (Or.inl ⟨by rfl, ?_⟩) (by assumption) ?_
    rotate_left
    · (intro wS hSw; (try dsimp only at hSw); go_simp; (try with_reducible rfl))
    (try simp only [Act.put, List.setIfInBounds_toArray, List.set_cons_zero, List.set_cons_succ])
    refine wpAnyH_take (i := 11) (v := ?_) rfl (by kernel_rfl) (by kernel_rfl) (by kernel_rfl) (fun _ _ _ h => h) (Or.inl ⟨by rfl, ?_⟩) (by assumption) ?_
    rotate_left
    · (intro wS hSw; (try dsimp only at hSw); go_simp; (try with_reducible rfl))
    (try simp only [Act.put, List.setIfInBounds_toArray, List.set_cons_zero, List.set_cons_succ])
    have a0 := (Aw48.out).cell (j := 0) rfl
    have a1 := (Aw48.out).cell (j := 1) rfl
    have f0 := (Aw48.out).frozen 0
    have f1 := (Aw48.out).frozen 1
    have hne : ¬ ba = w.heap.size := by omega
    refine wpAnyH_ready (rs := [13]) (by kernel_rfl) (by simp) ?_
    refine AllReadyH.cons rfl (fun K hK => ?_) AllReadyH.nil
    go_simp
    refine hK.out _ _ ?_ (fun hHeld => ?_)
    · ((try dsimp only); go_keep)
    clear hK K
    (try simp only [Act.put, List.setIfInBounds_toArray, List.set_cons_zero, List.set_cons_succ])
    refine wpAnyH_take (i := 14) (v := ?_) rfl (by kernel_rfl) (by kernel_rfl) (by kernel_rfl) (fun _ _ _ h => h) (Or.inl ⟨by rfl, ?_⟩) (by assumption) ?_
    rotate_left
    · (intro wS hSw; (try dsimp only at hSw); go_simp; (try with_reducible rfl))
    (try simp only [Act.put, List.setIfInBounds_toArray, List.set_cons_zero, List.set_cons_succ])
    refine wpAnyH_take (i := 15) (v := ?_) rfl (by kernel_rfl) (by kernel_rfl) (by kernel_rfl) (fun _ _ _ h => h) (Or.inl ⟨by rfl, ?_⟩) (by assumption) ?_
    rotate_left
    · (intro wS hSw; (try dsimp only at hSw); go_simp; (try with_reducible rfl))
    (try simp only [Act.put, List.setIfInBounds_toArray, List.set_cons_zero, List.set_cons_succ])
    refine wpAnyH_done (by kernel_rfl) ?_ _
    (try simp only [List.getElem_toArray, List.getElem_cons_zero, List.getElem_cons_succ, Act.put, List.setIfInBounds_toArray, List.set_cons_zero, List.set_cons_succ])
    have az := ((Aw48.out).set 0 (.bool (ineg a))).set 1 (.string (imag a))
    have hkz : ∀ b, b ≠ ba → ((w48.setCell ⟨ba, 0, none⟩ (.bool (ineg a))).setCell ⟨ba, 1, none⟩ (.string (imag a))).heap[b]? = w48.heap[b]? := fun b h => (Below.heap_setCell _ _ _ b h).trans (Below.heap_setCell _ _ _ b h)
    have rz := (Rw48.out).of_block (hkz _ (by omega))
    have sz := ((Sw48.out).setCell (p := ⟨ba, 0, none⟩) (show w.heap.size ≤ ba by omega) (.bool (ineg a))).setCell (p := ⟨ba, 1, none⟩) (show w.heap.size ≤ ba by omega) (.string (imag a))
    obtain ⟨wz, hwz⟩ : ∃ wz, (w48.setCell ⟨ba, 0, none⟩ (.bool (ineg a))).setCell ⟨ba, 1, none⟩ (.string (imag a)) = wz := ⟨_, rfl⟩
    rw [hwz] at az rz sz ⊢
    clear hwz hkz hHeld a0 a1 f0 f1
    have a0 := az.cell (j := 0) rfl
    have a1 := az.cell (j := 1) rfl
    have r0 := rz.cell (j := 0) rfl
    have r1 := rz.cell (j := 1) rfl
    have f0 := rz.frozen 0
    have f1 := rz.frozen 1
    have SZ := Lib.hid sz; clear sz
    have AZ := Lib.hid az; clear az
    go_wp2_with fail
    refine bodyPost_ret (v := .tuple #[IntV a, .int .i64 0]) ?_ rfl ?_
    · have e0 := ((rz.set 0 (.bool (ineg a))).set 1 (.string (imag a))).cell (j := 0) rfl
      have e1 := ((rz.set 0 (.bool (ineg a))).set 1 (.string (imag a))).cell (j := 1) rfl
      simp [results, Tryz.results21, go_sem, e0, e1, IntV]
    · exact ⟨(SZ.out.setCell (p := ⟨w.heap.size + 1, 0, none⟩) (show w.heap.size ≤ w.heap.size + 1 by omega) _).setCell (p := ⟨w.heap.size + 1, 1, none⟩) (show w.heap.size ≤ w.heap.size + 1 by omega) _, rfl⟩
set_option maxRecDepth 100000 in
set_option maxHeartbeats 3200000 in
theorem erank_none (L : Int) (S s0 : Nat) (es : List E3) (v : Value) (wd : ByteArray) (w : World) (hr : Row w v es.length (ce es)) (hok : okEs es) (hE : eck L (S : Int) es = 0) (hs0 : s0 < S) (hw : ckw L wd.data.toList = 0) (hm : wd.size ≤ 4096) (hR : rk es allP wd.data.toList (s0 : Int) 0 = none) :
    Calls Tryz.prog 21 #[.agg #[.int .i64 L, .int .i64 (S : Int), v], .int .i64 (s0 : Int), .string wd] w (Ret w (.tuple #[IntV 0, .int .i64 13])) := by
  obtain ⟨va, vc, rfl, hle⟩ := hr.slice
  obtain ⟨mm, hmm⟩ : ∃ mm, mm = es.length := ⟨_, rfl⟩
  have hz := eck_zero hE
  have hca := chk_all hz.1
  have s0' := (Below.refl w.heap.size w).alloc (Nat.le_refl _) (.cells #[.int .i64 L, .int .i64 (S : Int), .slice va es.length vc] 24)
  have s0'' := s0'.alloc (by simp) (.cells #[.bool false, .string ⟨#[]⟩] 33)
  have b0 := (Blk.new w 24 [.int .i64 L, .int .i64 (S : Int), .slice va es.length vc]).alloc (.cells #[.bool false, .string ⟨#[]⟩] 33)
  have b1 := Blk.new (w.alloc (.cells #[.int .i64 L, .int .i64 (S : Int), .slice va es.length vc] 24)) 33 [.bool false, .string ⟨#[]⟩]
  simp only [World.size_alloc] at b1
  have hr0 := hr.below s0'' (Nat.le_refl _)
  have hck := echeck_any L (S : Int) es _ _ hr0 hok
  have hel := fun w' => elen_any L (S : Int) (s0 : Int) 0 (.slice va es.length vc) w'
  have hkw := fun w' => eckw_any L (S : Int) va es.length vc wd w' (by omega)
  rw [hE] at hck
  rw [elen_zero hs0] at hel
  rw [hw] at hkw
  have htab := fun w' (h : Row w' (.slice va es.length vc) es.length (ce es)) => table_any L S wd.size es (.slice va es.length vc) 55 #[] allP w' h (by omega) hm (by omega) (chk_inS hz.1) (fun args w => enters_of Tryz.func55 (by kernel_rfl) rfl args w) (fun s w' _ _ => every_any _ _)
  have hrank := fun w' tv (h : Row w' (.slice va es.length vc) es.length (ce es)) (ht : Tab w' tv (tabL es S allP wd.size)) => rank_any L S s0 es (.slice va es.length vc) tv wd allP w' h ht (by omega) (by omega) (chk_inS hz.1) (chk_lab hz.1 hz.2.1) hs0 hm
  simp only [RkRet, hR] at hrank
  rw [← hmm] at s0'' b0 b1 hr0 hck hle hel hkw htab hrank
  have HMM := Lib.hid hmm; clear hmm
  have HCK := Lib.hid hck; clear hck
  have HEL := Lib.hid hel; clear hel
  have HKW := Lib.hid hkw; clear hkw
  have HTAB := Lib.hid htab; clear htab
  have HRK := Lib.hid hrank; clear hrank
  have S0 := Lib.hid s0''; clear s0''
  have B0 := Lib.hid b0; clear b0
  have B1 := Lib.hid b1; clear b1
  have HR := Lib.hid hr0; clear hr0
  clear hr hok hE hw hz hca s0'
  go_enter Tryz.func21, Tryz.ntmps21
  rw [← HMM.out]
  go_wp2_with fail
  go_at_call 53
  refine HCK.out.mono ?_
  rintro e w1 ⟨hq1, rfl⟩
  have s1 := S0.out.trans (hq1.mono S0.out.size)
  have hr1 := HR.out.below hq1 (Nat.le_refl _)
  have tk := B0.out.keep hq1; have x0 := tk.cell (j := 0) rfl; have x1 := tk.cell (j := 1) rfl; have x2 := tk.cell (j := 2) rfl; have C0 := Lib.hid tk; clear tk
  have y0 := B1.out.keep hq1
  have C1 := Lib.hid y0; clear y0
  have S1 := Lib.hid s1; clear s1
  have HR1 := Lib.hid hr1; clear hr1
  clear hq1
  go_wp2_with fail
  go_at_call 54
  refine (HEL.out _).mono ?_
  rintro e w2 ⟨hq1, rfl⟩
  have s1 := S1.out.trans (hq1.mono S1.out.size)
  have hr1 := HR1.out.below hq1 (Nat.le_refl _)
  clear x0 x1 x2
  have tk := C0.out.keep hq1; have x0 := tk.cell (j := 0) rfl; have x1 := tk.cell (j := 1) rfl; have x2 := tk.cell (j := 2) rfl; have D0 := Lib.hid tk; clear tk
  have y0 := C1.out.keep hq1
  have D1 := Lib.hid y0; clear y0
  have S2 := Lib.hid s1; clear s1
  have HR2 := Lib.hid hr1; clear hr1
  clear hq1
  go_wp2_with fail
  go_at_call 32
  refine (HKW.out _).mono ?_
  rintro e w3 ⟨hq1, rfl⟩
  have s1 := S2.out.trans (hq1.mono S2.out.size)
  have hr1 := HR2.out.below hq1 (Nat.le_refl _)
  clear x0 x1 x2
  have tk := D0.out.keep hq1; have x0 := tk.cell (j := 0) rfl; have x1 := tk.cell (j := 1) rfl; have x2 := tk.cell (j := 2) rfl; have E0 := Lib.hid tk; clear tk
  have y0 := D1.out.keep hq1
  have E1 := Lib.hid y0; clear y0
  have S3 := Lib.hid s1; clear s1
  have HR3 := Lib.hid hr1; clear hr1
  clear hq1
  have hw3 : w.heap.size + 1 < w3.heap.size := E1.out.lt
  go_wp2_with fail
  refine wp_region_held_drew (S := fun w' => w'.cell? ⟨w.heap.size, 0, none⟩ = some (.int .i64 L) ∧ w'.cell? ⟨w.heap.size, 1, none⟩ = some (.int .i64 (S : Int)) ∧ w'.cell? ⟨w.heap.size, 2, none⟩ = some (.slice va mm vc)) (by kernel_rfl) ?_ (fun hHeld => ?_)
  · go_keep
  refine wpAnyH_take (i := 0) (v := ?_) rfl (by kernel_rfl) (by kernel_rfl) (by kernel_rfl) (fun _ _ _ h => h) (Or.inl ⟨by rfl, ?_⟩) (by assumption) ?_
  rotate_left
  · (intro wS hSw; (try dsimp only at hSw); go_simp; (try with_reducible rfl))
  (try simp only [Act.put, List.setIfInBounds_toArray, List.set_cons_zero, List.set_cons_succ])
  refine wpAnyH_take (i := 1) (v := ?_) rfl (by kernel_rfl) (by kernel_rfl) (by kernel_rfl) (fun _ _ _ h => h) (Or.inl ⟨by rfl, ?_⟩) (by assumption) ?_
  rotate_left
  · (intro wS hSw; (try dsimp only at hSw); go_simp; (try with_reducible rfl))
  (try simp only [Act.put, List.setIfInBounds_toArray, List.set_cons_zero, List.set_cons_succ])
  refine wpAnyH_take (i := 2) (v := ?_) rfl (by kernel_rfl) (by kernel_rfl) (by kernel_rfl) (fun _ _ _ h => h) (Or.inl ⟨by rfl, ?_⟩) (by assumption) ?_
  rotate_left
  · (intro wS hSw; (try dsimp only at hSw); go_simp; (try with_reducible rfl))
  (try simp only [Act.put, List.setIfInBounds_toArray, List.set_cons_zero, List.set_cons_succ])
  refine wpAnyH_take (i := 3) (v := ?_) rfl (by kernel_rfl) (by kernel_rfl) (by kernel_rfl) (fun _ _ _ h => h) (Or.inl ⟨by rfl, ?_⟩) (by assumption) ?_
  rotate_left
  · (intro wS hSw; (try dsimp only at hSw); go_simp; (try with_reducible rfl))
  (try simp only [Act.put, List.setIfInBounds_toArray, List.set_cons_zero, List.set_cons_succ])
  refine wpAnyH_take (i := 5) (v := ?_) rfl (by kernel_rfl) (by kernel_rfl) (by kernel_rfl) (fun _ _ _ h => h) (Or.inl ⟨by rfl, ?_⟩) (by assumption) ?_
  rotate_left
  · (intro wS hSw; (try dsimp only at hSw); go_simp; (try with_reducible rfl))
  (try simp only [Act.put, List.setIfInBounds_toArray, List.set_cons_zero, List.set_cons_succ])
  refine wpAnyH_take (i := 6) (v := ?_) rfl (by kernel_rfl) (by kernel_rfl) (by kernel_rfl) (fun _ _ _ h => h) (Or.inl ⟨by rfl, ?_⟩) (by assumption) ?_
  rotate_left
  · (intro wS hSw; (try dsimp only at hSw); go_simp; (try with_reducible rfl))
  (try simp only [Act.put, List.setIfInBounds_toArray, List.set_cons_zero, List.set_cons_succ])
  refine wpAnyH_ready (rs := [4, 12]) (by kernel_rfl) (by simp) ?_
  refine AllReadyH.cons rfl (fun K hK => ?_) (AllReadyH.cons rfl (fun K hK => ?_) AllReadyH.nil)
  · go_simp
    go_at_call 34
    refine (HTAB.out _ (HR3.out.drew)).mono ?_
    rintro e w49 ⟨hq, tv, rfl, htb⟩
    dsimp only
    have z0 := (hq.cell (p := ⟨w.heap.size, 0, none⟩) (show w.heap.size < w3.heap.size by omega)).trans hHeld.1
    have z1 := (hq.cell (p := ⟨w.heap.size, 1, none⟩) (show w.heap.size < w3.heap.size by omega)).trans hHeld.2.1
    have z2 := (hq.cell (p := ⟨w.heap.size, 2, none⟩) (show w.heap.size < w3.heap.size by omega)).trans hHeld.2.2
    refine hK.out _ _ ⟨z0, z1, z2⟩ (fun hHeld => ?_)
    clear hK K
    (try simp only [Act.put, List.setIfInBounds_toArray, List.set_cons_zero, List.set_cons_succ])
    have s5 := (S3.out.drew).trans (hq.mono (S3.out.drew).size)
    have r5 := (HR3.out.drew).below hq (Nat.le_refl _)
    have y5 := (E1.out.drew).keep hq
    have l5 : w.heap.size + 1 < w49.heap.size := y5.lt
    have Sw49 := Lib.hid s5; clear s5
    have HRw49 := Lib.hid r5; clear r5
    have Rw49 := Lib.hid y5; clear y5
    have t5 := htb.tab
    have Tw49 := Lib.hid t5; clear t5
    clear htb
    clear hq z0 z1 z2
    refine wpAnyH_ready (rs := [7, 12]) (by kernel_rfl) (by simp) ?_
    refine AllReadyH.cons rfl (fun K hK => ?_) (AllReadyH.cons rfl (fun K hK => ?_) AllReadyH.nil)
    · go_simp
      go_at_call 33
      refine (HRK.out _ _ (HRw49.out) Tw49.out).mono ?_
      rintro e w410 ⟨hq, rfl⟩
      dsimp only
      have z0 := (hq.cell (p := ⟨w.heap.size, 0, none⟩) (show w.heap.size < w49.heap.size by omega)).trans hHeld.1
      have z1 := (hq.cell (p := ⟨w.heap.size, 1, none⟩) (show w.heap.size < w49.heap.size by omega)).trans hHeld.2.1
      have z2 := (hq.cell (p := ⟨w.heap.size, 2, none⟩) (show w.heap.size < w49.heap.size by omega)).trans hHeld.2.2
      refine hK.out _ _ ⟨z0, z1, z2⟩ (fun hHeld => ?_)
      clear hK K
      (try simp only [Act.put, List.setIfInBounds_toArray, List.set_cons_zero, List.set_cons_succ])
      have s5 := (Sw49.out).trans (hq.mono (Sw49.out).size)
      have r5 := (HRw49.out).below hq (Nat.le_refl _)
      have y5 := (Rw49.out).keep hq
      have l5 : w.heap.size + 1 < w410.heap.size := y5.lt
      have Sw410 := Lib.hid s5; clear s5
      have HRw410 := Lib.hid r5; clear r5
      have Rw410 := Lib.hid y5; clear y5
      clear hq z0 z1 z2
      refine wpAnyH_take (i := 8) (v := ?_) rfl (by kernel_rfl) (by kernel_rfl) (by kernel_rfl) (fun _ _ _ h => h) (Or.inl ⟨by rfl, ?_⟩) (by assumption) ?_
      rotate_left
      · (intro wS hSw; (try dsimp only at hSw); go_simp; (try with_reducible rfl))
      (try simp only [Act.put, List.setIfInBounds_toArray, List.set_cons_zero, List.set_cons_succ])
      refine wpAnyH_take (i := 9) (v := ?_) rfl (by kernel_rfl) (by kernel_rfl) (by kernel_rfl) (fun _ _ _ h => h) (Or.inl ⟨by rfl, ?_⟩) (by assumption) ?_
      rotate_left
      · (intro wS hSw; (try dsimp only at hSw); go_simp; (try with_reducible rfl))
      (try simp only [Act.put, List.setIfInBounds_toArray, List.set_cons_zero, List.set_cons_succ])
      refine wpAnyH_take (i := 10) (v := ?_) rfl (by kernel_rfl) (by kernel_rfl) (by kernel_rfl) (fun _ _ _ h => h) (Or.inl ⟨by rfl, ?_⟩) (by assumption) ?_
      rotate_left
      · (intro wS hSw; (try dsimp only at hSw); go_simp; (try with_reducible rfl))
      (try simp only [Act.put, List.setIfInBounds_toArray, List.set_cons_zero, List.set_cons_succ])
      refine wpAnyH_take (i := 11) (v := ?_) rfl (by kernel_rfl) (by kernel_rfl) (by kernel_rfl) (fun _ _ _ h => h) (Or.inl ⟨by rfl, ?_⟩) (by assumption) ?_
      rotate_left
      · (intro wS hSw; (try dsimp only at hSw); go_simp; (try with_reducible rfl))
      (try simp only [Act.put, List.setIfInBounds_toArray, List.set_cons_zero, List.set_cons_succ])
      refine wpAnyH_ready (rs := [12]) (by kernel_rfl) (by simp) ?_
      refine AllReadyH.cons rfl (fun K hK => ?_) AllReadyH.nil
      go_simp
      refine hK.out _ _ ?_ (fun hHeld => ?_)
      · ((try dsimp only); go_keep)
      clear hK K
      (try simp only [Act.put, List.setIfInBounds_toArray, List.set_cons_zero, List.set_cons_succ])
      have hbq : Below (w410).heap.size (w410) ((w410).alloc (.cells #[.bool false, .string ⟨#[]⟩] 33)) := (Below.refl _ _).alloc (Nat.le_refl _) _
      have a5 := Blk.new (w410) 33 [.bool false, .string ⟨#[]⟩]
      have g5 : (w410).heap.size = w410.heap.size := rfl
      rw [g5] at a5
      have s5 := (Sw410.out).trans (hbq.mono (Sw410.out).size)
      have r5 := (HRw410.out).below hbq (Nat.le_refl _)
      have y5 := (Rw410.out).keep hbq
      obtain ⟨ba, hba⟩ : ∃ ba, ba = w410.heap.size := ⟨_, rfl⟩
      have hane : w.heap.size + 1 < ba := by omega
      rw [← hba] at a5
      have e5 : (w410).alloc (.cells #[.bool false, .string ⟨#[]⟩] 33) = (w410).alloc (.cells #[.bool false, .string ⟨#[]⟩] 33) := rfl
      rw [e5] at a5 s5 r5 y5 hbq
      obtain ⟨w411, hv5⟩ : ∃ w411, (w410).alloc (.cells #[.bool false, .string ⟨#[]⟩] 33) = w411 := ⟨_, rfl⟩
      rw [hv5] at hHeld a5 s5 r5 y5 hbq
      have l5 : w.heap.size + 1 < w411.heap.size := y5.lt
      have al5 := a5.lt
      have Sw411 := Lib.hid s5; clear s5
      have HRw411 := Lib.hid r5; clear r5
      have Rw411 := Lib.hid y5; clear y5
      have Aw411 := Lib.hid a5; clear a5
      have hpa : (Value.pointer (some ⟨w410.heap.size, 0, none⟩)) = Value.pointer (some ⟨ba, 0, none⟩) := by rw [hba]
      (try simp only [World.size_drew])
      rw [hv5]
      (try rw [hpa])
      clear hbq hv5 hba hpa g5 e5
      have a0 := (Aw411.out).cell (j := 0) rfl
      have a1 := (Aw411.out).cell (j := 1) rfl
      have f0 := (Aw411.out).frozen 0
      have f1 := (Aw411.out).frozen 1
      have hne : ¬ ba = w.heap.size := by omega
      refine wpAnyH_ready (rs := [13]) (by kernel_rfl) (by simp) ?_
      refine AllReadyH.cons rfl (fun K hK => ?_) AllReadyH.nil
      go_simp
      refine hK.out _ _ ?_ (fun hHeld => ?_)
      · ((try dsimp only); go_keep)
      clear hK K
      (try simp only [Act.put, List.setIfInBounds_toArray, List.set_cons_zero, List.set_cons_succ])
      refine wpAnyH_take (i := 14) (v := ?_) rfl (by kernel_rfl) (by kernel_rfl) (by kernel_rfl) (fun _ _ _ h => h) (Or.inl ⟨by rfl, ?_⟩) (by assumption) ?_
      rotate_left
      · (intro wS hSw; (try dsimp only at hSw); go_simp; (try with_reducible rfl))
      (try simp only [Act.put, List.setIfInBounds_toArray, List.set_cons_zero, List.set_cons_succ])
      refine wpAnyH_take (i := 15) (v := ?_) rfl (by kernel_rfl) (by kernel_rfl) (by kernel_rfl) (fun _ _ _ h => h) (Or.inl ⟨by rfl, ?_⟩) (by assumption) ?_
      rotate_left
      · (intro wS hSw; (try dsimp only at hSw); go_simp; (try with_reducible rfl))
      (try simp only [Act.put, List.setIfInBounds_toArray, List.set_cons_zero, List.set_cons_succ])
      refine wpAnyH_done (by kernel_rfl) ?_ _
      (try simp only [List.getElem_toArray, List.getElem_cons_zero, List.getElem_cons_succ, Act.put, List.setIfInBounds_toArray, List.set_cons_zero, List.set_cons_succ])
      have az := ((Aw411.out).set 0 (.bool (ineg 0))).set 1 (.string (imag 0))
      have hkz : ∀ b, b ≠ ba → ((w411.setCell ⟨ba, 0, none⟩ (.bool (ineg 0))).setCell ⟨ba, 1, none⟩ (.string (imag 0))).heap[b]? = w411.heap[b]? := fun b h => (Below.heap_setCell _ _ _ b h).trans (Below.heap_setCell _ _ _ b h)
      have rz := (Rw411.out).of_block (hkz _ (by omega))
      have sz := ((Sw411.out).setCell (p := ⟨ba, 0, none⟩) (show w.heap.size ≤ ba by omega) (.bool (ineg 0))).setCell (p := ⟨ba, 1, none⟩) (show w.heap.size ≤ ba by omega) (.string (imag 0))
      obtain ⟨wz, hwz⟩ : ∃ wz, (w411.setCell ⟨ba, 0, none⟩ (.bool (ineg 0))).setCell ⟨ba, 1, none⟩ (.string (imag 0)) = wz := ⟨_, rfl⟩
      rw [hwz] at az rz sz ⊢
      clear hwz hkz hHeld a0 a1 f0 f1
      have a0 := az.cell (j := 0) rfl
      have a1 := az.cell (j := 1) rfl
      have r0 := rz.cell (j := 0) rfl
      have r1 := rz.cell (j := 1) rfl
      have f0 := rz.frozen 0
      have f1 := rz.frozen 1
      have SZ := Lib.hid sz; clear sz
      have AZ := Lib.hid az; clear az
      go_wp2_with fail
      refine bodyPost_ret (v := .tuple #[IntV 0, .int .i64 13]) ?_ rfl ?_
      · have e0 := ((rz.set 0 (.bool false)).set 1 (.string ⟨#[]⟩)).cell (j := 0) rfl
        have e1 := ((rz.set 0 (.bool false)).set 1 (.string ⟨#[]⟩)).cell (j := 1) rfl
        simp [results, Tryz.results21, go_sem, e0, e1, IntV, ineg_zero, imag_zero]
      · exact ⟨(SZ.out.setCell (p := ⟨w.heap.size + 1, 0, none⟩) (show w.heap.size ≤ w.heap.size + 1 by omega) _).setCell (p := ⟨w.heap.size + 1, 1, none⟩) (show w.heap.size ≤ w.heap.size + 1 by omega) _, rfl⟩
    · go_simp
      refine hK.out _ _ ?_ (fun hHeld => ?_)
      · ((try dsimp only); go_keep)
      clear hK K
      (try simp only [Act.put, List.setIfInBounds_toArray, List.set_cons_zero, List.set_cons_succ])
      have hbq : Below (w49).heap.size (w49) ((w49).alloc (.cells #[.bool false, .string ⟨#[]⟩] 33)) := (Below.refl _ _).alloc (Nat.le_refl _) _
      have a5 := Blk.new (w49) 33 [.bool false, .string ⟨#[]⟩]
      have g5 : (w49).heap.size = w49.heap.size := rfl
      rw [g5] at a5
      have s5 := (Sw49.out).trans (hbq.mono (Sw49.out).size)
      have r5 := (HRw49.out).below hbq (Nat.le_refl _)
      have y5 := (Rw49.out).keep hbq
      obtain ⟨ba, hba⟩ : ∃ ba, ba = w49.heap.size := ⟨_, rfl⟩
      have hane : w.heap.size + 1 < ba := by omega
      rw [← hba] at a5
      have e5 : (w49).alloc (.cells #[.bool false, .string ⟨#[]⟩] 33) = (w49).alloc (.cells #[.bool false, .string ⟨#[]⟩] 33) := rfl
      rw [e5] at a5 s5 r5 y5 hbq
      obtain ⟨w412, hv5⟩ : ∃ w412, (w49).alloc (.cells #[.bool false, .string ⟨#[]⟩] 33) = w412 := ⟨_, rfl⟩
      rw [hv5] at hHeld a5 s5 r5 y5 hbq
      have l5 : w.heap.size + 1 < w412.heap.size := y5.lt
      have al5 := a5.lt
      have t5 := Tab.below Tw49.out hbq (Nat.le_refl _)
      have Tw412 := Lib.hid t5; clear t5
      have Sw412 := Lib.hid s5; clear s5
      have HRw412 := Lib.hid r5; clear r5
      have Rw412 := Lib.hid y5; clear y5
      have Aw412 := Lib.hid a5; clear a5
      have hpa : (Value.pointer (some ⟨w49.heap.size, 0, none⟩)) = Value.pointer (some ⟨ba, 0, none⟩) := by rw [hba]
      (try simp only [World.size_drew])
      rw [hv5]
      (try rw [hpa])
      clear hbq hv5 hba hpa g5 e5
      refine wpAnyH_ready (rs := [7]) (by kernel_rfl) (by simp) ?_
      refine AllReadyH.cons rfl (fun K hK => ?_) AllReadyH.nil
      go_simp
      go_at_call 33
      refine (HRK.out _ _ (HRw412.out) Tw412.out).mono ?_
      rintro e w413 ⟨hq, rfl⟩
      dsimp only
      have z0 := (hq.cell (p := ⟨w.heap.size, 0, none⟩) (show w.heap.size < w412.heap.size by omega)).trans hHeld.1
      have z1 := (hq.cell (p := ⟨w.heap.size, 1, none⟩) (show w.heap.size < w412.heap.size by omega)).trans hHeld.2.1
      have z2 := (hq.cell (p := ⟨w.heap.size, 2, none⟩) (show w.heap.size < w412.heap.size by omega)).trans hHeld.2.2
      refine hK.out _ _ ⟨z0, z1, z2⟩ (fun hHeld => ?_)
      clear hK K
      (try simp only [Act.put, List.setIfInBounds_toArray, List.set_cons_zero, List.set_cons_succ])
      have s5 := (Sw412.out).trans (hq.mono (Sw412.out).size)
      have r5 := (HRw412.out).below hq (Nat.le_refl _)
      have y5 := (Rw412.out).keep hq
      have l5 : w.heap.size + 1 < w413.heap.size := y5.lt
      have Sw413 := Lib.hid s5; clear s5
      have HRw413 := Lib.hid r5; clear r5
      have Rw413 := Lib.hid y5; clear y5
      have a5 := (Aw412.out).keep hq
      have Aw413 := Lib.hid a5; clear a5
      clear hq z0 z1 z2
      refine wpAnyH_take (i := 8) (v := ?_) rfl (by kernel_rfl) (by kernel_rfl) (by kernel_rfl) (fun _ _ _ h => h) (Or.inl ⟨by rfl, ?_⟩) (by assumption) ?_
      rotate_left
      · (intro wS hSw; (try dsimp only at hSw); go_simp; (try with_reducible rfl))
      (try simp only [Act.put, List.setIfInBounds_toArray, List.set_cons_zero, List.set_cons_succ])
      refine wpAnyH_take (i := 9) (v := ?_) rfl (by kernel_rfl) (by kernel_rfl) (by kernel_rfl) (fun _ _ _ h => h) (Or.inl ⟨by rfl, ?_⟩) (by assumption) ?_
      rotate_left
      · (intro wS hSw; (try dsimp only at hSw); go_simp; (try with_reducible rfl))
      (try simp only [Act.put, List.setIfInBounds_toArray, List.set_cons_zero, List.set_cons_succ])
      refine wpAnyH_take (i := 10) (v := ?_) rfl (by kernel_rfl) (by kernel_rfl) (by kernel_rfl) (fun _ _ _ h => h) (Or.inl ⟨by rfl, ?_⟩) (by assumption) ?_
      rotate_left
      · (intro wS hSw; (try dsimp only at hSw); go_simp; (try with_reducible rfl))
      (try simp only [Act.put, List.setIfInBounds_toArray, List.set_cons_zero, List.set_cons_succ])
      refine wpAnyH_take (i := 11) (v := ?_) rfl (by kernel_rfl) (by kernel_rfl) (by kernel_rfl) (fun _ _ _ h => h) (Or.inl ⟨by rfl, ?_⟩) (by assumption) ?_
      rotate_left
      · (intro wS hSw; (try dsimp only at hSw); go_simp; (try with_reducible rfl))
      (try simp only [Act.put, List.setIfInBounds_toArray, List.set_cons_zero, List.set_cons_succ])
      have a0 := (Aw413.out).cell (j := 0) rfl
      have a1 := (Aw413.out).cell (j := 1) rfl
      have f0 := (Aw413.out).frozen 0
      have f1 := (Aw413.out).frozen 1
      have hne : ¬ ba = w.heap.size := by omega
      refine wpAnyH_ready (rs := [13]) (by kernel_rfl) (by simp) ?_
      refine AllReadyH.cons rfl (fun K hK => ?_) AllReadyH.nil
      go_simp
      refine hK.out _ _ ?_ (fun hHeld => ?_)
      · ((try dsimp only); go_keep)
      clear hK K
      (try simp only [Act.put, List.setIfInBounds_toArray, List.set_cons_zero, List.set_cons_succ])
      refine wpAnyH_take (i := 14) (v := ?_) rfl (by kernel_rfl) (by kernel_rfl) (by kernel_rfl) (fun _ _ _ h => h) (Or.inl ⟨by rfl, ?_⟩) (by assumption) ?_
      rotate_left
      · (intro wS hSw; (try dsimp only at hSw); go_simp; (try with_reducible rfl))
      (try simp only [Act.put, List.setIfInBounds_toArray, List.set_cons_zero, List.set_cons_succ])
      refine wpAnyH_take (i := 15) (v := ?_) rfl (by kernel_rfl) (by kernel_rfl) (by kernel_rfl) (fun _ _ _ h => h) (Or.inl ⟨by rfl, ?_⟩) (by assumption) ?_
      rotate_left
      · (intro wS hSw; (try dsimp only at hSw); go_simp; (try with_reducible rfl))
      (try simp only [Act.put, List.setIfInBounds_toArray, List.set_cons_zero, List.set_cons_succ])
      refine wpAnyH_done (by kernel_rfl) ?_ _
      (try simp only [List.getElem_toArray, List.getElem_cons_zero, List.getElem_cons_succ, Act.put, List.setIfInBounds_toArray, List.set_cons_zero, List.set_cons_succ])
      have az := ((Aw413.out).set 0 (.bool (ineg 0))).set 1 (.string (imag 0))
      have hkz : ∀ b, b ≠ ba → ((w413.setCell ⟨ba, 0, none⟩ (.bool (ineg 0))).setCell ⟨ba, 1, none⟩ (.string (imag 0))).heap[b]? = w413.heap[b]? := fun b h => (Below.heap_setCell _ _ _ b h).trans (Below.heap_setCell _ _ _ b h)
      have rz := (Rw413.out).of_block (hkz _ (by omega))
      have sz := ((Sw413.out).setCell (p := ⟨ba, 0, none⟩) (show w.heap.size ≤ ba by omega) (.bool (ineg 0))).setCell (p := ⟨ba, 1, none⟩) (show w.heap.size ≤ ba by omega) (.string (imag 0))
      obtain ⟨wz, hwz⟩ : ∃ wz, (w413.setCell ⟨ba, 0, none⟩ (.bool (ineg 0))).setCell ⟨ba, 1, none⟩ (.string (imag 0)) = wz := ⟨_, rfl⟩
      rw [hwz] at az rz sz ⊢
      clear hwz hkz hHeld a0 a1 f0 f1
      have a0 := az.cell (j := 0) rfl
      have a1 := az.cell (j := 1) rfl
      have r0 := rz.cell (j := 0) rfl
      have r1 := rz.cell (j := 1) rfl
      have f0 := rz.frozen 0
      have f1 := rz.frozen 1
      have SZ := Lib.hid sz; clear sz
      have AZ := Lib.hid az; clear az
      go_wp2_with fail
      refine bodyPost_ret (v := .tuple #[IntV 0, .int .i64 13]) ?_ rfl ?_
      · have e0 := ((rz.set 0 (.bool false)).set 1 (.string ⟨#[]⟩)).cell (j := 0) rfl
        have e1 := ((rz.set 0 (.bool false)).set 1 (.string ⟨#[]⟩)).cell (j := 1) rfl
        simp [results, Tryz.results21, go_sem, e0, e1, IntV, ineg_zero, imag_zero]
      · exact ⟨(SZ.out.setCell (p := ⟨w.heap.size + 1, 0, none⟩) (show w.heap.size ≤ w.heap.size + 1 by omega) _).setCell (p := ⟨w.heap.size + 1, 1, none⟩) (show w.heap.size ≤ w.heap.size + 1 by omega) _, rfl⟩
  · go_simp
    refine hK.out _ _ ?_ (fun hHeld => ?_)
    · ((try dsimp only); go_keep)
    clear hK K
    (try simp only [Act.put, List.setIfInBounds_toArray, List.set_cons_zero, List.set_cons_succ])
    have hbq : Below (w3.drew).heap.size (w3.drew) ((w3.drew).alloc (.cells #[.bool false, .string ⟨#[]⟩] 33)) := (Below.refl _ _).alloc (Nat.le_refl _) _
    have a5 := Blk.new (w3.drew) 33 [.bool false, .string ⟨#[]⟩]
    have g5 : (w3.drew).heap.size = w3.heap.size := rfl
    rw [g5] at a5
    have s5 := (S3.out.drew).trans (hbq.mono (S3.out.drew).size)
    have r5 := (HR3.out.drew).below hbq (Nat.le_refl _)
    have y5 := (E1.out.drew).keep hbq
    obtain ⟨ba, hba⟩ : ∃ ba, ba = w3.heap.size := ⟨_, rfl⟩
    have hane : w.heap.size + 1 < ba := by omega
    rw [← hba] at a5
    have e5 : (w3.drew).alloc (.cells #[.bool false, .string ⟨#[]⟩] 33) = (w3.alloc (.cells #[.bool false, .string ⟨#[]⟩] 33)).drew := rfl
    rw [e5] at a5 s5 r5 y5 hbq
    obtain ⟨w414, hv5⟩ : ∃ w414, (w3.alloc (.cells #[.bool false, .string ⟨#[]⟩] 33)).drew = w414 := ⟨_, rfl⟩
    rw [hv5] at hHeld a5 s5 r5 y5 hbq
    have l5 : w.heap.size + 1 < w414.heap.size := y5.lt
    have al5 := a5.lt
    have Sw414 := Lib.hid s5; clear s5
    have HRw414 := Lib.hid r5; clear r5
    have Rw414 := Lib.hid y5; clear y5
    have Aw414 := Lib.hid a5; clear a5
    have hpa : (Value.pointer (some ⟨w3.heap.size, 0, none⟩)) = Value.pointer (some ⟨ba, 0, none⟩) := by rw [hba]
    (try simp only [World.size_drew])
    rw [hv5]
    (try rw [hpa])
    clear hbq hv5 hba hpa g5 e5
    refine wpAnyH_ready (rs := [4]) (by kernel_rfl) (by simp) ?_
    refine AllReadyH.cons rfl (fun K hK => ?_) AllReadyH.nil
    go_simp
    go_at_call 34
    refine (HTAB.out _ (HRw414.out)).mono ?_
    rintro e w415 ⟨hq, tv, rfl, htb⟩
    dsimp only
    have z0 := (hq.cell (p := ⟨w.heap.size, 0, none⟩) (show w.heap.size < w414.heap.size by omega)).trans hHeld.1
    have z1 := (hq.cell (p := ⟨w.heap.size, 1, none⟩) (show w.heap.size < w414.heap.size by omega)).trans hHeld.2.1
    have z2 := (hq.cell (p := ⟨w.heap.size, 2, none⟩) (show w.heap.size < w414.heap.size by omega)).trans hHeld.2.2
    refine hK.out _ _ ⟨z0, z1, z2⟩ (fun hHeld => ?_)
    clear hK K
    (try simp only [Act.put, List.setIfInBounds_toArray, List.set_cons_zero, List.set_cons_succ])
    have s5 := (Sw414.out).trans (hq.mono (Sw414.out).size)
    have r5 := (HRw414.out).below hq (Nat.le_refl _)
    have y5 := (Rw414.out).keep hq
    have l5 : w.heap.size + 1 < w415.heap.size := y5.lt
    have Sw415 := Lib.hid s5; clear s5
    have HRw415 := Lib.hid r5; clear r5
    have Rw415 := Lib.hid y5; clear y5
    have t5 := htb.tab
    have Tw415 := Lib.hid t5; clear t5
    clear htb
    have a5 := (Aw414.out).keep hq
    have Aw415 := Lib.hid a5; clear a5
    clear hq z0 z1 z2
    refine wpAnyH_ready (rs := [7]) (by kernel_rfl) (by simp) ?_
    refine AllReadyH.cons rfl (fun K hK => ?_) AllReadyH.nil
    go_simp
    go_at_call 33
    refine (HRK.out _ _ (HRw415.out) Tw415.out).mono ?_
    rintro e w416 ⟨hq, rfl⟩
    dsimp only
    have z0 := (hq.cell (p := ⟨w.heap.size, 0, none⟩) (show w.heap.size < w415.heap.size by omega)).trans hHeld.1
    have z1 := (hq.cell (p := ⟨w.heap.size, 1, none⟩) (show w.heap.size < w415.heap.size by omega)).trans hHeld.2.1
    have z2 := (hq.cell (p := ⟨w.heap.size, 2, none⟩) (show w.heap.size < w415.heap.size by omega)).trans hHeld.2.2
    refine hK.out _ _ ⟨z0, z1, z2⟩ (fun hHeld => ?_)
    clear hK K
    (try simp only [Act.put, List.setIfInBounds_toArray, List.set_cons_zero, List.set_cons_succ])
    have s5 := (Sw415.out).trans (hq.mono (Sw415.out).size)
    have r5 := (HRw415.out).below hq (Nat.le_refl _)
    have y5 := (Rw415.out).keep hq
    have l5 : w.heap.size + 1 < w416.heap.size := y5.lt
    have Sw416 := Lib.hid s5; clear s5
    have HRw416 := Lib.hid r5; clear r5
    have Rw416 := Lib.hid y5; clear y5
    have a5 := (Aw415.out).keep hq
    have Aw416 := Lib.hid a5; clear a5
    clear hq z0 z1 z2
    refine wpAnyH_take (i := 8) (v := ?_) rfl (by kernel_rfl) (by kernel_rfl) (by kernel_rfl) (fun _ _ _ h => h) (Or.inl ⟨by rfl, ?_⟩) (by assumption) ?_
    rotate_left
    · (intro wS hSw; (try dsimp only at hSw); go_simp; (try with_reducible rfl))
    (try simp only [Act.put, List.setIfInBounds_toArray, List.set_cons_zero, List.set_cons_succ])
    refine wpAnyH_take (i := 9) (v := ?_) rfl (by kernel_rfl) (by kernel_rfl) (by kernel_rfl) (fun _ _ _ h => h) (Or.inl ⟨by rfl, ?_⟩) (by assumption) ?_
    rotate_left
    · (intro wS hSw; (try dsimp only at hSw); go_simp; (try with_reducible rfl))
    (try simp only [Act.put, List.setIfInBounds_toArray, List.set_cons_zero, List.set_cons_succ])
    refine wpAnyH_take (i := 10) (v := ?_) rfl (by kernel_rfl) (by kernel_rfl) (by kernel_rfl) (fun _ _ _ h => h) (Or.inl ⟨by rfl, ?_⟩) (by assumption) ?_
    rotate_left
    · (intro wS hSw; (try dsimp only at hSw); go_simp; (try with_reducible rfl))
    (try simp only [Act.put, List.setIfInBounds_toArray, List.set_cons_zero, List.set_cons_succ])
    refine wpAnyH_take (i := 11) (v := ?_) rfl (by kernel_rfl) (by kernel_rfl) (by kernel_rfl) (fun _ _ _ h => h) (Or.inl ⟨by rfl, ?_⟩) (by assumption) ?_
    rotate_left
    · (intro wS hSw; (try dsimp only at hSw); go_simp; (try with_reducible rfl))
    (try simp only [Act.put, List.setIfInBounds_toArray, List.set_cons_zero, List.set_cons_succ])
    have a0 := (Aw416.out).cell (j := 0) rfl
    have a1 := (Aw416.out).cell (j := 1) rfl
    have f0 := (Aw416.out).frozen 0
    have f1 := (Aw416.out).frozen 1
    have hne : ¬ ba = w.heap.size := by omega
    refine wpAnyH_ready (rs := [13]) (by kernel_rfl) (by simp) ?_
    refine AllReadyH.cons rfl (fun K hK => ?_) AllReadyH.nil
    go_simp
    refine hK.out _ _ ?_ (fun hHeld => ?_)
    · ((try dsimp only); go_keep)
    clear hK K
    (try simp only [Act.put, List.setIfInBounds_toArray, List.set_cons_zero, List.set_cons_succ])
    refine wpAnyH_take (i := 14) (v := ?_) rfl (by kernel_rfl) (by kernel_rfl) (by kernel_rfl) (fun _ _ _ h => h) (Or.inl ⟨by rfl, ?_⟩) (by assumption) ?_
    rotate_left
    · (intro wS hSw; (try dsimp only at hSw); go_simp; (try with_reducible rfl))
    (try simp only [Act.put, List.setIfInBounds_toArray, List.set_cons_zero, List.set_cons_succ])
    refine wpAnyH_take (i := 15) (v := ?_) rfl (by kernel_rfl) (by kernel_rfl) (by kernel_rfl) (fun _ _ _ h => h) (Or.inl ⟨by rfl, ?_⟩) (by assumption) ?_
    rotate_left
    · (intro wS hSw; (try dsimp only at hSw); go_simp; (try with_reducible rfl))
    (try simp only [Act.put, List.setIfInBounds_toArray, List.set_cons_zero, List.set_cons_succ])
    refine wpAnyH_done (by kernel_rfl) ?_ _
    (try simp only [List.getElem_toArray, List.getElem_cons_zero, List.getElem_cons_succ, Act.put, List.setIfInBounds_toArray, List.set_cons_zero, List.set_cons_succ])
    have az := ((Aw416.out).set 0 (.bool (ineg 0))).set 1 (.string (imag 0))
    have hkz : ∀ b, b ≠ ba → ((w416.setCell ⟨ba, 0, none⟩ (.bool (ineg 0))).setCell ⟨ba, 1, none⟩ (.string (imag 0))).heap[b]? = w416.heap[b]? := fun b h => (Below.heap_setCell _ _ _ b h).trans (Below.heap_setCell _ _ _ b h)
    have rz := (Rw416.out).of_block (hkz _ (by omega))
    have sz := ((Sw416.out).setCell (p := ⟨ba, 0, none⟩) (show w.heap.size ≤ ba by omega) (.bool (ineg 0))).setCell (p := ⟨ba, 1, none⟩) (show w.heap.size ≤ ba by omega) (.string (imag 0))
    obtain ⟨wz, hwz⟩ : ∃ wz, (w416.setCell ⟨ba, 0, none⟩ (.bool (ineg 0))).setCell ⟨ba, 1, none⟩ (.string (imag 0)) = wz := ⟨_, rfl⟩
    rw [hwz] at az rz sz ⊢
    clear hwz hkz hHeld a0 a1 f0 f1
    have a0 := az.cell (j := 0) rfl
    have a1 := az.cell (j := 1) rfl
    have r0 := rz.cell (j := 0) rfl
    have r1 := rz.cell (j := 1) rfl
    have f0 := rz.frozen 0
    have f1 := rz.frozen 1
    have SZ := Lib.hid sz; clear sz
    have AZ := Lib.hid az; clear az
    go_wp2_with fail
    refine bodyPost_ret (v := .tuple #[IntV 0, .int .i64 13]) ?_ rfl ?_
    · have e0 := ((rz.set 0 (.bool false)).set 1 (.string ⟨#[]⟩)).cell (j := 0) rfl
      have e1 := ((rz.set 0 (.bool false)).set 1 (.string ⟨#[]⟩)).cell (j := 1) rfl
      simp [results, Tryz.results21, go_sem, e0, e1, IntV, ineg_zero, imag_zero]
    · exact ⟨(SZ.out.setCell (p := ⟨w.heap.size + 1, 0, none⟩) (show w.heap.size ≤ w.heap.size + 1 by omega) _).setCell (p := ⟨w.heap.size + 1, 1, none⟩) (show w.heap.size ≤ w.heap.size + 1 by omega) _, rfl⟩
end Go.Proofs.YtalipfnbpnkgnaaGreat

/- enumerative.Decode at words without a number. -/
import Derived.Test.YtalipfnbpnkgnaaGreatEDec
namespace Go.Proofs.YtalipfnbpnkgnaaGreat
open Go.RowKit

set_option maxRecDepth 100000 in
set_option maxHeartbeats 3200000 in
theorem edec_no (L : Int) (S s0 : Nat) (es : List E3) (set : List Int) (v vs : Value) (wd : ByteArray) (w : World) (hr : Row w v es.length (ce es)) (hok : okEs es) (hrs : Row w vs set.length (ci set)) (hE : eck L (S : Int) es = 0) (hset : SomeS S set) (hs0 : s0 < S) (hw : ckw L wd.data.toList = 0) (hm : wd.size ≤ 4096) (hR : rk es (pin set) wd.data.toList (s0 : Int) 0 = none) :
    Calls Tryz.prog 11 #[.agg #[.int .i64 L, .int .i64 (S : Int), v], vs, .int .i64 (s0 : Int), .int .i64 (wd.size : Int), .string wd] w (Ret w (.tuple #[IntV 0, .int .i64 0, .int .i64 13])) := by
  obtain ⟨va, vc, rfl, hle⟩ := hr.slice
  obtain ⟨sa, sc, rfl, hsle⟩ := hrs.slice
  obtain ⟨mm, hmm⟩ : ∃ mm, mm = es.length := ⟨_, rfl⟩
  obtain ⟨ms, hms⟩ : ∃ ms, ms = set.length := ⟨_, rfl⟩
  have hlen := asc_len hset
  have hz := eck_zero hE
  have hca := chk_all hz.1
  have s0' := (Below.refl w.heap.size w).alloc (Nat.le_refl _) (.cells #[.int .i64 L, .int .i64 (S : Int), .slice va es.length vc] 24)
  have s0'' := s0'.alloc (by simp) (.cells #[.bool false, .string ⟨#[]⟩] 33)
  have b0 := (Blk.new w 24 [.int .i64 L, .int .i64 (S : Int), .slice va es.length vc]).alloc (.cells #[.bool false, .string ⟨#[]⟩] 33)
  have b1 := Blk.new (w.alloc (.cells #[.int .i64 L, .int .i64 (S : Int), .slice va es.length vc] 24)) 33 [.bool false, .string ⟨#[]⟩]
  simp only [World.size_alloc] at b1
  have hr0 := hr.below s0'' (Nat.le_refl _)
  have hrs0 := hrs.below s0'' (Nat.le_refl _)
  have hal := checkall_any L S (s0 : Int) (wd.size : Int) es _ _ set _ hr0 hok hrs0 (by omega)
  rw [eall_ok hE hset hs0 hm] at hal
  have hkw := fun w' => eckw_any L (S : Int) va es.length vc wd w' (by omega)
  rw [hw] at hkw
  have htab := fun q w' (h : Row w' (.slice va es.length vc) es.length (ce es)) (h2 : Row w' (.slice sa set.length sc) set.length (ci set)) => tin_any L S wd.size es (.slice va es.length vc) (.slice sa set.length sc) set q w' h h2 (by omega) hm (by omega) (chk_inS hz.1) hset
  have hrank := fun w' tv (h : Row w' (.slice va es.length vc) es.length (ce es)) (ht : Tab w' tv (tabL es S (pin set) wd.size)) => rank_any L S s0 es (.slice va es.length vc) tv wd (pin set) w' h ht (by omega) (by omega) (chk_inS hz.1) (chk_lab hz.1 hz.2.1) hs0 hm
  simp only [RkRet, hR] at hrank
  rw [← hmm] at s0'' b0 b1 hr0 hrs0 hal hle hkw htab hrank
  rw [← hms] at hrs0 hal hsle htab hlen
  have HMM := Lib.hid hmm; clear hmm
  have HMS := Lib.hid hms; clear hms
  have HAL := Lib.hid hal; clear hal
  have HKW := Lib.hid hkw; clear hkw
  have HTAB := Lib.hid htab; clear htab
  have HRK := Lib.hid hrank; clear hrank
  have S0 := Lib.hid s0''; clear s0''
  have B0 := Lib.hid b0; clear b0
  have B1 := Lib.hid b1; clear b1
  have HR := Lib.hid hr0; clear hr0
  have HRS := Lib.hid hrs0; clear hrs0
  clear hr hrs hok hE hw hz hca s0' hset
  go_enter Tryz.func11, Tryz.ntmps11
  rw [← HMM.out, ← HMS.out]
  go_wp2_with fail
  go_at_call 31
  refine HAL.out.mono ?_
  rintro e w1 ⟨hq1, rfl⟩
  have s1 := S0.out.trans (hq1.mono S0.out.size)
  have hr1 := HR.out.below hq1 (Nat.le_refl _)
  have hrs1 := HRS.out.below hq1 (Nat.le_refl _)
  have tk := B0.out.keep hq1; have x0 := tk.cell (j := 0) rfl; have x1 := tk.cell (j := 1) rfl; have x2 := tk.cell (j := 2) rfl; have D0 := Lib.hid tk; clear tk
  have y0 := B1.out.keep hq1
  have D1 := Lib.hid y0; clear y0
  have S2 := Lib.hid s1; clear s1
  have HR2 := Lib.hid hr1; clear hr1
  have HS2 := Lib.hid hrs1; clear hrs1
  clear hq1
  go_wp2_with fail
  go_at_call 32
  refine (HKW.out _).mono ?_
  rintro e w3 ⟨hq1, rfl⟩
  have s1 := S2.out.trans (hq1.mono S2.out.size)
  have hr1 := HR2.out.below hq1 (Nat.le_refl _)
  have hrs1 := HS2.out.below hq1 (Nat.le_refl _)
  clear x0 x1 x2
  have tk := D0.out.keep hq1; have x0 := tk.cell (j := 0) rfl; have x1 := tk.cell (j := 1) rfl; have x2 := tk.cell (j := 2) rfl; have E0 := Lib.hid tk; clear tk
  have y0 := D1.out.keep hq1
  have E1 := Lib.hid y0; clear y0
  have S3 := Lib.hid s1; clear s1
  have HR3 := Lib.hid hr1; clear hr1
  have HS3 := Lib.hid hrs1; clear hrs1
  clear hq1
  have hw3 : w.heap.size + 1 < w3.heap.size := E1.out.lt
  go_wp2_with fail
  refine wp_region_held_drew (S := fun w' => w'.cell? ⟨w.heap.size, 0, none⟩ = some (.int .i64 L) ∧ w'.cell? ⟨w.heap.size, 1, none⟩ = some (.int .i64 (S : Int)) ∧ w'.cell? ⟨w.heap.size, 2, none⟩ = some (.slice va mm vc)) (by kernel_rfl) ?_ (fun hHeld => ?_)
  · go_keep
  refine wpAnyH_take (i := 0) (v := ?_) rfl (by kernel_rfl) (by kernel_rfl) (by kernel_rfl) (fun _ _ _ h => h) (Or.inl ⟨by rfl, ?_⟩) (by assumption) ?_
  rotate_left
  · (intro wS hSw; (try dsimp only at hSw); go_simp; (try with_reducible rfl))
  (try simp only [Act.put, List.setIfInBounds_toArray, List.set_cons_zero, List.set_cons_succ])
  refine wpAnyH_take (i := 1) (v := ?_) rfl (by kernel_rfl) (by kernel_rfl) (by kernel_rfl) (fun _ _ _ h => h) (Or.inl ⟨by rfl, ?_⟩) (by assumption) ?_
  rotate_left
  · (intro wS hSw; (try dsimp only at hSw); go_simp; (try with_reducible rfl))
  (try simp only [Act.put, List.setIfInBounds_toArray, List.set_cons_zero, List.set_cons_succ])
  refine wpAnyH_take (i := 2) (v := ?_) rfl (by kernel_rfl) (by kernel_rfl) (by kernel_rfl) (fun _ _ _ h => h) (Or.inl ⟨by rfl, ?_⟩) (by assumption) ?_
  rotate_left
  · (intro wS hSw; (try dsimp only at hSw); go_simp; (try with_reducible rfl))
  (try simp only [Act.put, List.setIfInBounds_toArray, List.set_cons_zero, List.set_cons_succ])
  refine wpAnyH_take (i := 4) (v := ?_) rfl (by kernel_rfl) (by kernel_rfl) (by kernel_rfl) (fun _ _ _ h => h) (Or.inl ⟨by rfl, ?_⟩) (by assumption) ?_
  rotate_left
  · (intro wS hSw; (try dsimp only at hSw); go_simp; (try with_reducible rfl))
  (try simp only [Act.put, List.setIfInBounds_toArray, List.set_cons_zero, List.set_cons_succ])
  refine wpAnyH_take (i := 6) (v := ?_) rfl (by kernel_rfl) (by kernel_rfl) (by kernel_rfl) (fun _ _ _ h => h) (Or.inl ⟨by rfl, ?_⟩) (by assumption) ?_
  rotate_left
  · (intro wS hSw; (try dsimp only at hSw); go_simp; (try with_reducible rfl))
  (try simp only [Act.put, List.setIfInBounds_toArray, List.set_cons_zero, List.set_cons_succ])
  refine wpAnyH_take (i := 7) (v := ?_) rfl (by kernel_rfl) (by kernel_rfl) (by kernel_rfl) (fun _ _ _ h => h) (Or.inl ⟨by rfl, ?_⟩) (by assumption) ?_
  rotate_left
  · (intro wS hSw; (try dsimp only at hSw); go_simp; (try with_reducible rfl))
  (try simp only [Act.put, List.setIfInBounds_toArray, List.set_cons_zero, List.set_cons_succ])
  refine wpAnyH_ready (rs := [3, 13]) (by kernel_rfl) (by simp) ?_
  refine AllReadyH.cons rfl (fun K hK => ?_) (AllReadyH.cons rfl (fun K hK => ?_) AllReadyH.nil)
  · go_simp
    go_at_call 35
    refine (in_blk _ _ _ _).mono ?_
    rintro e w414 ⟨hq, q, rfl, hqb⟩
    dsimp only
    have z0 := (hq.cell (p := ⟨w.heap.size, 0, none⟩) (show w.heap.size < w3.heap.size by omega)).trans hHeld.1
    have z1 := (hq.cell (p := ⟨w.heap.size, 1, none⟩) (show w.heap.size < w3.heap.size by omega)).trans hHeld.2.1
    have z2 := (hq.cell (p := ⟨w.heap.size, 2, none⟩) (show w.heap.size < w3.heap.size by omega)).trans hHeld.2.2
    refine hK.out _ _ ⟨z0, z1, z2⟩ (fun hHeld => ?_)
    clear hK K
    (try simp only [Act.put, List.setIfInBounds_toArray, List.set_cons_zero, List.set_cons_succ])
    have s5 := (S3.out.drew).trans (hq.mono (S3.out.drew).size)
    have r5 := (HR3.out.drew).below hq (Nat.le_refl _)
    have i5 := (HS3.out.drew).below hq (Nat.le_refl _)
    have y5 := (E1.out.drew).keep hq
    have l5 : w.heap.size + 1 < w414.heap.size := y5.lt
    have Sw414 := Lib.hid s5; clear s5
    have HRw414 := Lib.hid r5; clear r5
    have HSw414 := Lib.hid i5; clear i5
    have Rw414 := Lib.hid y5; clear y5
    have Qw414 := Lib.hid hqb; clear hqb
    clear hq z0 z1 z2
    refine wpAnyH_ready (rs := [5, 13]) (by kernel_rfl) (by simp) ?_
    refine AllReadyH.cons rfl (fun K hK => ?_) (AllReadyH.cons rfl (fun K hK => ?_) AllReadyH.nil)
    · go_simp
      go_at_call 34
      refine (HTAB.out q _ (HRw414.out) (HSw414.out) (Qw414.out).lt ((Qw414.out).cell (j := 0) rfl)).mono ?_
      rintro e w415 ⟨hq, tv, rfl, htb⟩
      dsimp only
      have z0 := (hq.cell (p := ⟨w.heap.size, 0, none⟩) (show w.heap.size < w414.heap.size by omega)).trans hHeld.1
      have z1 := (hq.cell (p := ⟨w.heap.size, 1, none⟩) (show w.heap.size < w414.heap.size by omega)).trans hHeld.2.1
      have z2 := (hq.cell (p := ⟨w.heap.size, 2, none⟩) (show w.heap.size < w414.heap.size by omega)).trans hHeld.2.2
      refine hK.out _ _ ⟨z0, z1, z2⟩ (fun hHeld => ?_)
      clear hK K
      (try simp only [Act.put, List.setIfInBounds_toArray, List.set_cons_zero, List.set_cons_succ])
      have s5 := (Sw414.out).trans (hq.mono (Sw414.out).size)
      have r5 := (HRw414.out).below hq (Nat.le_refl _)
      have i5 := (HSw414.out).below hq (Nat.le_refl _)
      have y5 := (Rw414.out).keep hq
      have l5 : w.heap.size + 1 < w415.heap.size := y5.lt
      have Sw415 := Lib.hid s5; clear s5
      have HRw415 := Lib.hid r5; clear r5
      have HSw415 := Lib.hid i5; clear i5
      have Rw415 := Lib.hid y5; clear y5
      have t5 := htb.tab
      have Tw415 := Lib.hid t5; clear t5
      clear htb
      clear hq z0 z1 z2
      refine wpAnyH_ready (rs := [8, 13]) (by kernel_rfl) (by simp) ?_
      refine AllReadyH.cons rfl (fun K hK => ?_) (AllReadyH.cons rfl (fun K hK => ?_) AllReadyH.nil)
      · go_simp
        go_at_call 33
        refine (HRK.out _ _ (HRw415.out) Tw415.out).mono ?_
        rintro e w416 ⟨hq, rfl⟩
        dsimp only
        have z0 := (hq.cell (p := ⟨w.heap.size, 0, none⟩) (show w.heap.size < w415.heap.size by omega)).trans hHeld.1
        have z1 := (hq.cell (p := ⟨w.heap.size, 1, none⟩) (show w.heap.size < w415.heap.size by omega)).trans hHeld.2.1
        have z2 := (hq.cell (p := ⟨w.heap.size, 2, none⟩) (show w.heap.size < w415.heap.size by omega)).trans hHeld.2.2
        refine hK.out _ _ ⟨z0, z1, z2⟩ (fun hHeld => ?_)
        clear hK K
        (try simp only [Act.put, List.setIfInBounds_toArray, List.set_cons_zero, List.set_cons_succ])
        have s5 := (Sw415.out).trans (hq.mono (Sw415.out).size)
        have r5 := (HRw415.out).below hq (Nat.le_refl _)
        have i5 := (HSw415.out).below hq (Nat.le_refl _)
        have y5 := (Rw415.out).keep hq
        have l5 : w.heap.size + 1 < w416.heap.size := y5.lt
        have Sw416 := Lib.hid s5; clear s5
        have HRw416 := Lib.hid r5; clear r5
        have HSw416 := Lib.hid i5; clear i5
        have Rw416 := Lib.hid y5; clear y5
        clear hq z0 z1 z2
        refine wpAnyH_take (i := 9) (v := ?_) rfl (by kernel_rfl) (by kernel_rfl) (by kernel_rfl) (fun _ _ _ h => h) (Or.inl ⟨by rfl, ?_⟩) (by assumption) ?_
        rotate_left
        · (intro wS hSw; (try dsimp only at hSw); go_simp; (try with_reducible rfl))
        (try simp only [Act.put, List.setIfInBounds_toArray, List.set_cons_zero, List.set_cons_succ])
        refine wpAnyH_take (i := 10) (v := ?_) rfl (by kernel_rfl) (by kernel_rfl) (by kernel_rfl) (fun _ _ _ h => h) (Or.inl ⟨by rfl, ?_⟩) (by assumption) ?_
        rotate_left
        · (intro wS hSw; (try dsimp only at hSw); go_simp; (try with_reducible rfl))
        (try simp only [Act.put, List.setIfInBounds_toArray, List.set_cons_zero, List.set_cons_succ])
        refine wpAnyH_take (i := 11) (v := ?_) rfl (by kernel_rfl) (by kernel_rfl) (by kernel_rfl) (fun _ _ _ h => h) (Or.inl ⟨by rfl, ?_⟩) (by assumption) ?_
        rotate_left
        · (intro wS hSw; (try dsimp only at hSw); go_simp; (try with_reducible rfl))
        (try simp only [Act.put, List.setIfInBounds_toArray, List.set_cons_zero, List.set_cons_succ])
        refine wpAnyH_take (i := 12) (v := ?_) rfl (by kernel_rfl) (by kernel_rfl) (by kernel_rfl) (fun _ _ _ h => h) (Or.inl ⟨by rfl, ?_⟩) (by assumption) ?_
        rotate_left
        · (intro wS hSw; (try dsimp only at hSw); go_simp; (try with_reducible rfl))
        (try simp only [Act.put, List.setIfInBounds_toArray, List.set_cons_zero, List.set_cons_succ])
        refine wpAnyH_ready (rs := [13]) (by kernel_rfl) (by simp) ?_
        refine AllReadyH.cons rfl (fun K hK => ?_) AllReadyH.nil
        go_simp
        refine hK.out _ _ ?_ (fun hHeld => ?_)
        · ((try dsimp only); go_keep)
        clear hK K
        (try simp only [Act.put, List.setIfInBounds_toArray, List.set_cons_zero, List.set_cons_succ])
        have hbq : Below (w416).heap.size (w416) ((w416).alloc (.cells #[.bool false, .string ⟨#[]⟩] 33)) := (Below.refl _ _).alloc (Nat.le_refl _) _
        have a5 := Blk.new (w416) 33 [.bool false, .string ⟨#[]⟩]
        have g5 : (w416).heap.size = w416.heap.size := rfl
        rw [g5] at a5
        have s5 := (Sw416.out).trans (hbq.mono (Sw416.out).size)
        have r5 := (HRw416.out).below hbq (Nat.le_refl _)
        have i5 := (HSw416.out).below hbq (Nat.le_refl _)
        have y5 := (Rw416.out).keep hbq
        obtain ⟨ba, hba⟩ : ∃ ba, ba = w416.heap.size := ⟨_, rfl⟩
        have hane : w.heap.size + 1 < ba := by omega
        rw [← hba] at a5
        have e5 : (w416).alloc (.cells #[.bool false, .string ⟨#[]⟩] 33) = (w416).alloc (.cells #[.bool false, .string ⟨#[]⟩] 33) := rfl
        rw [e5] at a5 s5 r5 i5 y5 hbq
        obtain ⟨w417, hv5⟩ : ∃ w417, (w416).alloc (.cells #[.bool false, .string ⟨#[]⟩] 33) = w417 := ⟨_, rfl⟩
        rw [hv5] at hHeld a5 s5 r5 i5 y5 hbq
        have l5 : w.heap.size + 1 < w417.heap.size := y5.lt
        have al5 := a5.lt
        have Sw417 := Lib.hid s5; clear s5
        have HRw417 := Lib.hid r5; clear r5
        have HSw417 := Lib.hid i5; clear i5
        have Rw417 := Lib.hid y5; clear y5
        have Aw417 := Lib.hid a5; clear a5
        have hpa : (Value.pointer (some ⟨w416.heap.size, 0, none⟩)) = Value.pointer (some ⟨ba, 0, none⟩) := by rw [hba]
        (try simp only [World.size_drew])
        rw [hv5]
        (try rw [hpa])
        clear hbq hv5 hba hpa g5 e5
        have a0 := (Aw417.out).cell (j := 0) rfl
        have a1 := (Aw417.out).cell (j := 1) rfl
        have f0 := (Aw417.out).frozen 0
        have f1 := (Aw417.out).frozen 1
        have hne : ¬ ba = w.heap.size := by omega
        refine wpAnyH_ready (rs := [14]) (by kernel_rfl) (by simp) ?_
        refine AllReadyH.cons rfl (fun K hK => ?_) AllReadyH.nil
        go_simp
        refine hK.out _ _ ?_ (fun hHeld => ?_)
        · ((try dsimp only); go_keep)
        clear hK K
        (try simp only [Act.put, List.setIfInBounds_toArray, List.set_cons_zero, List.set_cons_succ])
        refine wpAnyH_take (i := 15) (v := ?_) rfl (by kernel_rfl) (by kernel_rfl) (by kernel_rfl) (fun _ _ _ h => h) (Or.inl ⟨by rfl, ?_⟩) (by assumption) ?_
        rotate_left
        · (intro wS hSw; (try dsimp only at hSw); go_simp; (try with_reducible rfl))
        (try simp only [Act.put, List.setIfInBounds_toArray, List.set_cons_zero, List.set_cons_succ])
        refine wpAnyH_take (i := 16) (v := ?_) rfl (by kernel_rfl) (by kernel_rfl) (by kernel_rfl) (fun _ _ _ h => h) (Or.inl ⟨by rfl, ?_⟩) (by assumption) ?_
        rotate_left
        · (intro wS hSw; (try dsimp only at hSw); go_simp; (try with_reducible rfl))
        (try simp only [Act.put, List.setIfInBounds_toArray, List.set_cons_zero, List.set_cons_succ])
        refine wpAnyH_done (by kernel_rfl) ?_ _
        (try simp only [List.getElem_toArray, List.getElem_cons_zero, List.getElem_cons_succ, Act.put, List.setIfInBounds_toArray, List.set_cons_zero, List.set_cons_succ])
        have az := ((Aw417.out).set 0 (.bool (ineg 0))).set 1 (.string (imag 0))
        have hkz : ∀ b, b ≠ ba → ((w417.setCell ⟨ba, 0, none⟩ (.bool (ineg 0))).setCell ⟨ba, 1, none⟩ (.string (imag 0))).heap[b]? = w417.heap[b]? := fun b h => (Below.heap_setCell _ _ _ b h).trans (Below.heap_setCell _ _ _ b h)
        have rz := (Rw417.out).of_block (hkz _ (by omega))
        have sz := ((Sw417.out).setCell (p := ⟨ba, 0, none⟩) (show w.heap.size ≤ ba by omega) (.bool (ineg 0))).setCell (p := ⟨ba, 1, none⟩) (show w.heap.size ≤ ba by omega) (.string (imag 0))
        obtain ⟨wz, hwz⟩ : ∃ wz, (w417.setCell ⟨ba, 0, none⟩ (.bool (ineg 0))).setCell ⟨ba, 1, none⟩ (.string (imag 0)) = wz := ⟨_, rfl⟩
        rw [hwz] at az rz sz ⊢
        clear hwz hkz hHeld a0 a1 f0 f1
        have a0 := az.cell (j := 0) rfl
        have a1 := az.cell (j := 1) rfl
        have r0 := rz.cell (j := 0) rfl
        have r1 := rz.cell (j := 1) rfl
        have f0 := rz.frozen 0
        have f1 := rz.frozen 1
        have SZ := Lib.hid sz; clear sz
        have AZ := Lib.hid az; clear az
        go_wp2_with fail
        refine bodyPost_ret (v := .tuple #[IntV 0, .int .i64 0, .int .i64 13]) ?_ rfl ?_
        · have e0 := ((rz.set 0 (.bool false)).set 1 (.string ⟨#[]⟩)).cell (j := 0) rfl
          have e1 := ((rz.set 0 (.bool false)).set 1 (.string ⟨#[]⟩)).cell (j := 1) rfl
          simp [results, Tryz.results11, go_sem, e0, e1, IntV, ineg_zero, imag_zero]
        · exact ⟨(SZ.out.setCell (p := ⟨w.heap.size + 1, 0, none⟩) (show w.heap.size ≤ w.heap.size + 1 by omega) _).setCell (p := ⟨w.heap.size + 1, 1, none⟩) (show w.heap.size ≤ w.heap.size + 1 by omega) _, rfl⟩
      · go_simp
        refine hK.out _ _ ?_ (fun hHeld => ?_)
        · ((try dsimp only); go_keep)
        clear hK K
        (try simp only [Act.put, List.setIfInBounds_toArray, List.set_cons_zero, List.set_cons_succ])
        have hbq : Below (w415).heap.size (w415) ((w415).alloc (.cells #[.bool false, .string ⟨#[]⟩] 33)) := (Below.refl _ _).alloc (Nat.le_refl _) _
        have a5 := Blk.new (w415) 33 [.bool false, .string ⟨#[]⟩]
        have g5 : (w415).heap.size = w415.heap.size := rfl
        rw [g5] at a5
        have s5 := (Sw415.out).trans (hbq.mono (Sw415.out).size)
        have r5 := (HRw415.out).below hbq (Nat.le_refl _)
        have i5 := (HSw415.out).below hbq (Nat.le_refl _)
        have y5 := (Rw415.out).keep hbq
        obtain ⟨ba, hba⟩ : ∃ ba, ba = w415.heap.size := ⟨_, rfl⟩
        have hane : w.heap.size + 1 < ba := by omega
        rw [← hba] at a5
        have e5 : (w415).alloc (.cells #[.bool false, .string ⟨#[]⟩] 33) = (w415).alloc (.cells #[.bool false, .string ⟨#[]⟩] 33) := rfl
        rw [e5] at a5 s5 r5 i5 y5 hbq
        obtain ⟨w418, hv5⟩ : ∃ w418, (w415).alloc (.cells #[.bool false, .string ⟨#[]⟩] 33) = w418 := ⟨_, rfl⟩
        rw [hv5] at hHeld a5 s5 r5 i5 y5 hbq
        have l5 : w.heap.size + 1 < w418.heap.size := y5.lt
        have al5 := a5.lt
        have t5 := Tab.below Tw415.out hbq (Nat.le_refl _)
        have Tw418 := Lib.hid t5; clear t5
        have Sw418 := Lib.hid s5; clear s5
        have HRw418 := Lib.hid r5; clear r5
        have HSw418 := Lib.hid i5; clear i5
        have Rw418 := Lib.hid y5; clear y5
        have Aw418 := Lib.hid a5; clear a5
        have hpa : (Value.pointer (some ⟨w415.heap.size, 0, none⟩)) = Value.pointer (some ⟨ba, 0, none⟩) := by rw [hba]
        (try simp only [World.size_drew])
        rw [hv5]
        (try rw [hpa])
        clear hbq hv5 hba hpa g5 e5
        refine wpAnyH_ready (rs := [8]) (by kernel_rfl) (by simp) ?_
        refine AllReadyH.cons rfl (fun K hK => ?_) AllReadyH.nil
        go_simp
        go_at_call 33
        refine (HRK.out _ _ (HRw418.out) Tw418.out).mono ?_
        rintro e w419 ⟨hq, rfl⟩
        dsimp only
        have z0 := (hq.cell (p := ⟨w.heap.size, 0, none⟩) (show w.heap.size < w418.heap.size by omega)).trans hHeld.1
        have z1 := (hq.cell (p := ⟨w.heap.size, 1, none⟩) (show w.heap.size < w418.heap.size by omega)).trans hHeld.2.1
        have z2 := (hq.cell (p := ⟨w.heap.size, 2, none⟩) (show w.heap.size < w418.heap.size by omega)).trans hHeld.2.2
        refine hK.out _ _ ⟨z0, z1, z2⟩ (fun hHeld => ?_)
        clear hK K
        (try simp only [Act.put, List.setIfInBounds_toArray, List.set_cons_zero, List.set_cons_succ])
        have s5 := (Sw418.out).trans (hq.mono (Sw418.out).size)
        have r5 := (HRw418.out).below hq (Nat.le_refl _)
        have i5 := (HSw418.out).below hq (Nat.le_refl _)
        have y5 := (Rw418.out).keep hq
        have l5 : w.heap.size + 1 < w419.heap.size := y5.lt
        have Sw419 := Lib.hid s5; clear s5
        have HRw419 := Lib.hid r5; clear r5
        have HSw419 := Lib.hid i5; clear i5
        have Rw419 := Lib.hid y5; clear y5
        have a5 := (Aw418.out).keep hq
        have Aw419 := Lib.hid a5; clear a5
        clear hq z0 z1 z2
        refine wpAnyH_take (i := 9) (v := ?_) rfl (by kernel_rfl) (by kernel_rfl) (by kernel_rfl) (fun _ _ _ h => h) (Or.inl ⟨by rfl, ?_⟩) (by assumption) ?_
        rotate_left
        · (intro wS hSw; (try dsimp only at hSw); go_simp; (try with_reducible rfl))
        (try simp only [Act.put, List.setIfInBounds_toArray, List.set_cons_zero, List.set_cons_succ])
        refine wpAnyH_take (i := 10) (v := ?_) rfl (by kernel_rfl) (by kernel_rfl) (by kernel_rfl) (fun _ _ _ h => h) (Or.inl ⟨by rfl, ?_⟩) (by assumption) ?_
        rotate_left
        · (intro wS hSw; (try dsimp only at hSw); go_simp; (try with_reducible rfl))
        (try simp only [Act.put, List.setIfInBounds_toArray, List.set_cons_zero, List.set_cons_succ])
        refine wpAnyH_take (i := 11) (v := ?_) rfl (by kernel_rfl) (by kernel_rfl) (by kernel_rfl) (fun _ _ _ h => h) (Or.inl ⟨by rfl, ?_⟩) (by assumption) ?_
        rotate_left
        · (intro wS hSw; (try dsimp only at hSw); go_simp; (try with_reducible rfl))
        (try simp only [Act.put, List.setIfInBounds_toArray, List.set_cons_zero, List.set_cons_succ])
        refine wpAnyH_take (i := 12) (v := ?_) rfl (by kernel_rfl) (by kernel_rfl) (by kernel_rfl) (fun _ _ _ h => h) (Or.inl ⟨by rfl, ?_⟩) (by assumption) ?_
        rotate_left
        · (intro wS hSw; (try dsimp only at hSw); go_simp; (try with_reducible rfl))
        (try simp only [Act.put, List.setIfInBounds_toArray, List.set_cons_zero, List.set_cons_succ])
        have a0 := (Aw419.out).cell (j := 0) rfl
        have a1 := (Aw419.out).cell (j := 1) rfl
        have f0 := (Aw419.out).frozen 0
        have f1 := (Aw419.out).frozen 1
        have hne : ¬ ba = w.heap.size := by omega
        refine wpAnyH_ready (rs := [14]) (by kernel_rfl) (by simp) ?_
        refine AllReadyH.cons rfl (fun K hK => ?_) AllReadyH.nil
        go_simp
        refine hK.out _ _ ?_ (fun hHeld => ?_)
        · ((try dsimp only); go_keep)
        clear hK K
        (try simp only [Act.put, List.setIfInBounds_toArray, List.set_cons_zero, List.set_cons_succ])
        refine wpAnyH_take (i := 15) (v := ?_) rfl (by kernel_rfl) (by kernel_rfl) (by kernel_rfl) (fun _ _ _ h => h) (Or.inl ⟨by rfl, ?_⟩) (by assumption) ?_
        rotate_left
        · (intro wS hSw; (try dsimp only at hSw); go_simp; (try with_reducible rfl))
        (try simp only [Act.put, List.setIfInBounds_toArray, List.set_cons_zero, List.set_cons_succ])
        refine wpAnyH_take (i := 16) (v := ?_) rfl (by kernel_rfl) (by kernel_rfl) (by kernel_rfl) (fun _ _ _ h => h) (Or.inl ⟨by rfl, ?_⟩) (by assumption) ?_
        rotate_left
        · (intro wS hSw; (try dsimp only at hSw); go_simp; (try with_reducible rfl))
        (try simp only [Act.put, List.setIfInBounds_toArray, List.set_cons_zero, List.set_cons_succ])
        refine wpAnyH_done (by kernel_rfl) ?_ _
        (try simp only [List.getElem_toArray, List.getElem_cons_zero, List.getElem_cons_succ, Act.put, List.setIfInBounds_toArray, List.set_cons_zero, List.set_cons_succ])
        have az := ((Aw419.out).set 0 (.bool (ineg 0))).set 1 (.string (imag 0))
        have hkz : ∀ b, b ≠ ba → ((w419.setCell ⟨ba, 0, none⟩ (.bool (ineg 0))).setCell ⟨ba, 1, none⟩ (.string (imag 0))).heap[b]? = w419.heap[b]? := fun b h => (Below.heap_setCell _ _ _ b h).trans (Below.heap_setCell _ _ _ b h)
        have rz := (Rw419.out).of_block (hkz _ (by omega))
        have sz := ((Sw419.out).setCell (p := ⟨ba, 0, none⟩) (show w.heap.size ≤ ba by omega) (.bool (ineg 0))).setCell (p := ⟨ba, 1, none⟩) (show w.heap.size ≤ ba by omega) (.string (imag 0))
        obtain ⟨wz, hwz⟩ : ∃ wz, (w419.setCell ⟨ba, 0, none⟩ (.bool (ineg 0))).setCell ⟨ba, 1, none⟩ (.string (imag 0)) = wz := ⟨_, rfl⟩
        rw [hwz] at az rz sz ⊢
        clear hwz hkz hHeld a0 a1 f0 f1
        have a0 := az.cell (j := 0) rfl
        have a1 := az.cell (j := 1) rfl
        have r0 := rz.cell (j := 0) rfl
        have r1 := rz.cell (j := 1) rfl
        have f0 := rz.frozen 0
        have f1 := rz.frozen 1
        have SZ := Lib.hid sz; clear sz
        have AZ := Lib.hid az; clear az
        go_wp2_with fail
        refine bodyPost_ret (v := .tuple #[IntV 0, .int .i64 0, .int .i64 13]) ?_ rfl ?_
        · have e0 := ((rz.set 0 (.bool false)).set 1 (.string ⟨#[]⟩)).cell (j := 0) rfl
          have e1 := ((rz.set 0 (.bool false)).set 1 (.string ⟨#[]⟩)).cell (j := 1) rfl
          simp [results, Tryz.results11, go_sem, e0, e1, IntV, ineg_zero, imag_zero]
        · exact ⟨(SZ.out.setCell (p := ⟨w.heap.size + 1, 0, none⟩) (show w.heap.size ≤ w.heap.size + 1 by omega) _).setCell (p := ⟨w.heap.size + 1, 1, none⟩) (show w.heap.size ≤ w.heap.size + 1 by omega) _, rfl⟩
    · go_simp
      refine hK.out _ _ ?_ (fun hHeld => ?_)
      · ((try dsimp only); go_keep)
      clear hK K
      (try simp only [Act.put, List.setIfInBounds_toArray, List.set_cons_zero, List.set_cons_succ])
      have hbq : Below (w414).heap.size (w414) ((w414).alloc (.cells #[.bool false, .string ⟨#[]⟩] 33)) := (Below.refl _ _).alloc (Nat.le_refl _) _
      have a5 := Blk.new (w414) 33 [.bool false, .string ⟨#[]⟩]
      have g5 : (w414).heap.size = w414.heap.size := rfl
      rw [g5] at a5
      have s5 := (Sw414.out).trans (hbq.mono (Sw414.out).size)
      have r5 := (HRw414.out).below hbq (Nat.le_refl _)
      have i5 := (HSw414.out).below hbq (Nat.le_refl _)
      have y5 := (Rw414.out).keep hbq
      obtain ⟨ba, hba⟩ : ∃ ba, ba = w414.heap.size := ⟨_, rfl⟩
      have hane : w.heap.size + 1 < ba := by omega
      rw [← hba] at a5
      have e5 : (w414).alloc (.cells #[.bool false, .string ⟨#[]⟩] 33) = (w414).alloc (.cells #[.bool false, .string ⟨#[]⟩] 33) := rfl
      rw [e5] at a5 s5 r5 i5 y5 hbq
      obtain ⟨w420, hv5⟩ : ∃ w420, (w414).alloc (.cells #[.bool false, .string ⟨#[]⟩] 33) = w420 := ⟨_, rfl⟩
      rw [hv5] at hHeld a5 s5 r5 i5 y5 hbq
      have l5 : w.heap.size + 1 < w420.heap.size := y5.lt
      have al5 := a5.lt
      have q5 := (Qw414.out).keep hbq
      have Qw420 := Lib.hid q5; clear q5
      have Sw420 := Lib.hid s5; clear s5
      have HRw420 := Lib.hid r5; clear r5
      have HSw420 := Lib.hid i5; clear i5
      have Rw420 := Lib.hid y5; clear y5
      have Aw420 := Lib.hid a5; clear a5
      have hpa : (Value.pointer (some ⟨w414.heap.size, 0, none⟩)) = Value.pointer (some ⟨ba, 0, none⟩) := by rw [hba]
      (try simp only [World.size_drew])
      rw [hv5]
      (try rw [hpa])
      clear hbq hv5 hba hpa g5 e5
      refine wpAnyH_ready (rs := [5]) (by kernel_rfl) (by simp) ?_
      refine AllReadyH.cons rfl (fun K hK => ?_) AllReadyH.nil
      go_simp
      go_at_call 34
      refine (HTAB.out q _ (HRw420.out) (HSw420.out) (Qw420.out).lt ((Qw420.out).cell (j := 0) rfl)).mono ?_
      rintro e w421 ⟨hq, tv, rfl, htb⟩
      dsimp only
      have z0 := (hq.cell (p := ⟨w.heap.size, 0, none⟩) (show w.heap.size < w420.heap.size by omega)).trans hHeld.1
      have z1 := (hq.cell (p := ⟨w.heap.size, 1, none⟩) (show w.heap.size < w420.heap.size by omega)).trans hHeld.2.1
      have z2 := (hq.cell (p := ⟨w.heap.size, 2, none⟩) (show w.heap.size < w420.heap.size by omega)).trans hHeld.2.2
      refine hK.out _ _ ⟨z0, z1, z2⟩ (fun hHeld => ?_)
      clear hK K
      (try simp only [Act.put, List.setIfInBounds_toArray, List.set_cons_zero, List.set_cons_succ])
      have s5 := (Sw420.out).trans (hq.mono (Sw420.out).size)
      have r5 := (HRw420.out).below hq (Nat.le_refl _)
      have i5 := (HSw420.out).below hq (Nat.le_refl _)
      have y5 := (Rw420.out).keep hq
      have l5 : w.heap.size + 1 < w421.heap.size := y5.lt
      have Sw421 := Lib.hid s5; clear s5
      have HRw421 := Lib.hid r5; clear r5
      have HSw421 := Lib.hid i5; clear i5
      have Rw421 := Lib.hid y5; clear y5
      have t5 := htb.tab
      have Tw421 := Lib.hid t5; clear t5
      clear htb
      have a5 := (Aw420.out).keep hq
      have Aw421 := Lib.hid a5; clear a5
      clear hq z0 z1 z2
      refine wpAnyH_ready (rs := [8]) (by kernel_rfl) (by simp) ?_
      refine AllReadyH.cons rfl (fun K hK => ?_) AllReadyH.nil
      go_simp
      go_at_call 33
      refine (HRK.out _ _ (HRw421.out) Tw421.out).mono ?_
      rintro e w422 ⟨hq, rfl⟩
      dsimp only
      have z0 := (hq.cell (p := ⟨w.heap.size, 0, none⟩) (show w.heap.size < w421.heap.size by omega)).trans hHeld.1
      have z1 := (hq.cell (p := ⟨w.heap.size, 1, none⟩) (show w.heap.size < w421.heap.size by omega)).trans hHeld.2.1
      have z2 := (hq.cell (p := ⟨w.heap.size, 2, none⟩) (show w.heap.size < w421.heap.size by omega)).trans hHeld.2.2
      refine hK.out _ _ ⟨z0, z1, z2⟩ (fun hHeld => ?_)
      clear hK K
      (try simp only [Act.put, List.setIfInBounds_toArray, List.set_cons_zero, List.set_cons_succ])
      have s5 := (Sw421.out).trans (hq.mono (Sw421.out).size)
      have r5 := (HRw421.out).below hq (Nat.le_refl _)
      have i5 := (HSw421.out).below hq (Nat.le_refl _)
      have y5 := (Rw421.out).keep hq
      have l5 : w.heap.size + 1 < w422.heap.size := y5.lt
      have Sw422 := Lib.hid s5; clear s5
      have HRw422 := Lib.hid r5; clear r5
      have HSw422 := Lib.hid i5; clear i5
      have Rw422 := Lib.hid y5; clear y5
      have a5 := (Aw421.out).keep hq
      have Aw422 := Lib.hid a5; clear a5
      clear hq z0 z1 z2
      refine wpAnyH_take (i := 9) (v := ?_) rfl (by kernel_rfl) (by kernel_rfl) (by kernel_rfl) (fun _ _ _ h => h) (Or.inl ⟨by rfl, ?_⟩) (by assumption) ?_
      rotate_left
      · (intro wS hSw; (try dsimp only at hSw); go_simp; (try with_reducible rfl))
      (try simp only [Act.put, List.setIfInBounds_toArray, List.set_cons_zero, List.set_cons_succ])
      refine wpAnyH_take (i := 10) (v := ?_) rfl (by kernel_rfl) (by kernel_rfl) (by kernel_rfl) (fun _ _ _ h => h) (Or.inl ⟨by rfl, ?_⟩) (by assumption) ?_
      rotate_left
      · (intro wS hSw; (try dsimp only at hSw); go_simp; (try with_reducible rfl))
      (try simp only [Act.put, List.setIfInBounds_toArray, List.set_cons_zero, List.set_cons_succ])
      refine wpAnyH_take (i := 11) (v := ?_) rfl (by kernel_rfl) (by kernel_rfl) (by kernel_rfl) (fun _ _ _ h => h) (Or.inl ⟨by rfl, ?_⟩) (by assumption) ?_
      rotate_left
      · (intro wS hSw; (try dsimp only at hSw); go_simp; (try with_reducible rfl))
      (try simp only [Act.put, List.setIfInBounds_toArray, List.set_cons_zero, List.set_cons_succ])
      refine wpAnyH_take (i := 12) (v := ?_) rfl (by kernel_rfl) (by kernel_rfl) (by kernel_rfl) (fun _ _ _ h => h) (Or.inl ⟨by rfl, ?_⟩) (by assumption) ?_
      rotate_left
      · (intro wS hSw; (try dsimp only at hSw); go_simp; (try with_reducible rfl))
      (try simp only [Act.put, List.setIfInBounds_toArray, List.set_cons_zero, List.set_cons_succ])
      have a0 := (Aw422.out).cell (j := 0) rfl
      have a1 := (Aw422.out).cell (j := 1) rfl
      have f0 := (Aw422.out).frozen 0
      have f1 := (Aw422.out).frozen 1
      have hne : ¬ ba = w.heap.size := by omega
      refine wpAnyH_ready (rs := [14]) (by kernel_rfl) (by simp) ?_
      refine AllReadyH.cons rfl (fun K hK => ?_) AllReadyH.nil
      go_simp
      refine hK.out _ _ ?_ (fun hHeld => ?_)
      · ((try dsimp only); go_keep)
      clear hK K
      (try simp only [Act.put, List.setIfInBounds_toArray, List.set_cons_zero, List.set_cons_succ])
      refine wpAnyH_take (i := 15) (v := ?_) rfl (by kernel_rfl) (by kernel_rfl) (by kernel_rfl) (fun _ _ _ h => h) (Or.inl ⟨by rfl, ?_⟩) (by assumption) ?_
      rotate_left
      · (intro wS hSw; (try dsimp only at hSw); go_simp; (try with_reducible rfl))
      (try simp only [Act.put, List.setIfInBounds_toArray, List.set_cons_zero, List.set_cons_succ])
      refine wpAnyH_take (i := 16) (v := ?_) rfl (by kernel_rfl) (by kernel_rfl) (by kernel_rfl) (fun _ _ _ h => h) (Or.inl ⟨by rfl, ?_⟩) (by assumption) ?_
      rotate_left
      · (intro wS hSw; (try dsimp only at hSw); go_simp; (try with_reducible rfl))
      (try simp only [Act.put, List.setIfInBounds_toArray, List.set_cons_zero, List.set_cons_succ])
      refine wpAnyH_done (by kernel_rfl) ?_ _
      (try simp only [List.getElem_toArray, List.getElem_cons_zero, List.getElem_cons_succ, Act.put, List.setIfInBounds_toArray, List.set_cons_zero, List.set_cons_succ])
      have az := ((Aw422.out).set 0 (.bool (ineg 0))).set 1 (.string (imag 0))
      have hkz : ∀ b, b ≠ ba → ((w422.setCell ⟨ba, 0, none⟩ (.bool (ineg 0))).setCell ⟨ba, 1, none⟩ (.string (imag 0))).heap[b]? = w422.heap[b]? := fun b h => (Below.heap_setCell _ _ _ b h).trans (Below.heap_setCell _ _ _ b h)
      have rz := (Rw422.out).of_block (hkz _ (by omega))
      have sz := ((Sw422.out).setCell (p := ⟨ba, 0, none⟩) (show w.heap.size ≤ ba by omega) (.bool (ineg 0))).setCell (p := ⟨ba, 1, none⟩) (show w.heap.size ≤ ba by omega) (.string (imag 0))
      obtain ⟨wz, hwz⟩ : ∃ wz, (w422.setCell ⟨ba, 0, none⟩ (.bool (ineg 0))).setCell ⟨ba, 1, none⟩ (.string (imag 0)) = wz := ⟨_, rfl⟩
      rw [hwz] at az rz sz ⊢
      clear hwz hkz hHeld a0 a1 f0 f1
      have a0 := az.cell (j := 0) rfl
      have a1 := az.cell (j := 1) rfl
      have r0 := rz.cell (j := 0) rfl
      have r1 := rz.cell (j := 1) rfl
      have f0 := rz.frozen 0
      have f1 := rz.frozen 1
      have SZ := Lib.hid sz; clear sz
      have AZ := Lib.hid az; clear az
      go_wp2_with fail
      refine bodyPost_ret (v := .tuple #[IntV 0, .int .i64 0, .int .i64 13]) ?_ rfl ?_
      · have e0 := ((rz.set 0 (.bool false)).set 1 (.string ⟨#[]⟩)).cell (j := 0) rfl
        have e1 := ((rz.set 0 (.bool false)).set 1 (.string ⟨#[]⟩)).cell (j := 1) rfl
        simp [results, Tryz.results11, go_sem, e0, e1, IntV, ineg_zero, imag_zero]
      · exact ⟨(SZ.out.setCell (p := ⟨w.heap.size + 1, 0, none⟩) (show w.heap.size ≤ w.heap.size + 1 by omega) _).setCell (p := ⟨w.heap.size + 1, 1, none⟩) (show w.heap.size ≤ w.heap.size + 1 by omega) _, rfl⟩
  · go_simp
    refine hK.out _ _ ?_ (fun hHeld => ?_)
    · ((try dsimp only); go_keep)
    clear hK K
    (try simp only [Act.put, List.setIfInBounds_toArray, List.set_cons_zero, List.set_cons_succ])
    have hbq : Below (w3.drew).heap.size (w3.drew) ((w3.drew).alloc (.cells #[.bool false, .string ⟨#[]⟩] 33)) := (Below.refl _ _).alloc (Nat.le_refl _) _
    have a5 := Blk.new (w3.drew) 33 [.bool false, .string ⟨#[]⟩]
    have g5 : (w3.drew).heap.size = w3.heap.size := rfl
    rw [g5] at a5
    have s5 := (S3.out.drew).trans (hbq.mono (S3.out.drew).size)
    have r5 := (HR3.out.drew).below hbq (Nat.le_refl _)
    have i5 := (HS3.out.drew).below hbq (Nat.le_refl _)
    have y5 := (E1.out.drew).keep hbq
    obtain ⟨ba, hba⟩ : ∃ ba, ba = w3.heap.size := ⟨_, rfl⟩
    have hane : w.heap.size + 1 < ba := by omega
    rw [← hba] at a5
    have e5 : (w3.drew).alloc (.cells #[.bool false, .string ⟨#[]⟩] 33) = (w3.alloc (.cells #[.bool false, .string ⟨#[]⟩] 33)).drew := rfl
    rw [e5] at a5 s5 r5 i5 y5 hbq
    obtain ⟨w423, hv5⟩ : ∃ w423, (w3.alloc (.cells #[.bool false, .string ⟨#[]⟩] 33)).drew = w423 := ⟨_, rfl⟩
    rw [hv5] at hHeld a5 s5 r5 i5 y5 hbq
    have l5 : w.heap.size + 1 < w423.heap.size := y5.lt
    have al5 := a5.lt
    have Sw423 := Lib.hid s5; clear s5
    have HRw423 := Lib.hid r5; clear r5
    have HSw423 := Lib.hid i5; clear i5
    have Rw423 := Lib.hid y5; clear y5
    have Aw423 := Lib.hid a5; clear a5
    have hpa : (Value.pointer (some ⟨w3.heap.size, 0, none⟩)) = Value.pointer (some ⟨ba, 0, none⟩) := by rw [hba]
    (try simp only [World.size_drew])
    rw [hv5]
    (try rw [hpa])
    clear hbq hv5 hba hpa g5 e5
    refine wpAnyH_ready (rs := [3]) (by kernel_rfl) (by simp) ?_
    refine AllReadyH.cons rfl (fun K hK => ?_) AllReadyH.nil
    go_simp
    go_at_call 35
    refine (in_blk _ _ _ _).mono ?_
    rintro e w424 ⟨hq, q, rfl, hqb⟩
    dsimp only
    have z0 := (hq.cell (p := ⟨w.heap.size, 0, none⟩) (show w.heap.size < w423.heap.size by omega)).trans hHeld.1
    have z1 := (hq.cell (p := ⟨w.heap.size, 1, none⟩) (show w.heap.size < w423.heap.size by omega)).trans hHeld.2.1
    have z2 := (hq.cell (p := ⟨w.heap.size, 2, none⟩) (show w.heap.size < w423.heap.size by omega)).trans hHeld.2.2
    refine hK.out _ _ ⟨z0, z1, z2⟩ (fun hHeld => ?_)
    clear hK K
    (try simp only [Act.put, List.setIfInBounds_toArray, List.set_cons_zero, List.set_cons_succ])
    have s5 := (Sw423.out).trans (hq.mono (Sw423.out).size)
    have r5 := (HRw423.out).below hq (Nat.le_refl _)
    have i5 := (HSw423.out).below hq (Nat.le_refl _)
    have y5 := (Rw423.out).keep hq
    have l5 : w.heap.size + 1 < w424.heap.size := y5.lt
    have Sw424 := Lib.hid s5; clear s5
    have HRw424 := Lib.hid r5; clear r5
    have HSw424 := Lib.hid i5; clear i5
    have Rw424 := Lib.hid y5; clear y5
    have Qw424 := Lib.hid hqb; clear hqb
    have a5 := (Aw423.out).keep hq
    have Aw424 := Lib.hid a5; clear a5
    clear hq z0 z1 z2
    refine wpAnyH_ready (rs := [5]) (by kernel_rfl) (by simp) ?_
    refine AllReadyH.cons rfl (fun K hK => ?_) AllReadyH.nil
    go_simp
    go_at_call 34
    refine (HTAB.out q _ (HRw424.out) (HSw424.out) (Qw424.out).lt ((Qw424.out).cell (j := 0) rfl)).mono ?_
    rintro e w425 ⟨hq, tv, rfl, htb⟩
    dsimp only
    have z0 := (hq.cell (p := ⟨w.heap.size, 0, none⟩) (show w.heap.size < w424.heap.size by omega)).trans hHeld.1
    have z1 := (hq.cell (p := ⟨w.heap.size, 1, none⟩) (show w.heap.size < w424.heap.size by omega)).trans hHeld.2.1
    have z2 := (hq.cell (p := ⟨w.heap.size, 2, none⟩) (show w.heap.size < w424.heap.size by omega)).trans hHeld.2.2
    refine hK.out _ _ ⟨z0, z1, z2⟩ (fun hHeld => ?_)
    clear hK K
    (try simp only [Act.put, List.setIfInBounds_toArray, List.set_cons_zero, List.set_cons_succ])
    have s5 := (Sw424.out).trans (hq.mono (Sw424.out).size)
    have r5 := (HRw424.out).below hq (Nat.le_refl _)
    have i5 := (HSw424.out).below hq (Nat.le_refl _)
    have y5 := (Rw424.out).keep hq
    have l5 : w.heap.size + 1 < w425.heap.size := y5.lt
    have Sw425 := Lib.hid s5; clear s5
    have HRw425 := Lib.hid r5; clear r5
    have HSw425 := Lib.hid i5; clear i5
    have Rw425 := Lib.hid y5; clear y5
    have t5 := htb.tab
    have Tw425 := Lib.hid t5; clear t5
    clear htb
    have a5 := (Aw424.out).keep hq
    have Aw425 := Lib.hid a5; clear a5
    clear hq z0 z1 z2
    refine wpAnyH_ready (rs := [8]) (by kernel_rfl) (by simp) ?_
    refine AllReadyH.cons rfl (fun K hK => ?_) AllReadyH.nil
    go_simp
    go_at_call 33
    refine (HRK.out _ _ (HRw425.out) Tw425.out).mono ?_
    rintro e w426 ⟨hq, rfl⟩
    dsimp only
    have z0 := (hq.cell (p := ⟨w.heap.size, 0, none⟩) (show w.heap.size < w425.heap.size by omega)).trans hHeld.1
    have z1 := (hq.cell (p := ⟨w.heap.size, 1, none⟩) (show w.heap.size < w425.heap.size by omega)).trans hHeld.2.1
    have z2 := (hq.cell (p := ⟨w.heap.size, 2, none⟩) (show w.heap.size < w425.heap.size by omega)).trans hHeld.2.2
    refine hK.out _ _ ⟨z0, z1, z2⟩ (fun hHeld => ?_)
    clear hK K
    (try simp only [Act.put, List.setIfInBounds_toArray, List.set_cons_zero, List.set_cons_succ])
    have s5 := (Sw425.out).trans (hq.mono (Sw425.out).size)
    have r5 := (HRw425.out).below hq (Nat.le_refl _)
    have i5 := (HSw425.out).below hq (Nat.le_refl _)
    have y5 := (Rw425.out).keep hq
    have l5 : w.heap.size + 1 < w426.heap.size := y5.lt
    have Sw426 := Lib.hid s5; clear s5
    have HRw426 := Lib.hid r5; clear r5
    have HSw426 := Lib.hid i5; clear i5
    have Rw426 := Lib.hid y5; clear y5
    have a5 := (Aw425.out).keep hq
    have Aw426 := Lib.hid a5; clear a5
    clear hq z0 z1 z2
    refine wpAnyH_take (i := 9) (v := ?_) rfl (by kernel_rfl) (by kernel_rfl) (by kernel_rfl) (fun _ _ _ h => h) (Or.inl ⟨by rfl, ?_⟩) (by assumption) ?_
    rotate_left
    · (intro wS hSw; (try dsimp only at hSw); go_simp; (try with_reducible rfl))
    (try simp only [Act.put, List.setIfInBounds_toArray, List.set_cons_zero, List.set_cons_succ])
    refine wpAnyH_take (i := 10) (v := ?_) rfl (by kernel_rfl) (by kernel_rfl) (by kernel_rfl) (fun _ _ _ h => h) (Or.inl ⟨by rfl, ?_⟩) (by assumption) ?_
    rotate_left
    · (intro wS hSw; (try dsimp only at hSw); go_simp; (try with_reducible rfl))
    (try simp only [Act.put, List.setIfInBounds_toArray, List.set_cons_zero, List.set_cons_succ])
    refine wpAnyH_take (i := 11) (v := ?_) rfl (by kernel_rfl) (by kernel_rfl) (by kernel_rfl) (fun _ _ _ h => h) (Or.inl ⟨by rfl, ?_⟩) (by assumption) ?_
    rotate_left
    · (intro wS hSw; (try dsimp only at hSw); go_simp; (try with_reducible rfl))
    (try simp only [Act.put, List.setIfInBounds_toArray, List.set_cons_zero, List.set_cons_succ])
    refine wpAnyH_take (i := 12) (v := ?_) rfl (by kernel_rfl) (by kernel_rfl) (by kernel_rfl) (fun _ _ _ h => h) (Or.inl ⟨by rfl, ?_⟩) (by assumption) ?_
    rotate_left
    · (intro wS hSw; (try dsimp only at hSw); go_simp; (try with_reducible rfl))
    (try simp only [Act.put, List.setIfInBounds_toArray, List.set_cons_zero, List.set_cons_succ])
    have a0 := (Aw426.out).cell (j := 0) rfl
    have a1 := (Aw426.out).cell (j := 1) rfl
    have f0 := (Aw426.out).frozen 0
    have f1 := (Aw426.out).frozen 1
    have hne : ¬ ba = w.heap.size := by omega
    refine wpAnyH_ready (rs := [14]) (by kernel_rfl) (by simp) ?_
    refine AllReadyH.cons rfl (fun K hK => ?_) AllReadyH.nil
    go_simp
    refine hK.out _ _ ?_ (fun hHeld => ?_)
    · ((try dsimp only); go_keep)
    clear hK K
    (try simp only [Act.put, List.setIfInBounds_toArray, List.set_cons_zero, List.set_cons_succ])
    refine wpAnyH_take (i := 15) (v := ?_) rfl (by kernel_rfl) (by kernel_rfl) (by kernel_rfl) (fun _ _ _ h => h) (Or.inl ⟨by rfl, ?_⟩) (by assumption) ?_
    rotate_left
    · (intro wS hSw; (try dsimp only at hSw); go_simp; (try with_reducible rfl))
    (try simp only [Act.put, List.setIfInBounds_toArray, List.set_cons_zero, List.set_cons_succ])
    refine wpAnyH_take (i := 16) (v := ?_) rfl (by kernel_rfl) (by kernel_rfl) (by kernel_rfl) (fun _ _ _ h => h) (Or.inl ⟨by rfl, ?_⟩) (by assumption) ?_
    rotate_left
    · (intro wS hSw; (try dsimp only at hSw); go_simp; (try with_reducible rfl))
    (try simp only [Act.put, List.setIfInBounds_toArray, List.set_cons_zero, List.set_cons_succ])
    refine wpAnyH_done (by kernel_rfl) ?_ _
    (try simp only [List.getElem_toArray, List.getElem_cons_zero, List.getElem_cons_succ, Act.put, List.setIfInBounds_toArray, List.set_cons_zero, List.set_cons_succ])
    have az := ((Aw426.out).set 0 (.bool (ineg 0))).set 1 (.string (imag 0))
    have hkz : ∀ b, b ≠ ba → ((w426.setCell ⟨ba, 0, none⟩ (.bool (ineg 0))).setCell ⟨ba, 1, none⟩ (.string (imag 0))).heap[b]? = w426.heap[b]? := fun b h => (Below.heap_setCell _ _ _ b h).trans (Below.heap_setCell _ _ _ b h)
    have rz := (Rw426.out).of_block (hkz _ (by omega))
    have sz := ((Sw426.out).setCell (p := ⟨ba, 0, none⟩) (show w.heap.size ≤ ba by omega) (.bool (ineg 0))).setCell (p := ⟨ba, 1, none⟩) (show w.heap.size ≤ ba by omega) (.string (imag 0))
    obtain ⟨wz, hwz⟩ : ∃ wz, (w426.setCell ⟨ba, 0, none⟩ (.bool (ineg 0))).setCell ⟨ba, 1, none⟩ (.string (imag 0)) = wz := ⟨_, rfl⟩
    rw [hwz] at az rz sz ⊢
    clear hwz hkz hHeld a0 a1 f0 f1
    have a0 := az.cell (j := 0) rfl
    have a1 := az.cell (j := 1) rfl
    have r0 := rz.cell (j := 0) rfl
    have r1 := rz.cell (j := 1) rfl
    have f0 := rz.frozen 0
    have f1 := rz.frozen 1
    have SZ := Lib.hid sz; clear sz
    have AZ := Lib.hid az; clear az
    go_wp2_with fail
    refine bodyPost_ret (v := .tuple #[IntV 0, .int .i64 0, .int .i64 13]) ?_ rfl ?_
    · have e0 := ((rz.set 0 (.bool false)).set 1 (.string ⟨#[]⟩)).cell (j := 0) rfl
      have e1 := ((rz.set 0 (.bool false)).set 1 (.string ⟨#[]⟩)).cell (j := 1) rfl
      simp [results, Tryz.results11, go_sem, e0, e1, IntV, ineg_zero, imag_zero]
    · exact ⟨(SZ.out.setCell (p := ⟨w.heap.size + 1, 0, none⟩) (show w.heap.size ≤ w.heap.size + 1 by omega) _).setCell (p := ⟨w.heap.size + 1, 1, none⟩) (show w.heap.size ≤ w.heap.size + 1 by omega) _, rfl⟩
set_option maxRecDepth 100000 in
set_option maxHeartbeats 3200000 in
theorem edec_fin (L : Int) (S s0 : Nat) (es : List E3) (set : List Int) (v vs : Value) (wd : ByteArray) (w : World) (hr : Row w v es.length (ce es)) (hok : okEs es) (hrs : Row w vs set.length (ci set)) (hE : eck L (S : Int) es = 0) (hset : SomeS S set) (hs0 : s0 < S) (hw : ckw L wd.data.toList = 0) (hm : wd.size ≤ 4096) (a t : Int) (hR : rk es (pin set) wd.data.toList (s0 : Int) 0 = some (a, t)) (hP : pin set t = false) :
    Calls Tryz.prog 11 #[.agg #[.int .i64 L, .int .i64 (S : Int), v], vs, .int .i64 (s0 : Int), .int .i64 (wd.size : Int), .string wd] w (Ret w (.tuple #[IntV 0, .int .i64 0, .int .i64 13])) := by
  obtain ⟨va, vc, rfl, hle⟩ := hr.slice
  obtain ⟨sa, sc, rfl, hsle⟩ := hrs.slice
  obtain ⟨mm, hmm⟩ : ∃ mm, mm = es.length := ⟨_, rfl⟩
  obtain ⟨ms, hms⟩ : ∃ ms, ms = set.length := ⟨_, rfl⟩
  have hlen := asc_len hset
  have hz := eck_zero hE
  have hca := chk_all hz.1
  have s0' := (Below.refl w.heap.size w).alloc (Nat.le_refl _) (.cells #[.int .i64 L, .int .i64 (S : Int), .slice va es.length vc] 24)
  have s0'' := s0'.alloc (by simp) (.cells #[.bool false, .string ⟨#[]⟩] 33)
  have b0 := (Blk.new w 24 [.int .i64 L, .int .i64 (S : Int), .slice va es.length vc]).alloc (.cells #[.bool false, .string ⟨#[]⟩] 33)
  have b1 := Blk.new (w.alloc (.cells #[.int .i64 L, .int .i64 (S : Int), .slice va es.length vc] 24)) 33 [.bool false, .string ⟨#[]⟩]
  simp only [World.size_alloc] at b1
  have hr0 := hr.below s0'' (Nat.le_refl _)
  have hrs0 := hrs.below s0'' (Nat.le_refl _)
  have hal := checkall_any L S (s0 : Int) (wd.size : Int) es _ _ set _ hr0 hok hrs0 (by omega)
  rw [eall_ok hE hset hs0 hm] at hal
  have hkw := fun w' => eckw_any L (S : Int) va es.length vc wd w' (by omega)
  rw [hw] at hkw
  have htab := fun q w' (h : Row w' (.slice va es.length vc) es.length (ce es)) (h2 : Row w' (.slice sa set.length sc) set.length (ci set)) => tin_any L S wd.size es (.slice va es.length vc) (.slice sa set.length sc) set q w' h h2 (by omega) hm (by omega) (chk_inS hz.1) hset
  have hrank := fun w' tv (h : Row w' (.slice va es.length vc) es.length (ce es)) (ht : Tab w' tv (tabL es S (pin set) wd.size)) => rank_any L S s0 es (.slice va es.length vc) tv wd (pin set) w' h ht (by omega) (by omega) (chk_inS hz.1) (chk_lab hz.1 hz.2.1) hs0 hm
  simp only [RkRet, hR, hP] at hrank
  rw [← hmm] at s0'' b0 b1 hr0 hrs0 hal hle hkw htab hrank
  rw [← hms] at hrs0 hal hsle htab hlen
  have HMM := Lib.hid hmm; clear hmm
  have HMS := Lib.hid hms; clear hms
  have HAL := Lib.hid hal; clear hal
  have HKW := Lib.hid hkw; clear hkw
  have HTAB := Lib.hid htab; clear htab
  have HRK := Lib.hid hrank; clear hrank
  have S0 := Lib.hid s0''; clear s0''
  have B0 := Lib.hid b0; clear b0
  have B1 := Lib.hid b1; clear b1
  have HR := Lib.hid hr0; clear hr0
  have HRS := Lib.hid hrs0; clear hrs0
  clear hr hrs hok hE hw hz hca s0' hset
  go_enter Tryz.func11, Tryz.ntmps11
  rw [← HMM.out, ← HMS.out]
  go_wp2_with fail
  go_at_call 31
  refine HAL.out.mono ?_
  rintro e w1 ⟨hq1, rfl⟩
  have s1 := S0.out.trans (hq1.mono S0.out.size)
  have hr1 := HR.out.below hq1 (Nat.le_refl _)
  have hrs1 := HRS.out.below hq1 (Nat.le_refl _)
  have tk := B0.out.keep hq1; have x0 := tk.cell (j := 0) rfl; have x1 := tk.cell (j := 1) rfl; have x2 := tk.cell (j := 2) rfl; have D0 := Lib.hid tk; clear tk
  have y0 := B1.out.keep hq1
  have D1 := Lib.hid y0; clear y0
  have S2 := Lib.hid s1; clear s1
  have HR2 := Lib.hid hr1; clear hr1
  have HS2 := Lib.hid hrs1; clear hrs1
  clear hq1
  go_wp2_with fail
  go_at_call 32
  refine (HKW.out _).mono ?_
  rintro e w3 ⟨hq1, rfl⟩
  have s1 := S2.out.trans (hq1.mono S2.out.size)
  have hr1 := HR2.out.below hq1 (Nat.le_refl _)
  have hrs1 := HS2.out.below hq1 (Nat.le_refl _)
  clear x0 x1 x2
  have tk := D0.out.keep hq1; have x0 := tk.cell (j := 0) rfl; have x1 := tk.cell (j := 1) rfl; have x2 := tk.cell (j := 2) rfl; have E0 := Lib.hid tk; clear tk
  have y0 := D1.out.keep hq1
  have E1 := Lib.hid y0; clear y0
  have S3 := Lib.hid s1; clear s1
  have HR3 := Lib.hid hr1; clear hr1
  have HS3 := Lib.hid hrs1; clear hrs1
  clear hq1
  have hw3 : w.heap.size + 1 < w3.heap.size := E1.out.lt
  go_wp2_with fail
  refine wp_region_held_drew (S := fun w' => w'.cell? ⟨w.heap.size, 0, none⟩ = some (.int .i64 L) ∧ w'.cell? ⟨w.heap.size, 1, none⟩ = some (.int .i64 (S : Int)) ∧ w'.cell? ⟨w.heap.size, 2, none⟩ = some (.slice va mm vc)) (by kernel_rfl) ?_ (fun hHeld => ?_)
  · go_keep
  refine wpAnyH_take (i := 0) (v := ?_) rfl (by kernel_rfl) (by kernel_rfl) (by kernel_rfl) (fun _ _ _ h => h) (Or.inl ⟨by rfl, ?_⟩) (by assumption) ?_
  rotate_left
  · (intro wS hSw; (try dsimp only at hSw); go_simp; (try with_reducible rfl))
  (try simp only [Act.put, List.setIfInBounds_toArray, List.set_cons_zero, List.set_cons_succ])
  refine wpAnyH_take (i := 1) (v := ?_) rfl (by kernel_rfl) (by kernel_rfl) (by kernel_rfl) (fun _ _ _ h => h) (Or.inl ⟨by rfl, ?_⟩) (by assumption) ?_
  rotate_left
  · (intro wS hSw; (try dsimp only at hSw); go_simp; (try with_reducible rfl))
  (try simp only [Act.put, List.setIfInBounds_toArray, List.set_cons_zero, List.set_cons_succ])
  refine wpAnyH_take (i := 2) (v := ?_) rfl (by kernel_rfl) (by kernel_rfl) (by kernel_rfl) (fun _ _ _ h => h) (Or.inl ⟨by rfl, ?_⟩) (by assumption) ?_
  rotate_left
  · (intro wS hSw; (try dsimp only at hSw); go_simp; (try with_reducible rfl))
  (try simp only [Act.put, List.setIfInBounds_toArray, List.set_cons_zero, List.set_cons_succ])
  refine wpAnyH_take (i := 4) (v := ?_) rfl (by kernel_rfl) (by kernel_rfl) (by kernel_rfl) (fun _ _ _ h => h) (Or.inl ⟨by rfl, ?_⟩) (by assumption) ?_
  rotate_left
  · (intro wS hSw; (try dsimp only at hSw); go_simp; (try with_reducible rfl))
  (try simp only [Act.put, List.setIfInBounds_toArray, List.set_cons_zero, List.set_cons_succ])
  refine wpAnyH_take (i := 6) (v := ?_) rfl (by kernel_rfl) (by kernel_rfl) (by kernel_rfl) (fun _ _ _ h => h) (Or.inl ⟨by rfl, ?_⟩) (by assumption) ?_
  rotate_left
  · (intro wS hSw; (try dsimp only at hSw); go_simp; (try with_reducible rfl))
  (try simp only [Act.put, List.setIfInBounds_toArray, List.set_cons_zero, List.set_cons_succ])
  refine wpAnyH_take (i := 7) (v := ?_) rfl (by kernel_rfl) (by kernel_rfl) (by kernel_rfl) (fun _ _ _ h => h) (Or.inl ⟨by rfl, ?_⟩) (by assumption) ?_
  rotate_left
  · (intro wS hSw; (try dsimp only at hSw); go_simp; (try with_reducible rfl))
  (try simp only [Act.put, List.setIfInBounds_toArray, List.set_cons_zero, List.set_cons_succ])
  refine wpAnyH_ready (rs := [3, 13]) (by kernel_rfl) (by simp) ?_
  refine AllReadyH.cons rfl (fun K hK => ?_) (AllReadyH.cons rfl (fun K hK => ?_) AllReadyH.nil)
  · go_simp
    go_at_call 35
    refine (in_blk _ _ _ _).mono ?_
    rintro e w427 ⟨hq, q, rfl, hqb⟩
    dsimp only
    have z0 := (hq.cell (p := ⟨w.heap.size, 0, none⟩) (show w.heap.size < w3.heap.size by omega)).trans hHeld.1
    have z1 := (hq.cell (p := ⟨w.heap.size, 1, none⟩) (show w.heap.size < w3.heap.size by omega)).trans hHeld.2.1
    have z2 := (hq.cell (p := ⟨w.heap.size, 2, none⟩) (show w.heap.size < w3.heap.size by omega)).trans hHeld.2.2
    refine hK.out _ _ ⟨z0, z1, z2⟩ (fun hHeld => ?_)
    clear hK K
    (try simp only [Act.put, List.setIfInBounds_toArray, List.set_cons_zero, List.set_cons_succ])
    have s5 := (S3.out.drew).trans (hq.mono (S3.out.drew).size)
    have r5 := (HR3.out.drew).below hq (Nat.le_refl _)
    have i5 := (HS3.out.drew).below hq (Nat.le_refl _)
    have y5 := (E1.out.drew).keep hq
    have l5 : w.heap.size + 1 < w427.heap.size := y5.lt
    have Sw427 := Lib.hid s5; clear s5
    have HRw427 := Lib.hid r5; clear r5
    have HSw427 := Lib.hid i5; clear i5
    have Rw427 := Lib.hid y5; clear y5
    have Qw427 := Lib.hid hqb; clear hqb
    clear hq z0 z1 z2
    refine wpAnyH_ready (rs := [5, 13]) (by kernel_rfl) (by simp) ?_
    refine AllReadyH.cons rfl (fun K hK => ?_) (AllReadyH.cons rfl (fun K hK => ?_) AllReadyH.nil)
    · go_simp
      go_at_call 34
      refine (HTAB.out q _ (HRw427.out) (HSw427.out) (Qw427.out).lt ((Qw427.out).cell (j := 0) rfl)).mono ?_
      rintro e w428 ⟨hq, tv, rfl, htb⟩
      dsimp only
      have z0 := (hq.cell (p := ⟨w.heap.size, 0, none⟩) (show w.heap.size < w427.heap.size by omega)).trans hHeld.1
      have z1 := (hq.cell (p := ⟨w.heap.size, 1, none⟩) (show w.heap.size < w427.heap.size by omega)).trans hHeld.2.1
      have z2 := (hq.cell (p := ⟨w.heap.size, 2, none⟩) (show w.heap.size < w427.heap.size by omega)).trans hHeld.2.2
      refine hK.out _ _ ⟨z0, z1, z2⟩ (fun hHeld => ?_)
      clear hK K
      (try simp only [Act.put, List.setIfInBounds_toArray, List.set_cons_zero, List.set_cons_succ])
      have s5 := (Sw427.out).trans (hq.mono (Sw427.out).size)
      have r5 := (HRw427.out).below hq (Nat.le_refl _)
      have i5 := (HSw427.out).below hq (Nat.le_refl _)
      have y5 := (Rw427.out).keep hq
      have l5 : w.heap.size + 1 < w428.heap.size := y5.lt
      have Sw428 := Lib.hid s5; clear s5
      have HRw428 := Lib.hid r5; clear r5
      have HSw428 := Lib.hid i5; clear i5
      have Rw428 := Lib.hid y5; clear y5
      have t5 := htb.tab
      have Tw428 := Lib.hid t5; clear t5
      clear htb
      clear hq z0 z1 z2
      refine wpAnyH_ready (rs := [8, 13]) (by kernel_rfl) (by simp) ?_
      refine AllReadyH.cons rfl (fun K hK => ?_) (AllReadyH.cons rfl (fun K hK => ?_) AllReadyH.nil)
      · go_simp
        go_at_call 33
        refine (HRK.out _ _ (HRw428.out) Tw428.out).mono ?_
        rintro e w429 ⟨hq, rfl⟩
        dsimp only
        have z0 := (hq.cell (p := ⟨w.heap.size, 0, none⟩) (show w.heap.size < w428.heap.size by omega)).trans hHeld.1
        have z1 := (hq.cell (p := ⟨w.heap.size, 1, none⟩) (show w.heap.size < w428.heap.size by omega)).trans hHeld.2.1
        have z2 := (hq.cell (p := ⟨w.heap.size, 2, none⟩) (show w.heap.size < w428.heap.size by omega)).trans hHeld.2.2
        refine hK.out _ _ ⟨z0, z1, z2⟩ (fun hHeld => ?_)
        clear hK K
        (try simp only [Act.put, List.setIfInBounds_toArray, List.set_cons_zero, List.set_cons_succ])
        have s5 := (Sw428.out).trans (hq.mono (Sw428.out).size)
        have r5 := (HRw428.out).below hq (Nat.le_refl _)
        have i5 := (HSw428.out).below hq (Nat.le_refl _)
        have y5 := (Rw428.out).keep hq
        have l5 : w.heap.size + 1 < w429.heap.size := y5.lt
        have Sw429 := Lib.hid s5; clear s5
        have HRw429 := Lib.hid r5; clear r5
        have HSw429 := Lib.hid i5; clear i5
        have Rw429 := Lib.hid y5; clear y5
        clear hq z0 z1 z2
        refine wpAnyH_take (i := 9) (v := ?_) rfl (by kernel_rfl) (by kernel_rfl) (by kernel_rfl) (fun _ _ _ h => h) (Or.inl ⟨by rfl, ?_⟩) (by assumption) ?_
        rotate_left
        · (intro wS hSw; (try dsimp only at hSw); go_simp; (try with_reducible rfl))
        (try simp only [Act.put, List.setIfInBounds_toArray, List.set_cons_zero, List.set_cons_succ])
        refine wpAnyH_take (i := 10) (v := ?_) rfl (by kernel_rfl) (by kernel_rfl) (by kernel_rfl) (fun _ _ _ h => h) (Or.inl ⟨by rfl, ?_⟩) (by assumption) ?_
        rotate_left
        · (intro wS hSw; (try dsimp only at hSw); go_simp; (try with_reducible rfl))
        (try simp only [Act.put, List.setIfInBounds_toArray, List.set_cons_zero, List.set_cons_succ])
        refine wpAnyH_take (i := 11) (v := ?_) rfl (by kernel_rfl) (by kernel_rfl) (by kernel_rfl) (fun _ _ _ h => h) (Or.inl ⟨by rfl, ?_⟩) (by assumption) ?_
        rotate_left
        · (intro wS hSw; (try dsimp only at hSw); go_simp; (try with_reducible rfl))
        (try simp only [Act.put, List.setIfInBounds_toArray, List.set_cons_zero, List.set_cons_succ])
        refine wpAnyH_take (i := 12) (v := ?_) rfl (by kernel_rfl) (by kernel_rfl) (by kernel_rfl) (fun _ _ _ h => h) (Or.inl ⟨by rfl, ?_⟩) (by assumption) ?_
        rotate_left
        · (intro wS hSw; (try dsimp only at hSw); go_simp; (try with_reducible rfl))
        (try simp only [Act.put, List.setIfInBounds_toArray, List.set_cons_zero, List.set_cons_succ])
        refine wpAnyH_ready (rs := [13]) (by kernel_rfl) (by simp) ?_
        refine AllReadyH.cons rfl (fun K hK => ?_) AllReadyH.nil
        go_simp
        refine hK.out _ _ ?_ (fun hHeld => ?_)
        · ((try dsimp only); go_keep)
        clear hK K
        (try simp only [Act.put, List.setIfInBounds_toArray, List.set_cons_zero, List.set_cons_succ])
        have hbq : Below (w429).heap.size (w429) ((w429).alloc (.cells #[.bool false, .string ⟨#[]⟩] 33)) := (Below.refl _ _).alloc (Nat.le_refl _) _
        have a5 := Blk.new (w429) 33 [.bool false, .string ⟨#[]⟩]
        have g5 : (w429).heap.size = w429.heap.size := rfl
        rw [g5] at a5
        have s5 := (Sw429.out).trans (hbq.mono (Sw429.out).size)
        have r5 := (HRw429.out).below hbq (Nat.le_refl _)
        have i5 := (HSw429.out).below hbq (Nat.le_refl _)
        have y5 := (Rw429.out).keep hbq
        obtain ⟨ba, hba⟩ : ∃ ba, ba = w429.heap.size := ⟨_, rfl⟩
        have hane : w.heap.size + 1 < ba := by omega
        rw [← hba] at a5
        have e5 : (w429).alloc (.cells #[.bool false, .string ⟨#[]⟩] 33) = (w429).alloc (.cells #[.bool false, .string ⟨#[]⟩] 33) := rfl
        rw [e5] at a5 s5 r5 i5 y5 hbq
        obtain ⟨w430, hv5⟩ : ∃ w430, (w429).alloc (.cells #[.bool false, .string ⟨#[]⟩] 33) = w430 := ⟨_, rfl⟩
        rw [hv5] at hHeld a5 s5 r5 i5 y5 hbq
        have l5 : w.heap.size + 1 < w430.heap.size := y5.lt
        have al5 := a5.lt
        have Sw430 := Lib.hid s5; clear s5
        have HRw430 := Lib.hid r5; clear r5
        have HSw430 := Lib.hid i5; clear i5
        have Rw430 := Lib.hid y5; clear y5
        have Aw430 := Lib.hid a5; clear a5
        have hpa : (Value.pointer (some ⟨w429.heap.size, 0, none⟩)) = Value.pointer (some ⟨ba, 0, none⟩) := by rw [hba]
        (try simp only [World.size_drew])
        rw [hv5]
        (try rw [hpa])
        clear hbq hv5 hba hpa g5 e5
        have a0 := (Aw430.out).cell (j := 0) rfl
        have a1 := (Aw430.out).cell (j := 1) rfl
        have f0 := (Aw430.out).frozen 0
        have f1 := (Aw430.out).frozen 1
        have hne : ¬ ba = w.heap.size := by omega
        refine wpAnyH_ready (rs := [14]) (by kernel_rfl) (by simp) ?_
        refine AllReadyH.cons rfl (fun K hK => ?_) AllReadyH.nil
        go_simp
        refine hK.out _ _ ?_ (fun hHeld => ?_)
        · ((try dsimp only); go_keep)
        clear hK K
        (try simp only [Act.put, List.setIfInBounds_toArray, List.set_cons_zero, List.set_cons_succ])
        refine wpAnyH_take (i := 15) (v := ?_) rfl (by kernel_rfl) (by kernel_rfl) (by kernel_rfl) (fun _ _ _ h => h) (Or.inl ⟨by rfl, ?_⟩) (by assumption) ?_
        rotate_left
        · (intro wS hSw; (try dsimp only at hSw); go_simp; (try with_reducible rfl))
        (try simp only [Act.put, List.setIfInBounds_toArray, List.set_cons_zero, List.set_cons_succ])
        refine wpAnyH_take (i := 16) (v := ?_) rfl (by kernel_rfl) (by kernel_rfl) (by kernel_rfl) (fun _ _ _ h => h) (Or.inl ⟨by rfl, ?_⟩) (by assumption) ?_
        rotate_left
        · (intro wS hSw; (try dsimp only at hSw); go_simp; (try with_reducible rfl))
        (try simp only [Act.put, List.setIfInBounds_toArray, List.set_cons_zero, List.set_cons_succ])
        refine wpAnyH_done (by kernel_rfl) ?_ _
        (try simp only [List.getElem_toArray, List.getElem_cons_zero, List.getElem_cons_succ, Act.put, List.setIfInBounds_toArray, List.set_cons_zero, List.set_cons_succ])
        have az := ((Aw430.out).set 0 (.bool (ineg a))).set 1 (.string (imag a))
        have hkz : ∀ b, b ≠ ba → ((w430.setCell ⟨ba, 0, none⟩ (.bool (ineg a))).setCell ⟨ba, 1, none⟩ (.string (imag a))).heap[b]? = w430.heap[b]? := fun b h => (Below.heap_setCell _ _ _ b h).trans (Below.heap_setCell _ _ _ b h)
        have rz := (Rw430.out).of_block (hkz _ (by omega))
        have sz := ((Sw430.out).setCell (p := ⟨ba, 0, none⟩) (show w.heap.size ≤ ba by omega) (.bool (ineg a))).setCell (p := ⟨ba, 1, none⟩) (show w.heap.size ≤ ba by omega) (.string (imag a))
        obtain ⟨wz, hwz⟩ : ∃ wz, (w430.setCell ⟨ba, 0, none⟩ (.bool (ineg a))).setCell ⟨ba, 1, none⟩ (.string (imag a)) = wz := ⟨_, rfl⟩
        rw [hwz] at az rz sz ⊢
        clear hwz hkz hHeld a0 a1 f0 f1
        have a0 := az.cell (j := 0) rfl
        have a1 := az.cell (j := 1) rfl
        have r0 := rz.cell (j := 0) rfl
        have r1 := rz.cell (j := 1) rfl
        have f0 := rz.frozen 0
        have f1 := rz.frozen 1
        have SZ := Lib.hid sz; clear sz
        have AZ := Lib.hid az; clear az
        go_wp2_with fail
        refine bodyPost_ret (v := .tuple #[IntV 0, .int .i64 0, .int .i64 13]) ?_ rfl ?_
        · have e0 := ((rz.set 0 (.bool false)).set 1 (.string ⟨#[]⟩)).cell (j := 0) rfl
          have e1 := ((rz.set 0 (.bool false)).set 1 (.string ⟨#[]⟩)).cell (j := 1) rfl
          simp [results, Tryz.results11, go_sem, e0, e1, IntV, ineg_zero, imag_zero]
        · exact ⟨(SZ.out.setCell (p := ⟨w.heap.size + 1, 0, none⟩) (show w.heap.size ≤ w.heap.size + 1 by omega) _).setCell (p := ⟨w.heap.size + 1, 1, none⟩) (show w.heap.size ≤ w.heap.size + 1 by omega) _, rfl⟩
      · go_simp
        refine hK.out _ _ ?_ (fun hHeld => ?_)
        · ((try dsimp only); go_keep)
        clear hK K
        (try simp only [Act.put, List.setIfInBounds_toArray, List.set_cons_zero, List.set_cons_succ])
        have hbq : Below (w428).heap.size (w428) ((w428).alloc (.cells #[.bool false, .string ⟨#[]⟩] 33)) := (Below.refl _ _).alloc (Nat.le_refl _) _
        have a5 := Blk.new (w428) 33 [.bool false, .string ⟨#[]⟩]
        have g5 : (w428).heap.size = w428.heap.size := rfl
        rw [g5] at a5
        have s5 := (Sw428.out).trans (hbq.mono (Sw428.out).size)
        have r5 := (HRw428.out).below hbq (Nat.le_refl _)
        have i5 := (HSw428.out).below hbq (Nat.le_refl _)
        have y5 := (Rw428.out).keep hbq
        obtain ⟨ba, hba⟩ : ∃ ba, ba = w428.heap.size := ⟨_, rfl⟩
        have hane : w.heap.size + 1 < ba := by omega
        rw [← hba] at a5
        have e5 : (w428).alloc (.cells #[.bool false, .string ⟨#[]⟩] 33) = (w428).alloc (.cells #[.bool false, .string ⟨#[]⟩] 33) := rfl
        rw [e5] at a5 s5 r5 i5 y5 hbq
        obtain ⟨w431, hv5⟩ : ∃ w431, (w428).alloc (.cells #[.bool false, .string ⟨#[]⟩] 33) = w431 := ⟨_, rfl⟩
        rw [hv5] at hHeld a5 s5 r5 i5 y5 hbq
        have l5 : w.heap.size + 1 < w431.heap.size := y5.lt
        have al5 := a5.lt
        have t5 := Tab.below Tw428.out hbq (Nat.le_refl _)
        have Tw431 := Lib.hid t5; clear t5
        have Sw431 := Lib.hid s5; clear s5
        have HRw431 := Lib.hid r5; clear r5
        have HSw431 := Lib.hid i5; clear i5
        have Rw431 := Lib.hid y5; clear y5
        have Aw431 := Lib.hid a5; clear a5
        have hpa : (Value.pointer (some ⟨w428.heap.size, 0, none⟩)) = Value.pointer (some ⟨ba, 0, none⟩) := by rw [hba]
        (try simp only [World.size_drew])
        rw [hv5]
        (try rw [hpa])
        clear hbq hv5 hba hpa g5 e5
        refine wpAnyH_ready (rs := [8]) (by kernel_rfl) (by simp) ?_
        refine AllReadyH.cons rfl (fun K hK => ?_) AllReadyH.nil
        go_simp
        go_at_call 33
        refine (HRK.out _ _ (HRw431.out) Tw431.out).mono ?_
        rintro e w432 ⟨hq, rfl⟩
        dsimp only
        have z0 := (hq.cell (p := ⟨w.heap.size, 0, none⟩) (show w.heap.size < w431.heap.size by omega)).trans hHeld.1
        have z1 := (hq.cell (p := ⟨w.heap.size, 1, none⟩) (show w.heap.size < w431.heap.size by omega)).trans hHeld.2.1
        have z2 := (hq.cell (p := ⟨w.heap.size, 2, none⟩) (show w.heap.size < w431.heap.size by omega)).trans hHeld.2.2
        refine hK.out _ _ ⟨z0, z1, z2⟩ (fun hHeld => ?_)
        clear hK K
        (try simp only [Act.put, List.setIfInBounds_toArray, List.set_cons_zero, List.set_cons_succ])
        have s5 := (Sw431.out).trans (hq.mono (Sw431.out).size)
        have r5 := (HRw431.out).below hq (Nat.le_refl _)
        have i5 := (HSw431.out).below hq (Nat.le_refl _)
        have y5 := (Rw431.out).keep hq
        have l5 : w.heap.size + 1 < w432.heap.size := y5.lt
        have Sw432 := Lib.hid s5; clear s5
        have HRw432 := Lib.hid r5; clear r5
        have HSw432 := Lib.hid i5; clear i5
        have Rw432 := Lib.hid y5; clear y5
        have a5 := (Aw431.out).keep hq
        have Aw432 := Lib.hid a5; clear a5
        clear hq z0 z1 z2
        refine wpAnyH_take (i := 9) (v := ?_) rfl (by kernel_rfl) (by kernel_rfl) (by kernel_rfl) (fun _ _ _ h => h) (Or.inl ⟨by rfl, ?_⟩) (by assumption) ?_
        rotate_left
        · (intro wS hSw; (try dsimp only at hSw); go_simp; (try with_reducible rfl))
        (try simp only [Act.put, List.setIfInBounds_toArray, List.set_cons_zero, List.set_cons_succ])
        refine wpAnyH_take (i := 10) (v := ?_) rfl (by kernel_rfl) (by kernel_rfl) (by kernel_rfl) (fun _ _ _ h => h) (Or.inl ⟨by rfl, ?_⟩) (by assumption) ?_
        rotate_left
        · (intro wS hSw; (try dsimp only at hSw); go_simp; (try with_reducible rfl))
        (try simp only [Act.put, List.setIfInBounds_toArray, List.set_cons_zero, List.set_cons_succ])
        refine wpAnyH_take (i := 11) (v := ?_) rfl (by kernel_rfl) (by kernel_rfl) (by kernel_rfl) (fun _ _ _ h => h) (Or.inl ⟨by rfl, ?_⟩) (by assumption) ?_
        rotate_left
        · (intro wS hSw; (try dsimp only at hSw); go_simp; (try with_reducible rfl))
        (try simp only [Act.put, List.setIfInBounds_toArray, List.set_cons_zero, List.set_cons_succ])
        refine wpAnyH_take (i := 12) (v := ?_) rfl (by kernel_rfl) (by kernel_rfl) (by kernel_rfl) (fun _ _ _ h => h) (Or.inl ⟨by rfl, ?_⟩) (by assumption) ?_
        rotate_left
        · (intro wS hSw; (try dsimp only at hSw); go_simp; (try with_reducible rfl))
        (try simp only [Act.put, List.setIfInBounds_toArray, List.set_cons_zero, List.set_cons_succ])
        have a0 := (Aw432.out).cell (j := 0) rfl
        have a1 := (Aw432.out).cell (j := 1) rfl
        have f0 := (Aw432.out).frozen 0
        have f1 := (Aw432.out).frozen 1
        have hne : ¬ ba = w.heap.size := by omega
        refine wpAnyH_ready (rs := [14]) (by kernel_rfl) (by simp) ?_
        refine AllReadyH.cons rfl (fun K hK => ?_) AllReadyH.nil
        go_simp
        refine hK.out _ _ ?_ (fun hHeld => ?_)
        · ((try dsimp only); go_keep)
        clear hK K
        (try simp only [Act.put, List.setIfInBounds_toArray, List.set_cons_zero, List.set_cons_succ])
        refine wpAnyH_take (i := 15) (v := ?_) rfl (by kernel_rfl) (by kernel_rfl) (by kernel_rfl) (fun _ _ _ h => h) (Or.inl ⟨by rfl, ?_⟩) (by assumption) ?_
        rotate_left
        · (intro wS hSw; (try dsimp only at hSw); go_simp; (try with_reducible rfl))
        (try simp only [Act.put, List.setIfInBounds_toArray, List.set_cons_zero, List.set_cons_succ])
        refine wpAnyH_take (i := 16) (v := ?_) rfl (by kernel_rfl) (by kernel_rfl) (by kernel_rfl) (fun _ _ _ h => h) (Or.inl ⟨by rfl, ?_⟩) (by assumption) ?_
        rotate_left
        · (intro wS hSw; (try dsimp only at hSw); go_simp; (try with_reducible rfl))
        (try simp only [Act.put, List.setIfInBounds_toArray, List.set_cons_zero, List.set_cons_succ])
        refine wpAnyH_done (by kernel_rfl) ?_ _
        (try simp only [List.getElem_toArray, List.getElem_cons_zero, List.getElem_cons_succ, Act.put, List.setIfInBounds_toArray, List.set_cons_zero, List.set_cons_succ])
        have az := ((Aw432.out).set 0 (.bool (ineg a))).set 1 (.string (imag a))
        have hkz : ∀ b, b ≠ ba → ((w432.setCell ⟨ba, 0, none⟩ (.bool (ineg a))).setCell ⟨ba, 1, none⟩ (.string (imag a))).heap[b]? = w432.heap[b]? := fun b h => (Below.heap_setCell _ _ _ b h).trans (Below.heap_setCell _ _ _ b h)
        have rz := (Rw432.out).of_block (hkz _ (by omega))
        have sz := ((Sw432.out).setCell (p := ⟨ba, 0, none⟩) (show w.heap.size ≤ ba by omega) (.bool (ineg a))).setCell (p := ⟨ba, 1, none⟩) (show w.heap.size ≤ ba by omega) (.string (imag a))
        obtain ⟨wz, hwz⟩ : ∃ wz, (w432.setCell ⟨ba, 0, none⟩ (.bool (ineg a))).setCell ⟨ba, 1, none⟩ (.string (imag a)) = wz := ⟨_, rfl⟩
        rw [hwz] at az rz sz ⊢
        clear hwz hkz hHeld a0 a1 f0 f1
        have a0 := az.cell (j := 0) rfl
        have a1 := az.cell (j := 1) rfl
        have r0 := rz.cell (j := 0) rfl
        have r1 := rz.cell (j := 1) rfl
        have f0 := rz.frozen 0
        have f1 := rz.frozen 1
        have SZ := Lib.hid sz; clear sz
        have AZ := Lib.hid az; clear az
        go_wp2_with fail
        refine bodyPost_ret (v := .tuple #[IntV 0, .int .i64 0, .int .i64 13]) ?_ rfl ?_
        · have e0 := ((rz.set 0 (.bool false)).set 1 (.string ⟨#[]⟩)).cell (j := 0) rfl
          have e1 := ((rz.set 0 (.bool false)).set 1 (.string ⟨#[]⟩)).cell (j := 1) rfl
          simp [results, Tryz.results11, go_sem, e0, e1, IntV, ineg_zero, imag_zero]
        · exact ⟨(SZ.out.setCell (p := ⟨w.heap.size + 1, 0, none⟩) (show w.heap.size ≤ w.heap.size + 1 by omega) _).setCell (p := ⟨w.heap.size + 1, 1, none⟩) (show w.heap.size ≤ w.heap.size + 1 by omega) _, rfl⟩
    · go_simp
      refine hK.out _ _ ?_ (fun hHeld => ?_)
      · ((try dsimp only); go_keep)
      clear hK K
      (try simp only [Act.put, List.setIfInBounds_toArray, List.set_cons_zero, List.set_cons_succ])
      have hbq : Below (w427).heap.size (w427) ((w427).alloc (.cells #[.bool false, .string ⟨#[]⟩] 33)) := (Below.refl _ _).alloc (Nat.le_refl _) _
      have a5 := Blk.new (w427) 33 [.bool false, .string ⟨#[]⟩]
      have g5 : (w427).heap.size = w427.heap.size := rfl
      rw [g5] at a5
      have s5 := (Sw427.out).trans (hbq.mono (Sw427.out).size)
      have r5 := (HRw427.out).below hbq (Nat.le_refl _)
      have i5 := (HSw427.out).below hbq (Nat.le_refl _)
      have y5 := (Rw427.out).keep hbq
      obtain ⟨ba, hba⟩ : ∃ ba, ba = w427.heap.size := ⟨_, rfl⟩
      have hane : w.heap.size + 1 < ba := by omega
      rw [← hba] at a5
      have e5 : (w427).alloc (.cells #[.bool false, .string ⟨#[]⟩] 33) = (w427).alloc (.cells #[.bool false, .string ⟨#[]⟩] 33) := rfl
      rw [e5] at a5 s5 r5 i5 y5 hbq
      obtain ⟨w433, hv5⟩ : ∃ w433, (w427).alloc (.cells #[.bool false, .string ⟨#[]⟩] 33) = w433 := ⟨_, rfl⟩
      rw [hv5] at hHeld a5 s5 r5 i5 y5 hbq
      have l5 : w.heap.size + 1 < w433.heap.size := y5.lt
      have al5 := a5.lt
      have q5 := (Qw427.out).keep hbq
      have Qw433 := Lib.hid q5; clear q5
      have Sw433 := Lib.hid s5; clear s5
      have HRw433 := Lib.hid r5; clear r5
      have HSw433 := Lib.hid i5; clear i5
      have Rw433 := Lib.hid y5; clear y5
      have Aw433 := Lib.hid a5; clear a5
      have hpa : (Value.pointer (some ⟨w427.heap.size, 0, none⟩)) = Value.pointer (some ⟨ba, 0, none⟩) := by rw [hba]
      (try simp only [World.size_drew])
      rw [hv5]
      (try rw [hpa])
      clear hbq hv5 hba hpa g5 e5
      refine wpAnyH_ready (rs := [5]) (by kernel_rfl) (by simp) ?_
      refine AllReadyH.cons rfl (fun K hK => ?_) AllReadyH.nil
      go_simp
      go_at_call 34
      refine (HTAB.out q _ (HRw433.out) (HSw433.out) (Qw433.out).lt ((Qw433.out).cell (j := 0) rfl)).mono ?_
      rintro e w434 ⟨hq, tv, rfl, htb⟩
      dsimp only
      have z0 := (hq.cell (p := ⟨w.heap.size, 0, none⟩) (show w.heap.size < w433.heap.size by omega)).trans hHeld.1
      have z1 := (hq.cell (p := ⟨w.heap.size, 1, none⟩) (show w.heap.size < w433.heap.size by omega)).trans hHeld.2.1
      have z2 := (hq.cell (p := ⟨w.heap.size, 2, none⟩) (show w.heap.size < w433.heap.size by omega)).trans hHeld.2.2
      refine hK.out _ _ ⟨z0, z1, z2⟩ (fun hHeld => ?_)
      clear hK K
      (try simp only [Act.put, List.setIfInBounds_toArray, List.set_cons_zero, List.set_cons_succ])
      have s5 := (Sw433.out).trans (hq.mono (Sw433.out).size)
      have r5 := (HRw433.out).below hq (Nat.le_refl _)
      have i5 := (HSw433.out).below hq (Nat.le_refl _)
      have y5 := (Rw433.out).keep hq
      have l5 : w.heap.size + 1 < w434.heap.size := y5.lt
      have Sw434 := Lib.hid s5; clear s5
      have HRw434 := Lib.hid r5; clear r5
      have HSw434 := Lib.hid i5; clear i5
      have Rw434 := Lib.hid y5; clear y5
      have t5 := htb.tab
      have Tw434 := Lib.hid t5; clear t5
      clear htb
      have a5 := (Aw433.out).keep hq
      have Aw434 := Lib.hid a5; clear a5
      clear hq z0 z1 z2
      refine wpAnyH_ready (rs := [8]) (by kernel_rfl) (by simp) ?_
      refine AllReadyH.cons rfl (fun K hK => ?_) AllReadyH.nil
      go_simp
      go_at_call 33
      refine (HRK.out _ _ (HRw434.out) Tw434.out).mono ?_
      rintro e w435 ⟨hq, rfl⟩
      dsimp only
      have z0 := (hq.cell (p := ⟨w.heap.size, 0, none⟩) (show w.heap.size < w434.heap.size by omega)).trans hHeld.1
      have z1 := (hq.cell (p := ⟨w.heap.size, 1, none⟩) (show w.heap.size < w434.heap.size by omega)).trans hHeld.2.1
      have z2 := (hq.cell (p := ⟨w.heap.size, 2, none⟩) (show w.heap.size < w434.heap.size by omega)).trans hHeld.2.2
      refine hK.out _ _ ⟨z0, z1, z2⟩ (fun hHeld => ?_)
      clear hK K
      (try simp only [Act.put, List.setIfInBounds_toArray, List.set_cons_zero, List.set_cons_succ])
      have s5 := (Sw434.out).trans (hq.mono (Sw434.out).size)
      have r5 := (HRw434.out).below hq (Nat.le_refl _)
      have i5 := (HSw434.out).below hq (Nat.le_refl _)
      have y5 := (Rw434.out).keep hq
      have l5 : w.heap.size + 1 < w435.heap.size := y5.lt
      have Sw435 := Lib.hid s5; clear s5
      have HRw435 := Lib.hid r5; clear r5
      have HSw435 := Lib.hid i5; clear i5
      have Rw435 := Lib.hid y5; clear y5
      have a5 := (Aw434.out).keep hq
      have Aw435 := Lib.hid a5; clear a5
      clear hq z0 z1 z2
      refine wpAnyH_take (i := 9) (v := ?_) rfl (by kernel_rfl) (by kernel_rfl) (by kernel_rfl) (fun _ _ _ h => h) (Or.inl ⟨by rfl, ?_⟩) (by assumption) ?_
      rotate_left
      · (intro wS hSw; (try dsimp only at hSw); go_simp; (try with_reducible rfl))
      (try simp only [Act.put, List.setIfInBounds_toArray, List.set_cons_zero, List.set_cons_succ])
      refine wpAnyH_take (i := 10) (v := ?_) rfl (by kernel_rfl) (by kernel_rfl) (by kernel_rfl) (fun _ _ _ h => h) (Or.inl ⟨by rfl, ?_⟩) (by assumption) ?_
      rotate_left
      · (intro wS hSw; (try dsimp only at hSw); go_simp; (try with_reducible rfl))
      (try simp only [Act.put, List.setIfInBounds_toArray, List.set_cons_zero, List.set_cons_succ])
      refine wpAnyH_take (i := 11) (v := ?_) rfl (by kernel_rfl) (by kernel_rfl) (by kernel_rfl) (fun _ _ _ h => h) (Or.inl ⟨by rfl, ?_⟩) (by assumption) ?_
      rotate_left
      · (intro wS hSw; (try dsimp only at hSw); go_simp; (try with_reducible rfl))
      (try simp only [Act.put, List.setIfInBounds_toArray, List.set_cons_zero, List.set_cons_succ])
      refine wpAnyH_take (i := 12) (v := ?_) rfl (by kernel_rfl) (by kernel_rfl) (by kernel_rfl) (fun _ _ _ h => h) (Or.inl ⟨by rfl, ?_⟩) (by assumption) ?_
      rotate_left
      · (intro wS hSw; (try dsimp only at hSw); go_simp; (try with_reducible rfl))
      (try simp only [Act.put, List.setIfInBounds_toArray, List.set_cons_zero, List.set_cons_succ])
      have a0 := (Aw435.out).cell (j := 0) rfl
      have a1 := (Aw435.out).cell (j := 1) rfl
      have f0 := (Aw435.out).frozen 0
      have f1 := (Aw435.out).frozen 1
      have hne : ¬ ba = w.heap.size := by omega
      refine wpAnyH_ready (rs := [14]) (by kernel_rfl) (by simp) ?_
      refine AllReadyH.cons rfl (fun K hK => ?_) AllReadyH.nil
      go_simp
      refine hK.out _ _ ?_ (fun hHeld => ?_)
      · ((try dsimp only); go_keep)
      clear hK K
      (try simp only [Act.put, List.setIfInBounds_toArray, List.set_cons_zero, List.set_cons_succ])
      refine wpAnyH_take (i := 15) (v := ?_) rfl (by kernel_rfl) (by kernel_rfl) (by kernel_rfl) (fun _ _ _ h => h) (Or.inl ⟨by rfl, ?_⟩) (by assumption) ?_
      rotate_left
      · (intro wS hSw; (try dsimp only at hSw); go_simp; (try with_reducible rfl))
      (try simp only [Act.put, List.setIfInBounds_toArray, List.set_cons_zero, List.set_cons_succ])
      refine wpAnyH_take (i := 16) (v := ?_) rfl (by kernel_rfl) (by kernel_rfl) (by kernel_rfl) (fun _ _ _ h => h) (Or.inl ⟨by rfl, ?_⟩) (by assumption) ?_
      rotate_left
      · (intro wS hSw; (try dsimp only at hSw); go_simp; (try with_reducible rfl))
      (try simp only [Act.put, List.setIfInBounds_toArray, List.set_cons_zero, List.set_cons_succ])
      refine wpAnyH_done (by kernel_rfl) ?_ _
      (try simp only [List.getElem_toArray, List.getElem_cons_zero, List.getElem_cons_succ, Act.put, List.setIfInBounds_toArray, List.set_cons_zero, List.set_cons_succ])
      have az := ((Aw435.out).set 0 (.bool (ineg a))).set 1 (.string (imag a))
      have hkz : ∀ b, b ≠ ba → ((w435.setCell ⟨ba, 0, none⟩ (.bool (ineg a))).setCell ⟨ba, 1, none⟩ (.string (imag a))).heap[b]? = w435.heap[b]? := fun b h => (Below.heap_setCell _ _ _ b h).trans (Below.heap_setCell _ _ _ b h)
      have rz := (Rw435.out).of_block (hkz _ (by omega))
      have sz := ((Sw435.out).setCell (p := ⟨ba, 0, none⟩) (show w.heap.size ≤ ba by omega) (.bool (ineg a))).setCell (p := ⟨ba, 1, none⟩) (show w.heap.size ≤ ba by omega) (.string (imag a))
      obtain ⟨wz, hwz⟩ : ∃ wz, (w435.setCell ⟨ba, 0, none⟩ (.bool (ineg a))).setCell ⟨ba, 1, none⟩ (.string (imag a)) = wz := ⟨_, rfl⟩
      rw [hwz] at az rz sz ⊢
      clear hwz hkz hHeld a0 a1 f0 f1
      have a0 := az.cell (j := 0) rfl
      have a1 := az.cell (j := 1) rfl
      have r0 := rz.cell (j := 0) rfl
      have r1 := rz.cell (j := 1) rfl
      have f0 := rz.frozen 0
      have f1 := rz.frozen 1
      have SZ := Lib.hid sz; clear sz
      have AZ := Lib.hid az; clear az
      go_wp2_with fail
      refine bodyPost_ret (v := .tuple #[IntV 0, .int .i64 0, .int .i64 13]) ?_ rfl ?_
      · have e0 := ((rz.set 0 (.bool false)).set 1 (.string ⟨#[]⟩)).cell (j := 0) rfl
        have e1 := ((rz.set 0 (.bool false)).set 1 (.string ⟨#[]⟩)).cell (j := 1) rfl
        simp [results, Tryz.results11, go_sem, e0, e1, IntV, ineg_zero, imag_zero]
      · exact ⟨(SZ.out.setCell (p := ⟨w.heap.size + 1, 0, none⟩) (show w.heap.size ≤ w.heap.size + 1 by omega) _).setCell (p := ⟨w.heap.size + 1, 1, none⟩) (show w.heap.size ≤ w.heap.size + 1 by omega) _, rfl⟩
  · go_simp
    refine hK.out _ _ ?_ (fun hHeld => ?_)
    · ((try dsimp only); go_keep)
    clear hK K
    (try simp only [Act.put, List.setIfInBounds_toArray, List.set_cons_zero, List.set_cons_succ])
    have hbq : Below (w3.drew).heap.size (w3.drew) ((w3.drew).alloc (.cells #[.bool false, .string ⟨#[]⟩] 33)) := (Below.refl _ _).alloc (Nat.le_refl _) _
    have a5 := Blk.new (w3.drew) 33 [.bool false, .string ⟨#[]⟩]
    have g5 : (w3.drew).heap.size = w3.heap.size := rfl
    rw [g5] at a5
    have s5 := (S3.out.drew).trans (hbq.mono (S3.out.drew).size)
    have r5 := (HR3.out.drew).below hbq (Nat.le_refl _)
    have i5 := (HS3.out.drew).below hbq (Nat.le_refl _)
    have y5 := (E1.out.drew).keep hbq
    obtain ⟨ba, hba⟩ : ∃ ba, ba = w3.heap.size := ⟨_, rfl⟩
    have hane : w.heap.size + 1 < ba := by omega
    rw [← hba] at a5
    have e5 : (w3.drew).alloc (.cells #[.bool false, .string ⟨#[]⟩] 33) = (w3.alloc (.cells #[.bool false, .string ⟨#[]⟩] 33)).drew := rfl
    rw [e5] at a5 s5 r5 i5 y5 hbq
    obtain ⟨w436, hv5⟩ : ∃ w436, (w3.alloc (.cells #[.bool false, .string ⟨#[]⟩] 33)).drew = w436 := ⟨_, rfl⟩
    rw [hv5] at hHeld a5 s5 r5 i5 y5 hbq
    have l5 : w.heap.size + 1 < w436.heap.size := y5.lt
    have al5 := a5.lt
    have Sw436 := Lib.hid s5; clear s5
    have HRw436 := Lib.hid r5; clear r5
    have HSw436 := Lib.hid i5; clear i5
    have Rw436 := Lib.hid y5; clear y5
    have Aw436 := Lib.hid a5; clear a5
    have hpa : (Value.pointer (some ⟨w3.heap.size, 0, none⟩)) = Value.pointer (some ⟨ba, 0, none⟩) := by rw [hba]
    (try simp only [World.size_drew])
    rw [hv5]
    (try rw [hpa])
    clear hbq hv5 hba hpa g5 e5
    refine wpAnyH_ready (rs := [3]) (by kernel_rfl) (by simp) ?_
    refine AllReadyH.cons rfl (fun K hK => ?_) AllReadyH.nil
    go_simp
    go_at_call 35
    refine (in_blk _ _ _ _).mono ?_
    rintro e w437 ⟨hq, q, rfl, hqb⟩
    dsimp only
    have z0 := (hq.cell (p := ⟨w.heap.size, 0, none⟩) (show w.heap.size < w436.heap.size by omega)).trans hHeld.1
    have z1 := (hq.cell (p := ⟨w.heap.size, 1, none⟩) (show w.heap.size < w436.heap.size by omega)).trans hHeld.2.1
    have z2 := (hq.cell (p := ⟨w.heap.size, 2, none⟩) (show w.heap.size < w436.heap.size by omega)).trans hHeld.2.2
    refine hK.out _ _ ⟨z0, z1, z2⟩ (fun hHeld => ?_)
    clear hK K
    (try simp only [Act.put, List.setIfInBounds_toArray, List.set_cons_zero, List.set_cons_succ])
    have s5 := (Sw436.out).trans (hq.mono (Sw436.out).size)
    have r5 := (HRw436.out).below hq (Nat.le_refl _)
    have i5 := (HSw436.out).below hq (Nat.le_refl _)
    have y5 := (Rw436.out).keep hq
    have l5 : w.heap.size + 1 < w437.heap.size := y5.lt
    have Sw437 := Lib.hid s5; clear s5
    have HRw437 := Lib.hid r5; clear r5
    have HSw437 := Lib.hid i5; clear i5
    have Rw437 := Lib.hid y5; clear y5
    have Qw437 := Lib.hid hqb; clear hqb
    have a5 := (Aw436.out).keep hq
    have Aw437 := Lib.hid a5; clear a5
    clear hq z0 z1 z2
    refine wpAnyH_ready (rs := [5]) (by kernel_rfl) (by simp) ?_
    refine AllReadyH.cons rfl (fun K hK => ?_) AllReadyH.nil
    go_simp
    go_at_call 34
    refine (HTAB.out q _ (HRw437.out) (HSw437.out) (Qw437.out).lt ((Qw437.out).cell (j := 0) rfl)).mono ?_
    rintro e w438 ⟨hq, tv, rfl, htb⟩
    dsimp only
    have z0 := (hq.cell (p := ⟨w.heap.size, 0, none⟩) (show w.heap.size < w437.heap.size by omega)).trans hHeld.1
    have z1 := (hq.cell (p := ⟨w.heap.size, 1, none⟩) (show w.heap.size < w437.heap.size by omega)).trans hHeld.2.1
    have z2 := (hq.cell (p := ⟨w.heap.size, 2, none⟩) (show w.heap.size < w437.heap.size by omega)).trans hHeld.2.2
    refine hK.out _ _ ⟨z0, z1, z2⟩ (fun hHeld => ?_)
    clear hK K
    (try simp only [Act.put, List.setIfInBounds_toArray, List.set_cons_zero, List.set_cons_succ])
    have s5 := (Sw437.out).trans (hq.mono (Sw437.out).size)
    have r5 := (HRw437.out).below hq (Nat.le_refl _)
    have i5 := (HSw437.out).below hq (Nat.le_refl _)
    have y5 := (Rw437.out).keep hq
    have l5 : w.heap.size + 1 < w438.heap.size := y5.lt
    have Sw438 := Lib.hid s5; clear s5
    have HRw438 := Lib.hid r5; clear r5
    have HSw438 := Lib.hid i5; clear i5
    have Rw438 := Lib.hid y5; clear y5
    have t5 := htb.tab
    have Tw438 := Lib.hid t5; clear t5
    clear htb
    have a5 := (Aw437.out).keep hq
    have Aw438 := Lib.hid a5; clear a5
    clear hq z0 z1 z2
    refine wpAnyH_ready (rs := [8]) (by kernel_rfl) (by simp) ?_
    refine AllReadyH.cons rfl (fun K hK => ?_) AllReadyH.nil
    go_simp
    go_at_call 33
    refine (HRK.out _ _ (HRw438.out) Tw438.out).mono ?_
    rintro e w439 ⟨hq, rfl⟩
    dsimp only
    have z0 := (hq.cell (p := ⟨w.heap.size, 0, none⟩) (show w.heap.size < w438.heap.size by omega)).trans hHeld.1
    have z1 := (hq.cell (p := ⟨w.heap.size, 1, none⟩) (show w.heap.size < w438.heap.size by omega)).trans hHeld.2.1
    have z2 := (hq.cell (p := ⟨w.heap.size, 2, none⟩) (show w.heap.size < w438.heap.size by omega)).trans hHeld.2.2
    refine hK.out _ _ ⟨z0, z1, z2⟩ (fun hHeld => ?_)
    clear hK K
    (try simp only [Act.put, List.setIfInBounds_toArray, List.set_cons_zero, List.set_cons_succ])
    have s5 := (Sw438.out).trans (hq.mono (Sw438.out).size)
    have r5 := (HRw438.out).below hq (Nat.le_refl _)
    have i5 := (HSw438.out).below hq (Nat.le_refl _)
    have y5 := (Rw438.out).keep hq
    have l5 : w.heap.size + 1 < w439.heap.size := y5.lt
    have Sw439 := Lib.hid s5; clear s5
    have HRw439 := Lib.hid r5; clear r5
    have HSw439 := Lib.hid i5; clear i5
    have Rw439 := Lib.hid y5; clear y5
    have a5 := (Aw438.out).keep hq
    have Aw439 := Lib.hid a5; clear a5
    clear hq z0 z1 z2
    refine wpAnyH_take (i := 9) (v := ?_) rfl (by kernel_rfl) (by kernel_rfl) (by kernel_rfl) (fun _ _ _ h => h) (Or.inl ⟨by rfl, ?_⟩) (by assumption) ?_
    rotate_left
    · (intro wS hSw; (try dsimp only at hSw); go_simp; (try with_reducible rfl))
    (try simp only [Act.put, List.setIfInBounds_toArray, List.set_cons_zero, List.set_cons_succ])
    refine wpAnyH_take (i := 10) (v := ?_) rfl (by kernel_rfl) (by kernel_rfl) (by kernel_rfl) (fun _ _ _ h => h) (Or.inl ⟨by rfl, ?_⟩) (by assumption) ?_
    rotate_left
    · (intro wS hSw; (try dsimp only at hSw); go_simp; (try with_reducible rfl))
    (try simp only [Act.put, List.setIfInBounds_toArray, List.set_cons_zero, List.set_cons_succ])
    refine wpAnyH_take (i := 11) (v := ?_) rfl (by kernel_rfl) (by kernel_rfl) (by kernel_rfl) (fun _ _ _ h => h) (Or.inl ⟨by rfl, ?_⟩) (by assumption) ?_
    rotate_left
    · (intro wS hSw; (try dsimp only at hSw); go_simp; (try with_reducible rfl))
    (try simp only [Act.put, List.setIfInBounds_toArray, List.set_cons_zero, List.set_cons_succ])
    refine wpAnyH_take (i := 12) (v := ?_) rfl (by kernel_rfl) (by kernel_rfl) (by kernel_rfl) (fun _ _ _ h => h) (Or.inl ⟨by rfl, ?_⟩) (by assumption) ?_
    rotate_left
    · (intro wS hSw; (try dsimp only at hSw); go_simp; (try with_reducible rfl))
    (try simp only [Act.put, List.setIfInBounds_toArray, List.set_cons_zero, List.set_cons_succ])
    have a0 := (Aw439.out).cell (j := 0) rfl
    have a1 := (Aw439.out).cell (j := 1) rfl
    have f0 := (Aw439.out).frozen 0
    have f1 := (Aw439.out).frozen 1
    have hne : ¬ ba = w.heap.size := by omega
    refine wpAnyH_ready (rs := [14]) (by kernel_rfl) (by simp) ?_
    refine AllReadyH.cons rfl (fun K hK => ?_) AllReadyH.nil
    go_simp
    refine hK.out _ _ ?_ (fun hHeld => ?_)
    · ((try dsimp only); go_keep)
    clear hK K
    (try simp only [Act.put, List.setIfInBounds_toArray, List.set_cons_zero, List.set_cons_succ])
    refine wpAnyH_take (i := 15) (v := ?_) rfl (by kernel_rfl) (by kernel_rfl) (by kernel_rfl) (fun _ _ _ h => h) (Or.inl ⟨by rfl, ?_⟩) (by assumption) ?_
    rotate_left
    · (intro wS hSw; (try dsimp only at hSw); go_simp; (try with_reducible rfl))
    (try simp only [Act.put, List.setIfInBounds_toArray, List.set_cons_zero, List.set_cons_succ])
    refine wpAnyH_take (i := 16) (v := ?_) rfl (by kernel_rfl) (by kernel_rfl) (by kernel_rfl) (fun _ _ _ h => h) (Or.inl ⟨by rfl, ?_⟩) (by assumption) ?_
    rotate_left
    · (intro wS hSw; (try dsimp only at hSw); go_simp; (try with_reducible rfl))
    (try simp only [Act.put, List.setIfInBounds_toArray, List.set_cons_zero, List.set_cons_succ])
    refine wpAnyH_done (by kernel_rfl) ?_ _
    (try simp only [List.getElem_toArray, List.getElem_cons_zero, List.getElem_cons_succ, Act.put, List.setIfInBounds_toArray, List.set_cons_zero, List.set_cons_succ])
    have az := ((Aw439.out).set 0 (.bool (ineg a))).set 1 (.string (imag a))
    have hkz : ∀ b, b ≠ ba → ((w439.setCell ⟨ba, 0, none⟩ (.bool (ineg a))).setCell ⟨ba, 1, none⟩ (.string (imag a))).heap[b]? = w439.heap[b]? := fun b h => (Below.heap_setCell _ _ _ b h).trans (Below.heap_setCell _ _ _ b h)
    have rz := (Rw439.out).of_block (hkz _ (by omega))
    have sz := ((Sw439.out).setCell (p := ⟨ba, 0, none⟩) (show w.heap.size ≤ ba by omega) (.bool (ineg a))).setCell (p := ⟨ba, 1, none⟩) (show w.heap.size ≤ ba by omega) (.string (imag a))
    obtain ⟨wz, hwz⟩ : ∃ wz, (w439.setCell ⟨ba, 0, none⟩ (.bool (ineg a))).setCell ⟨ba, 1, none⟩ (.string (imag a)) = wz := ⟨_, rfl⟩
    rw [hwz] at az rz sz ⊢
    clear hwz hkz hHeld a0 a1 f0 f1
    have a0 := az.cell (j := 0) rfl
    have a1 := az.cell (j := 1) rfl
    have r0 := rz.cell (j := 0) rfl
    have r1 := rz.cell (j := 1) rfl
    have f0 := rz.frozen 0
    have f1 := rz.frozen 1
    have SZ := Lib.hid sz; clear sz
    have AZ := Lib.hid az; clear az
    go_wp2_with fail
    refine bodyPost_ret (v := .tuple #[IntV 0, .int .i64 0, .int .i64 13]) ?_ rfl ?_
    · have e0 := ((rz.set 0 (.bool false)).set 1 (.string ⟨#[]⟩)).cell (j := 0) rfl
      have e1 := ((rz.set 0 (.bool false)).set 1 (.string ⟨#[]⟩)).cell (j := 1) rfl
      simp [results, Tryz.results11, go_sem, e0, e1, IntV, ineg_zero, imag_zero]
    · exact ⟨(SZ.out.setCell (p := ⟨w.heap.size + 1, 0, none⟩) (show w.heap.size ≤ w.heap.size + 1 by omega) _).setCell (p := ⟨w.heap.size + 1, 1, none⟩) (show w.heap.size ≤ w.heap.size + 1 by omega) _, rfl⟩
end Go.Proofs.YtalipfnbpnkgnaaGreat

/- enumerative.Decode at valid graphs, sets, states and words. -/
import Derived.Test.YtalipfnbpnkgnaaGreatPart12
import Derived.Test.YtalipfnbpnkgnaaGreatERank
namespace Go.Proofs.YtalipfnbpnkgnaaGreat
open Go.RowKit

/-- enumerative.in, its cell told as a block. -/
def InBlk (w : World) (v : Value) (e : Ending) (w' : World) : Prop :=
  Below w.heap.size w w' ∧ ∃ q : Nat, e = .returned (.func (.func 71) #[] #[.pointer (some ⟨q, 0, none⟩)]) ∧ Blk w' q 25 [v]
set_option maxRecDepth 100000 in
set_option maxHeartbeats 3200000 in
theorem in_blk (a : Option Addr) (n c : Nat) (w : World) :
    Calls Tryz.prog 35 #[.slice a n c] w (InBlk w (.slice a n c)) := by
  go_enter Tryz.func35, Tryz.ntmps35
  go_wp2_with fail
  go_ret
  exact ⟨(Below.refl _ _).alloc (Nat.le_refl _) _, w.heap.size, rfl, Blk.new w 25 [.slice a n c]⟩
set_option maxRecDepth 100000 in
set_option maxHeartbeats 3200000 in
theorem edec_some (L : Int) (S s0 : Nat) (es : List E3) (set : List Int) (v vs : Value) (wd : ByteArray) (w : World) (hr : Row w v es.length (ce es)) (hok : okEs es) (hrs : Row w vs set.length (ci set)) (hE : eck L (S : Int) es = 0) (hset : SomeS S set) (hs0 : s0 < S) (hw : ckw L wd.data.toList = 0) (hm : wd.size ≤ 4096) (a t : Int) (hR : rk es (pin set) wd.data.toList (s0 : Int) 0 = some (a, t)) (hP : pin set t = true) :
    Calls Tryz.prog 11 #[.agg #[.int .i64 L, .int .i64 (S : Int), v], vs, .int .i64 (s0 : Int), .int .i64 (wd.size : Int), .string wd] w (Ret w (.tuple #[IntV a, .int .i64 t, .int .i64 0])) := by
  obtain ⟨va, vc, rfl, hle⟩ := hr.slice
  obtain ⟨sa, sc, rfl, hsle⟩ := hrs.slice
  obtain ⟨mm, hmm⟩ : ∃ mm, mm = es.length := ⟨_, rfl⟩
  obtain ⟨ms, hms⟩ : ∃ ms, ms = set.length := ⟨_, rfl⟩
  have hlen := asc_len hset
  have hz := eck_zero hE
  have hca := chk_all hz.1
  have s0' := (Below.refl w.heap.size w).alloc (Nat.le_refl _) (.cells #[.int .i64 L, .int .i64 (S : Int), .slice va es.length vc] 24)
  have s0'' := s0'.alloc (by simp) (.cells #[.bool false, .string ⟨#[]⟩] 33)
  have b0 := (Blk.new w 24 [.int .i64 L, .int .i64 (S : Int), .slice va es.length vc]).alloc (.cells #[.bool false, .string ⟨#[]⟩] 33)
  have b1 := Blk.new (w.alloc (.cells #[.int .i64 L, .int .i64 (S : Int), .slice va es.length vc] 24)) 33 [.bool false, .string ⟨#[]⟩]
  simp only [World.size_alloc] at b1
  have hr0 := hr.below s0'' (Nat.le_refl _)
  have hrs0 := hrs.below s0'' (Nat.le_refl _)
  have hal := checkall_any L S (s0 : Int) (wd.size : Int) es _ _ set _ hr0 hok hrs0 (by omega)
  rw [eall_ok hE hset hs0 hm] at hal
  have hkw := fun w' => eckw_any L (S : Int) va es.length vc wd w' (by omega)
  rw [hw] at hkw
  have htab := fun q w' (h : Row w' (.slice va es.length vc) es.length (ce es)) (h2 : Row w' (.slice sa set.length sc) set.length (ci set)) => tin_any L S wd.size es (.slice va es.length vc) (.slice sa set.length sc) set q w' h h2 (by omega) hm (by omega) (chk_inS hz.1) hset
  have hrank := fun w' tv (h : Row w' (.slice va es.length vc) es.length (ce es)) (ht : Tab w' tv (tabL es S (pin set) wd.size)) => rank_any L S s0 es (.slice va es.length vc) tv wd (pin set) w' h ht (by omega) (by omega) (chk_inS hz.1) (chk_lab hz.1 hz.2.1) hs0 hm
  simp only [RkRet, hR, hP] at hrank
  rw [← hmm] at s0'' b0 b1 hr0 hrs0 hal hle hkw htab hrank
  rw [← hms] at hrs0 hal hsle htab hlen
  have HMM := Lib.hid hmm; clear hmm
  have HMS := Lib.hid hms; clear hms
  have HAL := Lib.hid hal; clear hal
  have HKW := Lib.hid hkw; clear hkw
  have HTAB := Lib.hid htab; clear htab
  have HRK := Lib.hid hrank; clear hrank
  have S0 := Lib.hid s0''; clear s0''
  have B0 := Lib.hid b0; clear b0
  have B1 := Lib.hid b1; clear b1
  have HR := Lib.hid hr0; clear hr0
  have HRS := Lib.hid hrs0; clear hrs0
  clear hr hrs hok hE hw hz hca s0' hset
  go_enter Tryz.func11, Tryz.ntmps11
  rw [← HMM.out, ← HMS.out]
  go_wp2_with fail
  go_at_call 31
  refine HAL.out.mono ?_
  rintro e w1 ⟨hq1, rfl⟩
  have s1 := S0.out.trans (hq1.mono S0.out.size)
  have hr1 := HR.out.below hq1 (Nat.le_refl _)
  have hrs1 := HRS.out.below hq1 (Nat.le_refl _)
  have tk := B0.out.keep hq1; have x0 := tk.cell (j := 0) rfl; have x1 := tk.cell (j := 1) rfl; have x2 := tk.cell (j := 2) rfl; have D0 := Lib.hid tk; clear tk
  have y0 := B1.out.keep hq1
  have D1 := Lib.hid y0; clear y0
  have S2 := Lib.hid s1; clear s1
  have HR2 := Lib.hid hr1; clear hr1
  have HS2 := Lib.hid hrs1; clear hrs1
  clear hq1
  go_wp2_with fail
  go_at_call 32
  refine (HKW.out _).mono ?_
  rintro e w3 ⟨hq1, rfl⟩
  have s1 := S2.out.trans (hq1.mono S2.out.size)
  have hr1 := HR2.out.below hq1 (Nat.le_refl _)
  have hrs1 := HS2.out.below hq1 (Nat.le_refl _)
  clear x0 x1 x2
  have tk := D0.out.keep hq1; have x0 := tk.cell (j := 0) rfl; have x1 := tk.cell (j := 1) rfl; have x2 := tk.cell (j := 2) rfl; have E0 := Lib.hid tk; clear tk
  have y0 := D1.out.keep hq1
  have E1 := Lib.hid y0; clear y0
  have S3 := Lib.hid s1; clear s1
  have HR3 := Lib.hid hr1; clear hr1
  have HS3 := Lib.hid hrs1; clear hrs1
  clear hq1
  have hw3 : w.heap.size + 1 < w3.heap.size := E1.out.lt
  go_wp2_with fail
  refine wp_region_held_drew (S := fun w' => w'.cell? ⟨w.heap.size, 0, none⟩ = some (.int .i64 L) ∧ w'.cell? ⟨w.heap.size, 1, none⟩ = some (.int .i64 (S : Int)) ∧ w'.cell? ⟨w.heap.size, 2, none⟩ = some (.slice va mm vc)) (by kernel_rfl) ?_ (fun hHeld => ?_)
  · go_keep
  refine wpAnyH_take (i := 0) (v := ?_) rfl (by kernel_rfl) (by kernel_rfl) (by kernel_rfl) (fun _ _ _ h => h) (Or.inl ⟨by rfl, ?_⟩) (by assumption) ?_
  rotate_left
  · (intro wS hSw; (try dsimp only at hSw); go_simp; (try with_reducible rfl))
  (try simp only [Act.put, List.setIfInBounds_toArray, List.set_cons_zero, List.set_cons_succ])
  refine wpAnyH_take (i := 1) (v := ?_) rfl (by kernel_rfl) (by kernel_rfl) (by kernel_rfl) (fun _ _ _ h => h) (Or.inl ⟨by rfl, ?_⟩) (by assumption) ?_
  rotate_left
  · (intro wS hSw; (try dsimp only at hSw); go_simp; (try with_reducible rfl))
  (try simp only [Act.put, List.setIfInBounds_toArray, List.set_cons_zero, List.set_cons_succ])
  refine wpAnyH_take (i := 2) (v := ?_) rfl (by kernel_rfl) (by kernel_rfl) (by kernel_rfl) (fun _ _ _ h => h) (Or.inl ⟨by rfl, ?_⟩) (by assumption) ?_
  rotate_left
  · (intro wS hSw; (try dsimp only at hSw); go_simp; (try with_reducible rfl))
  (try simp only [Act.put, List.setIfInBounds_toArray, List.set_cons_zero, List.set_cons_succ])
  refine wpAnyH_take (i := 4) (v := ?_) rfl (by kernel_rfl) (by kernel_rfl) (by kernel_rfl) (fun _ _ _ h => h) (Or.inl ⟨by rfl, ?_⟩) (by assumption) ?_
  rotate_left
  · (intro wS hSw; (try dsimp only at hSw); go_simp; (try with_reducible rfl))
  (try simp only [Act.put, List.setIfInBounds_toArray, List.set_cons_zero, List.set_cons_succ])
  refine wpAnyH_take (i := 6) (v := ?_) rfl (by kernel_rfl) (by kernel_rfl) (by kernel_rfl) (fun _ _ _ h => h) (Or.inl ⟨by rfl, ?_⟩) (by assumption) ?_
  rotate_left
  · (intro wS hSw; (try dsimp only at hSw); go_simp; (try with_reducible rfl))
  (try simp only [Act.put, List.setIfInBounds_toArray, List.set_cons_zero, List.set_cons_succ])
  refine wpAnyH_take (i := 7) (v := ?_) rfl (by kernel_rfl) (by kernel_rfl) (by kernel_rfl) (fun _ _ _ h => h) (Or.inl ⟨by rfl, ?_⟩) (by assumption) ?_
  rotate_left
  · (intro wS hSw; (try dsimp only at hSw); go_simp; (try with_reducible rfl))
  (try simp only [Act.put, List.setIfInBounds_toArray, List.set_cons_zero, List.set_cons_succ])
  refine wpAnyH_ready (rs := [3, 13]) (by kernel_rfl) (by simp) ?_
  refine AllReadyH.cons rfl (fun K hK => ?_) (AllReadyH.cons rfl (fun K hK => ?_) AllReadyH.nil)
  · go_simp
    go_at_call 35
    refine (in_blk _ _ _ _).mono ?_
    rintro e w41 ⟨hq, q, rfl, hqb⟩
    dsimp only
    have z0 := (hq.cell (p := ⟨w.heap.size, 0, none⟩) (show w.heap.size < w3.heap.size by omega)).trans hHeld.1
    have z1 := (hq.cell (p := ⟨w.heap.size, 1, none⟩) (show w.heap.size < w3.heap.size by omega)).trans hHeld.2.1
    have z2 := (hq.cell (p := ⟨w.heap.size, 2, none⟩) (show w.heap.size < w3.heap.size by omega)).trans hHeld.2.2
    refine hK.out _ _ ⟨z0, z1, z2⟩ (fun hHeld => ?_)
    clear hK K
    (try simp only [Act.put, List.setIfInBounds_toArray, List.set_cons_zero, List.set_cons_succ])
    have s5 := (S3.out.drew).trans (hq.mono (S3.out.drew).size)
    have r5 := (HR3.out.drew).below hq (Nat.le_refl _)
    have i5 := (HS3.out.drew).below hq (Nat.le_refl _)
    have y5 := (E1.out.drew).keep hq
    have l5 : w.heap.size + 1 < w41.heap.size := y5.lt
    have Sw41 := Lib.hid s5; clear s5
    have HRw41 := Lib.hid r5; clear r5
    have HSw41 := Lib.hid i5; clear i5
    have Rw41 := Lib.hid y5; clear y5
    have Qw41 := Lib.hid hqb; clear hqb
    clear hq z0 z1 z2
    refine wpAnyH_ready (rs := [5, 13]) (by kernel_rfl) (by simp) ?_
    refine AllReadyH.cons rfl (fun K hK => ?_) (AllReadyH.cons rfl (fun K hK => ?_) AllReadyH.nil)
    · go_simp
      go_at_call 34
      refine (HTAB.out q _ (HRw41.out) (HSw41.out) (Qw41.out).lt ((Qw41.out).cell (j := 0) rfl)).mono ?_
      rintro e w42 ⟨hq, tv, rfl, htb⟩
      dsimp only
      have z0 := (hq.cell (p := ⟨w.heap.size, 0, none⟩) (show w.heap.size < w41.heap.size by omega)).trans hHeld.1
      have z1 := (hq.cell (p := ⟨w.heap.size, 1, none⟩) (show w.heap.size < w41.heap.size by omega)).trans hHeld.2.1
      have z2 := (hq.cell (p := ⟨w.heap.size, 2, none⟩) (show w.heap.size < w41.heap.size by omega)).trans hHeld.2.2
      refine hK.out _ _ ⟨z0, z1, z2⟩ (fun hHeld => ?_)
      clear hK K
      (try simp only [Act.put, List.setIfInBounds_toArray, List.set_cons_zero, List.set_cons_succ])
      have s5 := (Sw41.out).trans (hq.mono (Sw41.out).size)
      have r5 := (HRw41.out).below hq (Nat.le_refl _)
      have i5 := (HSw41.out).below hq (Nat.le_refl _)
      have y5 := (Rw41.out).keep hq
      have l5 : w.heap.size + 1 < w42.heap.size := y5.lt
      have Sw42 := Lib.hid s5; clear s5
      have HRw42 := Lib.hid r5; clear r5
      have HSw42 := Lib.hid i5; clear i5
      have Rw42 := Lib.hid y5; clear y5
      have t5 := htb.tab
      have Tw42 := Lib.hid t5; clear t5
      clear htb
      clear hq z0 z1 z2
      refine wpAnyH_ready (rs := [8, 13]) (by kernel_rfl) (by simp) ?_
      refine AllReadyH.cons rfl (fun K hK => ?_) (AllReadyH.cons rfl (fun K hK => ?_) AllReadyH.nil)
      · go_simp
        go_at_call 33
        refine (HRK.out _ _ (HRw42.out) Tw42.out).mono ?_
        rintro e w43 ⟨hq, rfl⟩
        dsimp only
        have z0 := (hq.cell (p := ⟨w.heap.size, 0, none⟩) (show w.heap.size < w42.heap.size by omega)).trans hHeld.1
        have z1 := (hq.cell (p := ⟨w.heap.size, 1, none⟩) (show w.heap.size < w42.heap.size by omega)).trans hHeld.2.1
        have z2 := (hq.cell (p := ⟨w.heap.size, 2, none⟩) (show w.heap.size < w42.heap.size by omega)).trans hHeld.2.2
        refine hK.out _ _ ⟨z0, z1, z2⟩ (fun hHeld => ?_)
        clear hK K
        (try simp only [Act.put, List.setIfInBounds_toArray, List.set_cons_zero, List.set_cons_succ])
        have s5 := (Sw42.out).trans (hq.mono (Sw42.out).size)
        have r5 := (HRw42.out).below hq (Nat.le_refl _)
        have i5 := (HSw42.out).below hq (Nat.le_refl _)
        have y5 := (Rw42.out).keep hq
        have l5 : w.heap.size + 1 < w43.heap.size := y5.lt
        have Sw43 := Lib.hid s5; clear s5
        have HRw43 := Lib.hid r5; clear r5
        have HSw43 := Lib.hid i5; clear i5
        have Rw43 := Lib.hid y5; clear y5
        clear hq z0 z1 z2
        refine wpAnyH_take (i := 9) (v := ?_) rfl (by kernel_rfl) (by kernel_rfl) (by kernel_rfl) (fun _ _ _ h => h) (Or.inl ⟨by rfl, ?_⟩) (by assumption) ?_
        rotate_left
        · (intro wS hSw; (try dsimp only at hSw); go_simp; (try with_reducible rfl))
        (try simp only [Act.put, List.setIfInBounds_toArray, List.set_cons_zero, List.set_cons_succ])
        refine wpAnyH_take (i := 10) (v := ?_) rfl (by kernel_rfl) (by kernel_rfl) (by kernel_rfl) (fun _ _ _ h => h) (Or.inl ⟨by rfl, ?_⟩) (by assumption) ?_
        rotate_left
        · (intro wS hSw; (try dsimp only at hSw); go_simp; (try with_reducible rfl))
        (try simp only [Act.put, List.setIfInBounds_toArray, List.set_cons_zero, List.set_cons_succ])
        refine wpAnyH_take (i := 11) (v := ?_) rfl (by kernel_rfl) (by kernel_rfl) (by kernel_rfl) (fun _ _ _ h => h) (Or.inl ⟨by rfl, ?_⟩) (by assumption) ?_
        rotate_left
        · (intro wS hSw; (try dsimp only at hSw); go_simp; (try with_reducible rfl))
        (try simp only [Act.put, List.setIfInBounds_toArray, List.set_cons_zero, List.set_cons_succ])
        refine wpAnyH_take (i := 12) (v := ?_) rfl (by kernel_rfl) (by kernel_rfl) (by kernel_rfl) (fun _ _ _ h => h) (Or.inl ⟨by rfl, ?_⟩) (by assumption) ?_
        rotate_left
        · (intro wS hSw; (try dsimp only at hSw); go_simp; (try with_reducible rfl))
        (try simp only [Act.put, List.setIfInBounds_toArray, List.set_cons_zero, List.set_cons_succ])
        refine wpAnyH_ready (rs := [13]) (by kernel_rfl) (by simp) ?_
        refine AllReadyH.cons rfl (fun K hK => ?_) AllReadyH.nil
        go_simp
        refine hK.out _ _ ?_ (fun hHeld => ?_)
        · ((try dsimp only); go_keep)
        clear hK K
        (try simp only [Act.put, List.setIfInBounds_toArray, List.set_cons_zero, List.set_cons_succ])
        have hbq : Below (w43).heap.size (w43) ((w43).alloc (.cells #[.bool false, .string ⟨#[]⟩] 33)) := (Below.refl _ _).alloc (Nat.le_refl _) _
        have a5 := Blk.new (w43) 33 [.bool false, .string ⟨#[]⟩]
        have g5 : (w43).heap.size = w43.heap.size := rfl
        rw [g5] at a5
        have s5 := (Sw43.out).trans (hbq.mono (Sw43.out).size)
        have r5 := (HRw43.out).below hbq (Nat.le_refl _)
        have i5 := (HSw43.out).below hbq (Nat.le_refl _)
        have y5 := (Rw43.out).keep hbq
        obtain ⟨ba, hba⟩ : ∃ ba, ba = w43.heap.size := ⟨_, rfl⟩
        have hane : w.heap.size + 1 < ba := by omega
        rw [← hba] at a5
        have e5 : (w43).alloc (.cells #[.bool false, .string ⟨#[]⟩] 33) = (w43).alloc (.cells #[.bool false, .string ⟨#[]⟩] 33) := rfl
        rw [e5] at a5 s5 r5 i5 y5 hbq
        obtain ⟨w44, hv5⟩ : ∃ w44, (w43).alloc (.cells #[.bool false, .string ⟨#[]⟩] 33) = w44 := ⟨_, rfl⟩
        rw [hv5] at hHeld a5 s5 r5 i5 y5 hbq
        have l5 : w.heap.size + 1 < w44.heap.size := y5.lt
        have al5 := a5.lt
        have Sw44 := Lib.hid s5; clear s5
        have HRw44 := Lib.hid r5; clear r5
        have HSw44 := Lib.hid i5; clear i5
        have Rw44 := Lib.hid y5; clear y5
        have Aw44 := Lib.hid a5; clear a5
        have hpa : (Value.pointer (some ⟨w43.heap.size, 0, none⟩)) = Value.pointer (some ⟨ba, 0, none⟩) := by rw [hba]
        (try simp only [World.size_drew])
        rw [hv5]
        (try rw [hpa])
        clear hbq hv5 hba hpa g5 e5
        have a0 := (Aw44.out).cell (j := 0) rfl
        have a1 := (Aw44.out).cell (j := 1) rfl
        have f0 := (Aw44.out).frozen 0
        have f1 := (Aw44.out).frozen 1
        have hne : ¬ ba = w.heap.size := by omega
        refine wpAnyH_ready (rs := [14]) (by kernel_rfl) (by simp) ?_
        refine AllReadyH.cons rfl (fun K hK => ?_) AllReadyH.nil
        go_simp
        refine hK.out _ _ ?_ (fun hHeld => ?_)
        · ((try dsimp only); go_keep)
        clear hK K
        (try simp only [Act.put, List.setIfInBounds_toArray, List.set_cons_zero, List.set_cons_succ])
        refine wpAnyH_take (i := 15) (v := ?_) rfl (by kernel_rfl) (by kernel_rfl) (by kernel_rfl) (fun _ _ _ h => h) (Or.inl ⟨by rfl, ?_⟩) (by assumption) ?_
        rotate_left
        · (intro wS hSw; (try dsimp only at hSw); go_simp; (try with_reducible rfl))
        (try simp only [Act.put, List.setIfInBounds_toArray, List.set_cons_zero, List.set_cons_succ])
        refine wpAnyH_take (i := 16) (v := ?_) rfl (by kernel_rfl) (by kernel_rfl) (by kernel_rfl) (fun _ _ _ h => h) (Or.inl ⟨by rfl, ?_⟩) (by assumption) ?_
        rotate_left
        · (intro wS hSw; (try dsimp only at hSw); go_simp; (try with_reducible rfl))
        (try simp only [Act.put, List.setIfInBounds_toArray, List.set_cons_zero, List.set_cons_succ])
        refine wpAnyH_done (by kernel_rfl) ?_ _
        (try simp only [List.getElem_toArray, List.getElem_cons_zero, List.getElem_cons_succ, Act.put, List.setIfInBounds_toArray, List.set_cons_zero, List.set_cons_succ])
        have az := ((Aw44.out).set 0 (.bool (ineg a))).set 1 (.string (imag a))
        have hkz : ∀ b, b ≠ ba → ((w44.setCell ⟨ba, 0, none⟩ (.bool (ineg a))).setCell ⟨ba, 1, none⟩ (.string (imag a))).heap[b]? = w44.heap[b]? := fun b h => (Below.heap_setCell _ _ _ b h).trans (Below.heap_setCell _ _ _ b h)
        have rz := (Rw44.out).of_block (hkz _ (by omega))
        have sz := ((Sw44.out).setCell (p := ⟨ba, 0, none⟩) (show w.heap.size ≤ ba by omega) (.bool (ineg a))).setCell (p := ⟨ba, 1, none⟩) (show w.heap.size ≤ ba by omega) (.string (imag a))
        obtain ⟨wz, hwz⟩ : ∃ wz, (w44.setCell ⟨ba, 0, none⟩ (.bool (ineg a))).setCell ⟨ba, 1, none⟩ (.string (imag a)) = wz := ⟨_, rfl⟩
        rw [hwz] at az rz sz ⊢
        clear hwz hkz hHeld a0 a1 f0 f1
        have a0 := az.cell (j := 0) rfl
        have a1 := az.cell (j := 1) rfl
        have r0 := rz.cell (j := 0) rfl
        have r1 := rz.cell (j := 1) rfl
        have f0 := rz.frozen 0
        have f1 := rz.frozen 1
        have SZ := Lib.hid sz; clear sz
        have AZ := Lib.hid az; clear az
        go_wp2_with fail
        refine bodyPost_ret (v := .tuple #[IntV a, .int .i64 t, .int .i64 0]) ?_ rfl ?_
        · have e0 := ((rz.set 0 (.bool (ineg a))).set 1 (.string (imag a))).cell (j := 0) rfl
          have e1 := ((rz.set 0 (.bool (ineg a))).set 1 (.string (imag a))).cell (j := 1) rfl
          simp [results, Tryz.results11, go_sem, e0, e1, IntV]
        · exact ⟨(SZ.out.setCell (p := ⟨w.heap.size + 1, 0, none⟩) (show w.heap.size ≤ w.heap.size + 1 by omega) _).setCell (p := ⟨w.heap.size + 1, 1, none⟩) (show w.heap.size ≤ w.heap.size + 1 by omega) _, rfl⟩
      · go_simp
        refine hK.out _ _ ?_ (fun hHeld => ?_)
        · ((try dsimp only); go_keep)
        clear hK K
        (try simp only [Act.put, List.setIfInBounds_toArray, List.set_cons_zero, List.set_cons_succ])
        have hbq : Below (w42).heap.size (w42) ((w42).alloc (.cells #[.bool false, .string ⟨#[]⟩] 33)) := (Below.refl _ _).alloc (Nat.le_refl _) _
        have a5 := Blk.new (w42) 33 [.bool false, .string ⟨#[]⟩]
        have g5 : (w42).heap.size = w42.heap.size := rfl
        rw [g5] at a5
        have s5 := (Sw42.out).trans (hbq.mono (Sw42.out).size)
        have r5 := (HRw42.out).below hbq (Nat.le_refl _)
        have i5 := (HSw42.out).below hbq (Nat.le_refl _)
        have y5 := (Rw42.out).keep hbq
        obtain ⟨ba, hba⟩ : ∃ ba, ba = w42.heap.size := ⟨_, rfl⟩
        have hane : w.heap.size + 1 < ba := by omega
        rw [← hba] at a5
        have e5 : (w42).alloc (.cells #[.bool false, .string ⟨#[]⟩] 33) = (w42).alloc (.cells #[.bool false, .string ⟨#[]⟩] 33) := rfl
        rw [e5] at a5 s5 r5 i5 y5 hbq
        obtain ⟨w45, hv5⟩ : ∃ w45, (w42).alloc (.cells #[.bool false, .string ⟨#[]⟩] 33) = w45 := ⟨_, rfl⟩
        rw [hv5] at hHeld a5 s5 r5 i5 y5 hbq
        have l5 : w.heap.size + 1 < w45.heap.size := y5.lt
        have al5 := a5.lt
        have t5 := Tab.below Tw42.out hbq (Nat.le_refl _)
        have Tw45 := Lib.hid t5; clear t5
        have Sw45 := Lib.hid s5; clear s5
        have HRw45 := Lib.hid r5; clear r5
        have HSw45 := Lib.hid i5; clear i5
        have Rw45 := Lib.hid y5; clear y5
        have Aw45 := Lib.hid a5; clear a5
        have hpa : (Value.pointer (some ⟨w42.heap.size, 0, none⟩)) = Value.pointer (some ⟨ba, 0, none⟩) := by rw [hba]
        (try simp only [World.size_drew])
        rw [hv5]
        (try rw [hpa])
        clear hbq hv5 hba hpa g5 e5
        refine wpAnyH_ready (rs := [8]) (by kernel_rfl) (by simp) ?_
        refine AllReadyH.cons rfl (fun K hK => ?_) AllReadyH.nil
        go_simp
        go_at_call 33
        refine (HRK.out _ _ (HRw45.out) Tw45.out).mono ?_
        rintro e w46 ⟨hq, rfl⟩
        dsimp only
        have z0 := (hq.cell (p := ⟨w.heap.size, 0, none⟩) (show w.heap.size < w45.heap.size by omega)).trans hHeld.1
        have z1 := (hq.cell (p := ⟨w.heap.size, 1, none⟩) (show w.heap.size < w45.heap.size by omega)).trans hHeld.2.1
        have z2 := (hq.cell (p := ⟨w.heap.size, 2, none⟩) (show w.heap.size < w45.heap.size by omega)).trans hHeld.2.2
        refine hK.out _ _ ⟨z0, z1, z2⟩ (fun hHeld => ?_)
        clear hK K
        (try simp only [Act.put, List.setIfInBounds_toArray, List.set_cons_zero, List.set_cons_succ])
        have s5 := (Sw45.out).trans (hq.mono (Sw45.out).size)
        have r5 := (HRw45.out).below hq (Nat.le_refl _)
        have i5 := (HSw45.out).below hq (Nat.le_refl _)
        have y5 := (Rw45.out).keep hq
        have l5 : w.heap.size + 1 < w46.heap.size := y5.lt
        have Sw46 := Lib.hid s5; clear s5
        have HRw46 := Lib.hid r5; clear r5
        have HSw46 := Lib.hid i5; clear i5
        have Rw46 := Lib.hid y5; clear y5
        have a5 := (Aw45.out).keep hq
        have Aw46 := Lib.hid a5; clear a5
        clear hq z0 z1 z2
        refine wpAnyH_take (i := 9) (v := ?_) rfl (by kernel_rfl) (by kernel_rfl) (by kernel_rfl) (fun _ _ _ h => h) (Or.inl ⟨by rfl, ?_⟩) (by assumption) ?_
        rotate_left
        · (intro wS hSw; (try dsimp only at hSw); go_simp; (try with_reducible rfl))
        (try simp only [Act.put, List.setIfInBounds_toArray, List.set_cons_zero, List.set_cons_succ])
        refine wpAnyH_take (i := 10) (v := ?_) rfl (by kernel_rfl) (by kernel_rfl) (by kernel_rfl) (fun _ _ _ h => h) (Or.inl ⟨by rfl, ?_⟩) (by assumption) ?_
        rotate_left
        · (intro wS hSw; (try dsimp only at hSw); go_simp; (try with_reducible rfl))
        (try simp only [Act.put, List.setIfInBounds_toArray, List.set_cons_zero, List.set_cons_succ])
        refine wpAnyH_take (i := 11) (v := ?_) rfl (by kernel_rfl) (by kernel_rfl) (by kernel_rfl) (fun _ _ _ h => h) (Or.inl ⟨by rfl, ?_⟩) (by assumption) ?_
        rotate_left
        · (intro wS hSw; (try dsimp only at hSw); go_simp; (try with_reducible rfl))
        (try simp only [Act.put, List.setIfInBounds_toArray, List.set_cons_zero, List.set_cons_succ])
        refine wpAnyH_take (i := 12) (v := ?_) rfl (by kernel_rfl) (by kernel_rfl) (by kernel_rfl) (fun _ _ _ h => h) (Or.inl ⟨by rfl, ?_⟩) (by assumption) ?_
        rotate_left
        · (intro wS hSw; (try dsimp only at hSw); go_simp; (try with_reducible rfl))
        (try simp only [Act.put, List.setIfInBounds_toArray, List.set_cons_zero, List.set_cons_succ])
        have a0 := (Aw46.out).cell (j := 0) rfl
        have a1 := (Aw46.out).cell (j := 1) rfl
        have f0 := (Aw46.out).frozen 0
        have f1 := (Aw46.out).frozen 1
        have hne : ¬ ba = w.heap.size := by omega
        refine wpAnyH_ready (rs := [14]) (by kernel_rfl) (by simp) ?_
        refine AllReadyH.cons rfl (fun K hK => ?_) AllReadyH.nil
        go_simp
        refine hK.out _ _ ?_ (fun hHeld => ?_)
        · ((try dsimp only); go_keep)
        clear hK K
        (try simp only [Act.put, List.setIfInBounds_toArray, List.set_cons_zero, List.set_cons_succ])
        refine wpAnyH_take (i := 15) (v := ?_) rfl (by kernel_rfl) (by kernel_rfl) (by kernel_rfl) (fun _ _ _ h => h) (Or.inl ⟨by rfl, ?_⟩) (by assumption) ?_
        rotate_left
        · (intro wS hSw; (try dsimp only at hSw); go_simp; (try with_reducible rfl))
        (try simp only [Act.put, List.setIfInBounds_toArray, List.set_cons_zero, List.set_cons_succ])
        refine wpAnyH_take (i := 16) (v := ?_) rfl (by kernel_rfl) (by kernel_rfl) (by kernel_rfl) (fun _ _ _ h => h) (Or.inl ⟨by rfl, ?_⟩) (by assumption) ?_
        rotate_left
        · (intro wS hSw; (try dsimp only at hSw); go_simp; (try with_reducible rfl))
        (try simp only [Act.put, List.setIfInBounds_toArray, List.set_cons_zero, List.set_cons_succ])
        refine wpAnyH_done (by kernel_rfl) ?_ _
        (try simp only [List.getElem_toArray, List.getElem_cons_zero, List.getElem_cons_succ, Act.put, List.setIfInBounds_toArray, List.set_cons_zero, List.set_cons_succ])
        have az := ((Aw46.out).set 0 (.bool (ineg a))).set 1 (.string (imag a))
        have hkz : ∀ b, b ≠ ba → ((w46.setCell ⟨ba, 0, none⟩ (.bool (ineg a))).setCell ⟨ba, 1, none⟩ (.string (imag a))).heap[b]? = w46.heap[b]? := fun b h => (Below.heap_setCell _ _ _ b h).trans (Below.heap_setCell _ _ _ b h)
        have rz := (Rw46.out).of_block (hkz _ (by omega))
        have sz := ((Sw46.out).setCell (p := ⟨ba, 0, none⟩) (show w.heap.size ≤ ba by omega) (.bool (ineg a))).setCell (p := ⟨ba, 1, none⟩) (show w.heap.size ≤ ba by omega) (.string (imag a))
        obtain ⟨wz, hwz⟩ : ∃ wz, (w46.setCell ⟨ba, 0, none⟩ (.bool (ineg a))).setCell ⟨ba, 1, none⟩ (.string (imag a)) = wz := ⟨_, rfl⟩
        rw [hwz] at az rz sz ⊢
        clear hwz hkz hHeld a0 a1 f0 f1
        have a0 := az.cell (j := 0) rfl
        have a1 := az.cell (j := 1) rfl
        have r0 := rz.cell (j := 0) rfl
        have r1 := rz.cell (j := 1) rfl
        have f0 := rz.frozen 0
        have f1 := rz.frozen 1
        have SZ := Lib.hid sz; clear sz
        have AZ := Lib.hid az; clear az
        go_wp2_with fail
        refine bodyPost_ret (v := .tuple #[IntV a, .int .i64 t, .int .i64 0]) ?_ rfl ?_
        · have e0 := ((rz.set 0 (.bool (ineg a))).set 1 (.string (imag a))).cell (j := 0) rfl
          have e1 := ((rz.set 0 (.bool (ineg a))).set 1 (.string (imag a))).cell (j := 1) rfl
          simp [results, Tryz.results11, go_sem, e0, e1, IntV]
        · exact ⟨(SZ.out.setCell (p := ⟨w.heap.size + 1, 0, none⟩) (show w.heap.size ≤ w.heap.size + 1 by omega) _).setCell (p := ⟨w.heap.size + 1, 1, none⟩) (show w.heap.size ≤ w.heap.size + 1 by omega) _, rfl⟩
    · go_simp
      refine hK.out _ _ ?_ (fun hHeld => ?_)
      · ((try dsimp only); go_keep)
      clear hK K
      (try simp only [Act.put, List.setIfInBounds_toArray, List.set_cons_zero, List.set_cons_succ])
      have hbq : Below (w41).heap.size (w41) ((w41).alloc (.cells #[.bool false, .string ⟨#[]⟩] 33)) := (Below.refl _ _).alloc (Nat.le_refl _) _
      have a5 := Blk.new (w41) 33 [.bool false, .string ⟨#[]⟩]
      have g5 : (w41).heap.size = w41.heap.size := rfl
      rw [g5] at a5
      have s5 := (Sw41.out).trans (hbq.mono (Sw41.out).size)
      have r5 := (HRw41.out).below hbq (Nat.le_refl _)
      have i5 := (HSw41.out).below hbq (Nat.le_refl _)
      have y5 := (Rw41.out).keep hbq
      obtain ⟨ba, hba⟩ : ∃ ba, ba = w41.heap.size := ⟨_, rfl⟩
      have hane : w.heap.size + 1 < ba := by omega
      rw [← hba] at a5
      have e5 : (w41).alloc (.cells #[.bool false, .string ⟨#[]⟩] 33) = (w41).alloc (.cells #[.bool false, .string ⟨#[]⟩] 33) := rfl
      rw [e5] at a5 s5 r5 i5 y5 hbq
      obtain ⟨w47, hv5⟩ : ∃ w47, (w41).alloc (.cells #[.bool false, .string ⟨#[]⟩] 33) = w47 := ⟨_, rfl⟩
      rw [hv5] at hHeld a5 s5 r5 i5 y5 hbq
      have l5 : w.heap.size + 1 < w47.heap.size := y5.lt
      have al5 := a5.lt
      have q5 := (Qw41.out).keep hbq
      have Qw47 := Lib.hid q5; clear q5
      have Sw47 := Lib.hid s5; clear s5
      have HRw47 := Lib.hid r5; clear r5
      have HSw47 := Lib.hid i5; clear i5
      have Rw47 := Lib.hid y5; clear y5
      have Aw47 := Lib.hid a5; clear a5
      have hpa : (Value.pointer (some ⟨w41.heap.size, 0, none⟩)) = Value.pointer (some ⟨ba, 0, none⟩) := by rw [hba]
      (try simp only [World.size_drew])
      rw [hv5]
      (try rw [hpa])
      clear hbq hv5 hba hpa g5 e5
      refine wpAnyH_ready (rs := [5]) (by kernel_rfl) (by simp) ?_
      refine AllReadyH.cons rfl (fun K hK => ?_) AllReadyH.nil
      go_simp
      go_at_call 34
      refine (HTAB.out q _ (HRw47.out) (HSw47.out) (Qw47.out).lt ((Qw47.out).cell (j := 0) rfl)).mono ?_
      rintro e w48 ⟨hq, tv, rfl, htb⟩
      dsimp only
      have z0 := (hq.cell (p := ⟨w.heap.size, 0, none⟩) (show w.heap.size < w47.heap.size by omega)).trans hHeld.1
      have z1 := (hq.cell (p := ⟨w.heap.size, 1, none⟩) (show w.heap.size < w47.heap.size by omega)).trans hHeld.2.1
      have z2 := (hq.cell (p := ⟨w.heap.size, 2, none⟩) (show w.heap.size < w47.heap.size by omega)).trans hHeld.2.2
      refine hK.out _ _ ⟨z0, z1, z2⟩ (fun hHeld => ?_)
      clear hK K
      (try simp only [Act.put, List.setIfInBounds_toArray, List.set_cons_zero, List.set_cons_succ])
      have s5 := (Sw47.out).trans (hq.mono (Sw47.out).size)
      have r5 := (HRw47.out).below hq (Nat.le_refl _)
      have i5 := (HSw47.out).below hq (Nat.le_refl _)
      have y5 := (Rw47.out).keep hq
      have l5 : w.heap.size + 1 < w48.heap.size := y5.lt
      have Sw48 := Lib.hid s5; clear s5
      have HRw48 := Lib.hid r5; clear r5
      have HSw48 := Lib.hid i5; clear i5
      have Rw48 := Lib.hid y5; clear y5
      have t5 := htb.tab
      have Tw48 := Lib.hid t5; clear t5
      clear htb
      have a5 := (Aw47.out).keep hq
      have Aw48 := Lib.hid a5; clear a5
      clear hq z0 z1 z2
      refine wpAnyH_ready (rs := [8]) (by kernel_rfl) (by simp) ?_
      refine AllReadyH.cons rfl (fun K hK => ?_) AllReadyH.nil
      go_simp
      go_at_call 33
      refine (HRK.out _ _ (HRw48.out) Tw48.out).mono ?_
      rintro e w49 ⟨hq, rfl⟩
      dsimp only
      have z0 := (hq.cell (p := ⟨w.heap.size, 0, none⟩) (show w.heap.size < w48.heap.size by omega)).trans hHeld.1
      have z1 := (hq.cell (p := ⟨w.heap.size, 1, none⟩) (show w.heap.size < w48.heap.size by omega)).trans hHeld.2.1
      have z2 := (hq.cell (p := ⟨w.heap.size, 2, none⟩) (show w.heap.size < w48.heap.size by omega)).trans hHeld.2.2
      refine hK.out _ _ ⟨z0, z1, z2⟩ (fun hHeld => ?_)
      clear hK K
      (try simp only [Act.put, List.setIfInBounds_toArray, List.set_cons_zero, List.set_cons_succ])
      have s5 := (Sw48.out).trans (hq.mono (Sw48.out).size)
      have r5 := (HRw48.out).below hq (Nat.le_refl _)
      have i5 := (HSw48.out).below hq (Nat.le_refl _)
      have y5 := (Rw48.out).keep hq
      have l5 : w.heap.size + 1 < w49.heap.size := y5.lt
      have Sw49 := Lib.hid s5; clear s5
      have HRw49 := Lib.hid r5; clear r5
      have HSw49 := Lib.hid i5; clear i5
      have Rw49 := Lib.hid y5; clear y5
      have a5 := (Aw48.out).keep hq
      have Aw49 := Lib.hid a5; clear a5
      clear hq z0 z1 z2
      refine wpAnyH_take (i := 9) (v := ?_) rfl (by kernel_rfl) (by kernel_rfl) (by kernel_rfl) (fun _ _ _ h => h) (Or.inl ⟨by rfl, ?_⟩) (by assumption) ?_
      rotate_left
      · (intro wS hSw; (try dsimp only at hSw); go_simp; (try with_reducible rfl))
      (try simp only [Act.put, List.setIfInBounds_toArray, List.set_cons_zero, List.set_cons_succ])
      refine wpAnyH_take (i := 10) (v := ?_) rfl (by kernel_rfl) (by kernel_rfl) (by kernel_rfl) (fun _ _ _ h => h) (Or.inl ⟨by rfl, ?_⟩) (by assumption) ?_
      rotate_left
      · (intro wS hSw; (try dsimp only at hSw); go_simp; (try with_reducible rfl))
      (try simp only [Act.put, List.setIfInBounds_toArray, List.set_cons_zero, List.set_cons_succ])
      refine wpAnyH_take (i := 11) (v := ?_) rfl (by kernel_rfl) (by kernel_rfl) (by kernel_rfl) (fun _ _ _ h => h) (Or.inl ⟨by rfl, ?_⟩) (by assumption) ?_
      rotate_left
      · (intro wS hSw; (try dsimp only at hSw); go_simp; (try with_reducible rfl))
      (try simp only [Act.put, List.setIfInBounds_toArray, List.set_cons_zero, List.set_cons_succ])
      refine wpAnyH_take (i := 12) (v := ?_) rfl (by kernel_rfl) (by kernel_rfl) (by kernel_rfl) (fun _ _ _ h => h) (Or.inl ⟨by rfl, ?_⟩) (by assumption) ?_
      rotate_left
      · (intro wS hSw; (try dsimp only at hSw); go_simp; (try with_reducible rfl))
      (try simp only [Act.put, List.setIfInBounds_toArray, List.set_cons_zero, List.set_cons_succ])
      have a0 := (Aw49.out).cell (j := 0) rfl
      have a1 := (Aw49.out).cell (j := 1) rfl
      have f0 := (Aw49.out).frozen 0
      have f1 := (Aw49.out).frozen 1
      have hne : ¬ ba = w.heap.size := by omega
      refine wpAnyH_ready (rs := [14]) (by kernel_rfl) (by simp) ?_
      refine AllReadyH.cons rfl (fun K hK => ?_) AllReadyH.nil
      go_simp
      refine hK.out _ _ ?_ (fun hHeld => ?_)
      · ((try dsimp only); go_keep)
      clear hK K
      (try simp only [Act.put, List.setIfInBounds_toArray, List.set_cons_zero, List.set_cons_succ])
      refine wpAnyH_take (i := 15) (v := ?_) rfl (by kernel_rfl) (by kernel_rfl) (by kernel_rfl) (fun _ _ _ h => h) (Or.inl ⟨by rfl, ?_⟩) (by assumption) ?_
      rotate_left
      · (intro wS hSw; (try dsimp only at hSw); go_simp; (try with_reducible rfl))
      (try simp only [Act.put, List.setIfInBounds_toArray, List.set_cons_zero, List.set_cons_succ])
      refine wpAnyH_take (i := 16) (v := ?_) rfl (by kernel_rfl) (by kernel_rfl) (by kernel_rfl) (fun _ _ _ h => h) (Or.inl ⟨by rfl, ?_⟩) (by assumption) ?_
      rotate_left
      · (intro wS hSw; (try dsimp only at hSw); go_simp; (try with_reducible rfl))
      (try simp only [Act.put, List.setIfInBounds_toArray, List.set_cons_zero, List.set_cons_succ])
      refine wpAnyH_done (by kernel_rfl) ?_ _
      (try simp only [List.getElem_toArray, List.getElem_cons_zero, List.getElem_cons_succ, Act.put, List.setIfInBounds_toArray, List.set_cons_zero, List.set_cons_succ])
      have az := ((Aw49.out).set 0 (.bool (ineg a))).set 1 (.string (imag a))
      have hkz : ∀ b, b ≠ ba → ((w49.setCell ⟨ba, 0, none⟩ (.bool (ineg a))).setCell ⟨ba, 1, none⟩ (.string (imag a))).heap[b]? = w49.heap[b]? := fun b h => (Below.heap_setCell _ _ _ b h).trans (Below.heap_setCell _ _ _ b h)
      have rz := (Rw49.out).of_block (hkz _ (by omega))
      have sz := ((Sw49.out).setCell (p := ⟨ba, 0, none⟩) (show w.heap.size ≤ ba by omega) (.bool (ineg a))).setCell (p := ⟨ba, 1, none⟩) (show w.heap.size ≤ ba by omega) (.string (imag a))
      obtain ⟨wz, hwz⟩ : ∃ wz, (w49.setCell ⟨ba, 0, none⟩ (.bool (ineg a))).setCell ⟨ba, 1, none⟩ (.string (imag a)) = wz := ⟨_, rfl⟩
      rw [hwz] at az rz sz ⊢
      clear hwz hkz hHeld a0 a1 f0 f1
      have a0 := az.cell (j := 0) rfl
      have a1 := az.cell (j := 1) rfl
      have r0 := rz.cell (j := 0) rfl
      have r1 := rz.cell (j := 1) rfl
      have f0 := rz.frozen 0
      have f1 := rz.frozen 1
      have SZ := Lib.hid sz; clear sz
      have AZ := Lib.hid az; clear az
      go_wp2_with fail
      refine bodyPost_ret (v := .tuple #[IntV a, .int .i64 t, .int .i64 0]) ?_ rfl ?_
      · have e0 := ((rz.set 0 (.bool (ineg a))).set 1 (.string (imag a))).cell (j := 0) rfl
        have e1 := ((rz.set 0 (.bool (ineg a))).set 1 (.string (imag a))).cell (j := 1) rfl
        simp [results, Tryz.results11, go_sem, e0, e1, IntV]
      · exact ⟨(SZ.out.setCell (p := ⟨w.heap.size + 1, 0, none⟩) (show w.heap.size ≤ w.heap.size + 1 by omega) _).setCell (p := ⟨w.heap.size + 1, 1, none⟩) (show w.heap.size ≤ w.heap.size + 1 by omega) _, rfl⟩
  · go_simp
    refine hK.out _ _ ?_ (fun hHeld => ?_)
    · ((try dsimp only); go_keep)
    clear hK K
    (try simp only [Act.put, List.setIfInBounds_toArray, List.set_cons_zero, List.set_cons_succ])
    have hbq : Below (w3.drew).heap.size (w3.drew) ((w3.drew).alloc (.cells #[.bool false, .string ⟨#[]⟩] 33)) := (Below.refl _ _).alloc (Nat.le_refl _) _
    have a5 := Blk.new (w3.drew) 33 [.bool false, .string ⟨#[]⟩]
    have g5 : (w3.drew).heap.size = w3.heap.size := rfl
    rw [g5] at a5
    have s5 := (S3.out.drew).trans (hbq.mono (S3.out.drew).size)
    have r5 := (HR3.out.drew).below hbq (Nat.le_refl _)
    have i5 := (HS3.out.drew).below hbq (Nat.le_refl _)
    have y5 := (E1.out.drew).keep hbq
    obtain ⟨ba, hba⟩ : ∃ ba, ba = w3.heap.size := ⟨_, rfl⟩
    have hane : w.heap.size + 1 < ba := by omega
    rw [← hba] at a5
    have e5 : (w3.drew).alloc (.cells #[.bool false, .string ⟨#[]⟩] 33) = (w3.alloc (.cells #[.bool false, .string ⟨#[]⟩] 33)).drew := rfl
    rw [e5] at a5 s5 r5 i5 y5 hbq
    obtain ⟨w410, hv5⟩ : ∃ w410, (w3.alloc (.cells #[.bool false, .string ⟨#[]⟩] 33)).drew = w410 := ⟨_, rfl⟩
    rw [hv5] at hHeld a5 s5 r5 i5 y5 hbq
    have l5 : w.heap.size + 1 < w410.heap.size := y5.lt
    have al5 := a5.lt
    have Sw410 := Lib.hid s5; clear s5
    have HRw410 := Lib.hid r5; clear r5
    have HSw410 := Lib.hid i5; clear i5
    have Rw410 := Lib.hid y5; clear y5
    have Aw410 := Lib.hid a5; clear a5
    have hpa : (Value.pointer (some ⟨w3.heap.size, 0, none⟩)) = Value.pointer (some ⟨ba, 0, none⟩) := by rw [hba]
    (try simp only [World.size_drew])
    rw [hv5]
    (try rw [hpa])
    clear hbq hv5 hba hpa g5 e5
    refine wpAnyH_ready (rs := [3]) (by kernel_rfl) (by simp) ?_
    refine AllReadyH.cons rfl (fun K hK => ?_) AllReadyH.nil
    go_simp
    go_at_call 35
    refine (in_blk _ _ _ _).mono ?_
    rintro e w411 ⟨hq, q, rfl, hqb⟩
    dsimp only
    have z0 := (hq.cell (p := ⟨w.heap.size, 0, none⟩) (show w.heap.size < w410.heap.size by omega)).trans hHeld.1
    have z1 := (hq.cell (p := ⟨w.heap.size, 1, none⟩) (show w.heap.size < w410.heap.size by omega)).trans hHeld.2.1
    have z2 := (hq.cell (p := ⟨w.heap.size, 2, none⟩) (show w.heap.size < w410.heap.size by omega)).trans hHeld.2.2
    refine hK.out _ _ ⟨z0, z1, z2⟩ (fun hHeld => ?_)
    clear hK K
    (try simp only [Act.put, List.setIfInBounds_toArray, List.set_cons_zero, List.set_cons_succ])
    have s5 := (Sw410.out).trans (hq.mono (Sw410.out).size)
    have r5 := (HRw410.out).below hq (Nat.le_refl _)
    have i5 := (HSw410.out).below hq (Nat.le_refl _)
    have y5 := (Rw410.out).keep hq
    have l5 : w.heap.size + 1 < w411.heap.size := y5.lt
    have Sw411 := Lib.hid s5; clear s5
    have HRw411 := Lib.hid r5; clear r5
    have HSw411 := Lib.hid i5; clear i5
    have Rw411 := Lib.hid y5; clear y5
    have Qw411 := Lib.hid hqb; clear hqb
    have a5 := (Aw410.out).keep hq
    have Aw411 := Lib.hid a5; clear a5
    clear hq z0 z1 z2
    refine wpAnyH_ready (rs := [5]) (by kernel_rfl) (by simp) ?_
    refine AllReadyH.cons rfl (fun K hK => ?_) AllReadyH.nil
    go_simp
    go_at_call 34
    refine (HTAB.out q _ (HRw411.out) (HSw411.out) (Qw411.out).lt ((Qw411.out).cell (j := 0) rfl)).mono ?_
    rintro e w412 ⟨hq, tv, rfl, htb⟩
    dsimp only
    have z0 := (hq.cell (p := ⟨w.heap.size, 0, none⟩) (show w.heap.size < w411.heap.size by omega)).trans hHeld.1
    have z1 := (hq.cell (p := ⟨w.heap.size, 1, none⟩) (show w.heap.size < w411.heap.size by omega)).trans hHeld.2.1
    have z2 := (hq.cell (p := ⟨w.heap.size, 2, none⟩) (show w.heap.size < w411.heap.size by omega)).trans hHeld.2.2
    refine hK.out _ _ ⟨z0, z1, z2⟩ (fun hHeld => ?_)
    clear hK K
    (try simp only [Act.put, List.setIfInBounds_toArray, List.set_cons_zero, List.set_cons_succ])
    have s5 := (Sw411.out).trans (hq.mono (Sw411.out).size)
    have r5 := (HRw411.out).below hq (Nat.le_refl _)
    have i5 := (HSw411.out).below hq (Nat.le_refl _)
    have y5 := (Rw411.out).keep hq
    have l5 : w.heap.size + 1 < w412.heap.size := y5.lt
    have Sw412 := Lib.hid s5; clear s5
    have HRw412 := Lib.hid r5; clear r5
    have HSw412 := Lib.hid i5; clear i5
    have Rw412 := Lib.hid y5; clear y5
    have t5 := htb.tab
    have Tw412 := Lib.hid t5; clear t5
    clear htb
    have a5 := (Aw411.out).keep hq
    have Aw412 := Lib.hid a5; clear a5
    clear hq z0 z1 z2
    refine wpAnyH_ready (rs := [8]) (by kernel_rfl) (by simp) ?_
    refine AllReadyH.cons rfl (fun K hK => ?_) AllReadyH.nil
    go_simp
    go_at_call 33
    refine (HRK.out _ _ (HRw412.out) Tw412.out).mono ?_
    rintro e w413 ⟨hq, rfl⟩
    dsimp only
    have z0 := (hq.cell (p := ⟨w.heap.size, 0, none⟩) (show w.heap.size < w412.heap.size by omega)).trans hHeld.1
    have z1 := (hq.cell (p := ⟨w.heap.size, 1, none⟩) (show w.heap.size < w412.heap.size by omega)).trans hHeld.2.1
    have z2 := (hq.cell (p := ⟨w.heap.size, 2, none⟩) (show w.heap.size < w412.heap.size by omega)).trans hHeld.2.2
    refine hK.out _ _ ⟨z0, z1, z2⟩ (fun hHeld => ?_)
    clear hK K
    (try simp only [Act.put, List.setIfInBounds_toArray, List.set_cons_zero, List.set_cons_succ])
    have s5 := (Sw412.out).trans (hq.mono (Sw412.out).size)
    have r5 := (HRw412.out).below hq (Nat.le_refl _)
    have i5 := (HSw412.out).below hq (Nat.le_refl _)
    have y5 := (Rw412.out).keep hq
    have l5 : w.heap.size + 1 < w413.heap.size := y5.lt
    have Sw413 := Lib.hid s5; clear s5
    have HRw413 := Lib.hid r5; clear r5
    have HSw413 := Lib.hid i5; clear i5
    have Rw413 := Lib.hid y5; clear y5
    have a5 := (Aw412.out).keep hq
    have Aw413 := Lib.hid a5; clear a5
    clear hq z0 z1 z2
    refine wpAnyH_take (i := 9) (v := ?_) rfl (by kernel_rfl) (by kernel_rfl) (by kernel_rfl) (fun _ _ _ h => h) (Or.inl ⟨by rfl, ?_⟩) (by assumption) ?_
    rotate_left
    · (intro wS hSw; (try dsimp only at hSw); go_simp; (try with_reducible rfl))
    (try simp only [Act.put, List.setIfInBounds_toArray, List.set_cons_zero, List.set_cons_succ])
    refine wpAnyH_take (i := 10) (v := ?_) rfl (by kernel_rfl) (by kernel_rfl) (by kernel_rfl) (fun _ _ _ h => h) (Or.inl ⟨by rfl, ?_⟩) (by assumption) ?_
    rotate_left
    · (intro wS hSw; (try dsimp only at hSw); go_simp; (try with_reducible rfl))
    (try simp only [Act.put, List.setIfInBounds_toArray, List.set_cons_zero, List.set_cons_succ])
    refine wpAnyH_take (i := 11) (v := ?_) rfl (by kernel_rfl) (by kernel_rfl) (by kernel_rfl) (fun _ _ _ h => h) (Or.inl ⟨by rfl, ?_⟩) (by assumption) ?_
    rotate_left
    · (intro wS hSw; (try dsimp only at hSw); go_simp; (try with_reducible rfl))
    (try simp only [Act.put, List.setIfInBounds_toArray, List.set_cons_zero, List.set_cons_succ])
    refine wpAnyH_take (i := 12) (v := ?_) rfl (by kernel_rfl) (by kernel_rfl) (by kernel_rfl) (fun _ _ _ h => h) (Or.inl ⟨by rfl, ?_⟩) (by assumption) ?_
    rotate_left
    · (intro wS hSw; (try dsimp only at hSw); go_simp; (try with_reducible rfl))
    (try simp only [Act.put, List.setIfInBounds_toArray, List.set_cons_zero, List.set_cons_succ])
    have a0 := (Aw413.out).cell (j := 0) rfl
    have a1 := (Aw413.out).cell (j := 1) rfl
    have f0 := (Aw413.out).frozen 0
    have f1 := (Aw413.out).frozen 1
    have hne : ¬ ba = w.heap.size := by omega
    refine wpAnyH_ready (rs := [14]) (by kernel_rfl) (by simp) ?_
    refine AllReadyH.cons rfl (fun K hK => ?_) AllReadyH.nil
    go_simp
    refine hK.out _ _ ?_ (fun hHeld => ?_)
    · ((try dsimp only); go_keep)
    clear hK K
    (try simp only [Act.put, List.setIfInBounds_toArray, List.set_cons_zero, List.set_cons_succ])
    refine wpAnyH_take (i := 15) (v := ?_) rfl (by kernel_rfl) (by kernel_rfl) (by kernel_rfl) (fun _ _ _ h => h) (Or.inl ⟨by rfl, ?_⟩) (by assumption) ?_
    rotate_left
    · (intro wS hSw; (try dsimp only at hSw); go_simp; (try with_reducible rfl))
    (try simp only [Act.put, List.setIfInBounds_toArray, List.set_cons_zero, List.set_cons_succ])
    refine wpAnyH_take (i := 16) (v := ?_) rfl (by kernel_rfl) (by kernel_rfl) (by kernel_rfl) (fun _ _ _ h => h) (Or.inl ⟨by rfl, ?_⟩) (by assumption) ?_
    rotate_left
    · (intro wS hSw; (try dsimp only at hSw); go_simp; (try with_reducible rfl))
    (try simp only [Act.put, List.setIfInBounds_toArray, List.set_cons_zero, List.set_cons_succ])
    refine wpAnyH_done (by kernel_rfl) ?_ _
    (try simp only [List.getElem_toArray, List.getElem_cons_zero, List.getElem_cons_succ, Act.put, List.setIfInBounds_toArray, List.set_cons_zero, List.set_cons_succ])
    have az := ((Aw413.out).set 0 (.bool (ineg a))).set 1 (.string (imag a))
    have hkz : ∀ b, b ≠ ba → ((w413.setCell ⟨ba, 0, none⟩ (.bool (ineg a))).setCell ⟨ba, 1, none⟩ (.string (imag a))).heap[b]? = w413.heap[b]? := fun b h => (Below.heap_setCell _ _ _ b h).trans (Below.heap_setCell _ _ _ b h)
    have rz := (Rw413.out).of_block (hkz _ (by omega))
    have sz := ((Sw413.out).setCell (p := ⟨ba, 0, none⟩) (show w.heap.size ≤ ba by omega) (.bool (ineg a))).setCell (p := ⟨ba, 1, none⟩) (show w.heap.size ≤ ba by omega) (.string (imag a))
    obtain ⟨wz, hwz⟩ : ∃ wz, (w413.setCell ⟨ba, 0, none⟩ (.bool (ineg a))).setCell ⟨ba, 1, none⟩ (.string (imag a)) = wz := ⟨_, rfl⟩
    rw [hwz] at az rz sz ⊢
    clear hwz hkz hHeld a0 a1 f0 f1
    have a0 := az.cell (j := 0) rfl
    have a1 := az.cell (j := 1) rfl
    have r0 := rz.cell (j := 0) rfl
    have r1 := rz.cell (j := 1) rfl
    have f0 := rz.frozen 0
    have f1 := rz.frozen 1
    have SZ := Lib.hid sz; clear sz
    have AZ := Lib.hid az; clear az
    go_wp2_with fail
    refine bodyPost_ret (v := .tuple #[IntV a, .int .i64 t, .int .i64 0]) ?_ rfl ?_
    · have e0 := ((rz.set 0 (.bool (ineg a))).set 1 (.string (imag a))).cell (j := 0) rfl
      have e1 := ((rz.set 0 (.bool (ineg a))).set 1 (.string (imag a))).cell (j := 1) rfl
      simp [results, Tryz.results11, go_sem, e0, e1, IntV]
    · exact ⟨(SZ.out.setCell (p := ⟨w.heap.size + 1, 0, none⟩) (show w.heap.size ≤ w.heap.size + 1 by omega) _).setCell (p := ⟨w.heap.size + 1, 1, none⟩) (show w.heap.size ≤ w.heap.size + 1 by omega) _, rfl⟩
end Go.Proofs.YtalipfnbpnkgnaaGreat

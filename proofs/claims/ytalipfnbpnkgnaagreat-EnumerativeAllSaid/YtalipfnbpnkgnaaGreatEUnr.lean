/- enumerative.Unrank at numbers of words. -/
import Derived.Test.YtalipfnbpnkgnaaGreatUnrk
import Derived.Test.YtalipfnbpnkgnaaGreatERank
namespace Go.Proofs.YtalipfnbpnkgnaaGreat
open Go.RowKit

theorem unrank_any (L : Int) (S s0 n : Nat) (a0 : Int) (es : List E3) (v tv : Value) (p : Int → Bool) (w : World) (hr : Row w v es.length (ce es)) (ht : Tab w tv (tabL es S p n)) (hS : S ≤ 64) (hl : es.length ≤ 1024) (hin : InS S es) (hlab : ∀ e ∈ es, 0 ≤ e.l ∧ e.l < 16) (hs0 : s0 < S) (hn : n ≤ 4096) (ha0 : 0 ≤ a0) (ha1 : a0 < cw es p n (s0 : Int)) :
    Calls Tryz.prog 42 #[.agg #[.int .i64 L, .int .i64 (S : Int), v], tv, .int .i64 (s0 : Int), .int .i64 (n : Int), .agg #[.bool (ineg a0), .string (imag a0)]] w (UrRet (ur es p n (s0 : Int) a0) w) :=
  callsIn_wide.1 (unrank_in L S s0 n a0 es v tv p w hr ht hS hl hin hlab hs0 hn ha0 ha1)
theorem elen_zero2 {S s n : Nat} (hs : s < S) (hn : n ≤ 4096) : elen (S : Int) (s : Int) (n : Int) = 0 := by
  unfold elen
  rw [if_neg (by omega), if_neg (by omega)]
theorem cnB_canon (a : Int) : cnB (ineg a) (imag a) = true := (cnB_iff _ _).2 (by rw [ival_canon]; exact ⟨rfl, rfl⟩)
set_option maxRecDepth 100000 in
set_option maxHeartbeats 3200000 in
theorem eunr_ok (L : Int) (S s0 n : Nat) (a0 : Int) (es : List E3) (v : Value) (w : World) (hr : Row w v es.length (ce es)) (hok : okEs es) (hE : eck L (S : Int) es = 0) (hs0 : s0 < S) (hn : n ≤ 4096) (ha0 : 0 ≤ a0) (ha1 : a0 < cw es allP n (s0 : Int)) :
    Calls Tryz.prog 19 #[.agg #[.int .i64 L, .int .i64 (S : Int), v], .int .i64 (s0 : Int), .int .i64 (n : Int), .agg #[.bool (ineg a0), .string (imag a0)]] w (Ret w (.tuple #[.string ⟨(ur es allP n (s0 : Int) a0).1.toArray⟩, .int .i64 0])) := by
  obtain ⟨va, vc, rfl, hle⟩ := hr.slice
  obtain ⟨mm, hmm⟩ : ∃ mm, mm = es.length := ⟨_, rfl⟩
  have hz := eck_zero hE
  have hca := chk_all hz.1
  have s0'' := ((Below.refl w.heap.size w).alloc (Nat.le_refl _) (.cells #[.int .i64 L, .int .i64 (S : Int), .slice va es.length vc] 24)).alloc (by simp) (.cells #[.bool (ineg a0), .string (imag a0)] 33)
  have b0 := (Blk.new w 24 [.int .i64 L, .int .i64 (S : Int), .slice va es.length vc]).alloc (.cells #[.bool (ineg a0), .string (imag a0)] 33)
  have b1 := Blk.new (w.alloc (.cells #[.int .i64 L, .int .i64 (S : Int), .slice va es.length vc] 24)) 33 [.bool (ineg a0), .string (imag a0)]
  simp only [World.size_alloc] at b1
  have hr0 := hr.below s0'' (Nat.le_refl _)
  have sA : small a0 := SumOk.small (j := 1) ⟨ha0, by have := (cw_bigM (es := es) (by omega) allP n hn (s0 : Int)).2; omega⟩ (by omega)
  have hck := echeck_any L (S : Int) es _ _ hr0 hok
  have hel := fun w' => elen_any L (S : Int) (s0 : Int) (n : Int) (.slice va es.length vc) w'
  have hic := fun w' => icheck_any (ineg a0) (imag a0) w' sA
  rw [hE] at hck
  rw [elen_zero2 hs0 hn] at hel
  have hch : chkZ (cnB (ineg a0) (imag a0)) = 0 := by rw [cnB_canon]; rfl
  rw [hch] at hic
  have htab := fun w' (h : Row w' (.slice va es.length vc) es.length (ce es)) => table_any L S n es (.slice va es.length vc) 55 #[] allP w' h (by omega) hn (by omega) (chk_inS hz.1) (fun args w => enters_of Tryz.func55 (by kernel_rfl) rfl args w) (fun s w' _ _ => every_any _ _)
  have hun := fun w' tv (h : Row w' (.slice va es.length vc) es.length (ce es)) (ht : Tab w' tv (tabL es S allP n)) => unrank_any L S s0 n a0 es (.slice va es.length vc) tv allP w' h ht (by omega) (by omega) (chk_inS hz.1) (chk_lab hz.1 hz.2.1) hs0 hn ha0 ha1
  (try simp only [UrRet] at hun)
  obtain ⟨R, hR⟩ : ∃ R, R = ur es allP n (s0 : Int) a0 := ⟨_, rfl⟩
  rw [← hR] at hun ⊢
  rw [← hmm] at s0'' b0 b1 hr0 hck hle hel htab hun
  have HMM := Lib.hid hmm; clear hmm
  have HCK := Lib.hid hck; clear hck
  have HEL := Lib.hid hel; clear hel
  have HIC := Lib.hid hic; clear hic
  have HTAB := Lib.hid htab; clear htab
  have HUN := Lib.hid hun; clear hun
  have S0 := Lib.hid s0''; clear s0''
  have B0 := Lib.hid b0; clear b0
  have B1 := Lib.hid b1; clear b1
  have HR := Lib.hid hr0; clear hr0
  clear hr hok hE hz hca sA hR ha0 ha1
  go_enter Tryz.func19, Tryz.ntmps19
  rw [← HMM.out]
  go_wp2_with fail
  go_at_call 53
  refine HCK.out.mono ?_
  rintro e w1 ⟨hq1, rfl⟩
  have s1 := S0.out.trans (hq1.mono S0.out.size)
  have hr1 := HR.out.below hq1 (Nat.le_refl _)
  have tk := B0.out.keep hq1; have x0 := tk.cell (j := 0) rfl; have x1 := tk.cell (j := 1) rfl; have x2 := tk.cell (j := 2) rfl; have C0 := Lib.hid tk; clear tk
  have tk := B1.out.keep hq1; have y0 := tk.cell (j := 0) rfl; have y1 := tk.cell (j := 1) rfl; have C1 := Lib.hid tk; clear tk
  have S1 := Lib.hid s1; clear s1
  have HR1 := Lib.hid hr1; clear hr1
  clear hq1
  go_wp2_with fail
  go_at_call 54
  refine (HEL.out _).mono ?_
  rintro e w2 ⟨hq1, rfl⟩
  have s1 := S1.out.trans (hq1.mono S1.out.size)
  have hr1 := HR1.out.below hq1 (Nat.le_refl _)
  clear x0 x1 x2 y0 y1
  have tk := C0.out.keep hq1; have x0 := tk.cell (j := 0) rfl; have x1 := tk.cell (j := 1) rfl; have x2 := tk.cell (j := 2) rfl; have D0 := Lib.hid tk; clear tk
  have tk := C1.out.keep hq1; have y0 := tk.cell (j := 0) rfl; have y1 := tk.cell (j := 1) rfl; have D1 := Lib.hid tk; clear tk
  have S2 := Lib.hid s1; clear s1
  have HR2 := Lib.hid hr1; clear hr1
  clear hq1
  go_wp2_with fail
  go_at_call 41
  refine (HIC.out _).mono ?_
  rintro e w3 ⟨hq1, rfl⟩
  have s1 := S2.out.trans (hq1.mono S2.out.size)
  have hr1 := HR2.out.below hq1 (Nat.le_refl _)
  clear x0 x1 x2 y0 y1
  have tk := D0.out.keep hq1; have x0 := tk.cell (j := 0) rfl; have x1 := tk.cell (j := 1) rfl; have x2 := tk.cell (j := 2) rfl; have E0 := Lib.hid tk; clear tk
  have tk := D1.out.keep hq1; have y0 := tk.cell (j := 0) rfl; have y1 := tk.cell (j := 1) rfl; have E1 := Lib.hid tk; clear tk
  have S3 := Lib.hid s1; clear s1
  have HR3 := Lib.hid hr1; clear hr1
  clear hq1
  have hw3 : w.heap.size + 1 < w3.heap.size := E1.out.lt
  go_wp2_with fail
  refine wp_region_held_drew (S := fun w' => w'.cell? ⟨w.heap.size, 0, none⟩ = some (.int .i64 L) ∧ w'.cell? ⟨w.heap.size, 1, none⟩ = some (.int .i64 (S : Int)) ∧ w'.cell? ⟨w.heap.size, 2, none⟩ = some (.slice va mm vc) ∧ w'.cell? ⟨w.heap.size + 1, 0, none⟩ = some (.bool (ineg a0)) ∧ w'.cell? ⟨w.heap.size + 1, 1, none⟩ = some (.string (imag a0))) (by kernel_rfl) ?_ (fun hHeld => ?_)
  · go_keep
  refine wpAnyH_take (i := 0) (v := ?_) rfl (by kernel_rfl) (by kernel_rfl) (by kernel_rfl) (fun _ _ _ h => h) (Or.inl ⟨by rfl, ?_⟩) (by assumption) ?_
  rotate_left
  · (intro wS hSw; (try dsimp only at hSw); go_simp; (try with_reducible rfl))
  (try simp only [Act.put, List.setIfInBounds_toArray, List.set_cons_zero, List.set_cons_succ])
  refine wpAnyH_take (i := 1) (v := ?_) rfl (by kernel_rfl) (by kernel_rfl) (by kernel_rfl) (fun _ _ _ h => h) (Or.inl ⟨by rfl, ?_⟩) (by assumption) ?_
  rotate_left
  · (intro wS hSw; (try dsimp only at hSw); go_simp; (try with_reducible rfl))
  (try simp only [Act.put, List.setIfInBounds_toArray, List.set_cons_zero, List.set_cons_succ])
  refine wpAnyH_take (i := 2) (v := ?_) rfl (by kernel_rfl) (by kernel_rfl) (by kernel_rfl) (fun _ _ _ h => h) (Or.inl ⟨by rfl, ?_⟩) (by assumption) ?_
  rotate_left
  · (intro wS hSw; (try dsimp only at hSw); go_simp; (try with_reducible rfl))
  (try simp only [Act.put, List.setIfInBounds_toArray, List.set_cons_zero, List.set_cons_succ])
  refine wpAnyH_take (i := 4) (v := ?_) rfl (by kernel_rfl) (by kernel_rfl) (by kernel_rfl) (fun _ _ _ h => h) (Or.inl ⟨by rfl, ?_⟩) (by assumption) ?_
  rotate_left
  · (intro wS hSw; (try dsimp only at hSw); go_simp; (try with_reducible rfl))
  (try simp only [Act.put, List.setIfInBounds_toArray, List.set_cons_zero, List.set_cons_succ])
  refine wpAnyH_take (i := 5) (v := ?_) rfl (by kernel_rfl) (by kernel_rfl) (by kernel_rfl) (fun _ _ _ h => h) (Or.inl ⟨by rfl, ?_⟩) (by assumption) ?_
  rotate_left
  · (intro wS hSw; (try dsimp only at hSw); go_simp; (try with_reducible rfl))
  (try simp only [Act.put, List.setIfInBounds_toArray, List.set_cons_zero, List.set_cons_succ])
  refine wpAnyH_take (i := 6) (v := ?_) rfl (by kernel_rfl) (by kernel_rfl) (by kernel_rfl) (fun _ _ _ h => h) (Or.inl ⟨by rfl, ?_⟩) (by assumption) ?_
  rotate_left
  · (intro wS hSw; (try dsimp only at hSw); go_simp; (try with_reducible rfl))
  (try simp only [Act.put, List.setIfInBounds_toArray, List.set_cons_zero, List.set_cons_succ])
  refine wpAnyH_ready (rs := [3]) (by kernel_rfl) (by simp) ?_
  refine AllReadyH.cons rfl (fun K hK => ?_) AllReadyH.nil
  go_simp
  go_at_call 34
  refine (HTAB.out _ HR3.out.drew).mono ?_
  rintro e w4 ⟨hq, tv, rfl, htb⟩
  dsimp only
  have z0 := (hq.cell (p := ⟨w.heap.size, 0, none⟩) (show w.heap.size < w3.heap.size by omega)).trans hHeld.1
  have z1 := (hq.cell (p := ⟨w.heap.size, 1, none⟩) (show w.heap.size < w3.heap.size by omega)).trans hHeld.2.1
  have z2 := (hq.cell (p := ⟨w.heap.size, 2, none⟩) (show w.heap.size < w3.heap.size by omega)).trans hHeld.2.2.1
  have z3 := (hq.cell (p := ⟨w.heap.size + 1, 0, none⟩) (show w.heap.size + 1 < w3.heap.size by omega)).trans hHeld.2.2.2.1
  have z4 := (hq.cell (p := ⟨w.heap.size + 1, 1, none⟩) (show w.heap.size + 1 < w3.heap.size by omega)).trans hHeld.2.2.2.2
  refine hK.out _ _ ⟨z0, z1, z2, z3, z4⟩ (fun hHeld2 => ?_)
  clear hK K
  (try simp only [Act.put, List.setIfInBounds_toArray, List.set_cons_zero, List.set_cons_succ])
  have s4 := S3.out.drew.trans (hq.mono S3.out.size)
  have hr4 := HR3.out.drew.below hq (Nat.le_refl _)
  have ht4 := htb.tab
  have hw4 : w.heap.size + 1 < w4.heap.size := Nat.lt_of_lt_of_le hw3 hq.size
  have S4 := Lib.hid s4; clear s4
  have HR4 := Lib.hid hr4; clear hr4
  have HT4 := Lib.hid ht4; clear ht4
  clear hq htb x0 x1 x2 y0 y1 hHeld
  refine wpAnyH_ready (rs := [7]) (by kernel_rfl) (by simp) ?_
  refine AllReadyH.cons rfl (fun K hK => ?_) AllReadyH.nil
  go_simp
  go_at_call 42
  refine (HUN.out _ _ HR4.out HT4.out).mono ?_
  rintro e w5 ⟨hq, rfl⟩
  dsimp only
  have p0 := (hq.cell (p := ⟨w.heap.size, 0, none⟩) (show w.heap.size < w4.heap.size by omega)).trans z0
  have p1 := (hq.cell (p := ⟨w.heap.size, 1, none⟩) (show w.heap.size < w4.heap.size by omega)).trans z1
  have p2 := (hq.cell (p := ⟨w.heap.size, 2, none⟩) (show w.heap.size < w4.heap.size by omega)).trans z2
  have p3 := (hq.cell (p := ⟨w.heap.size + 1, 0, none⟩) (show w.heap.size + 1 < w4.heap.size by omega)).trans z3
  have p4 := (hq.cell (p := ⟨w.heap.size + 1, 1, none⟩) (show w.heap.size + 1 < w4.heap.size by omega)).trans z4
  refine hK.out _ _ ⟨p0, p1, p2, p3, p4⟩ (fun hHeld3 => ?_)
  clear hK K hHeld2
  (try simp only [Act.put, List.setIfInBounds_toArray, List.set_cons_zero, List.set_cons_succ])
  have s5 := S4.out.trans (hq.mono S4.out.size)
  have S5 := Lib.hid s5; clear s5
  clear hq z0 z1 z2 z3 z4 p0 p1 p2 p3 p4
  refine wpAnyH_take (i := 8) (v := ?_) rfl (by kernel_rfl) (by kernel_rfl) (by kernel_rfl) (fun _ _ _ h => h) (Or.inl ⟨by rfl, ?_⟩) (by assumption) ?_
  rotate_left
  · (intro wS hSw; (try dsimp only at hSw); go_simp; (try with_reducible rfl))
  (try simp only [Act.put, List.setIfInBounds_toArray, List.set_cons_zero, List.set_cons_succ])
  refine wpAnyH_take (i := 9) (v := ?_) rfl (by kernel_rfl) (by kernel_rfl) (by kernel_rfl) (fun _ _ _ h => h) (Or.inl ⟨by rfl, ?_⟩) (by assumption) ?_
  rotate_left
  · (intro wS hSw; (try dsimp only at hSw); go_simp; (try with_reducible rfl))
  (try simp only [Act.put, List.setIfInBounds_toArray, List.set_cons_zero, List.set_cons_succ])
  refine wpAnyH_take (i := 10) (v := ?_) rfl (by kernel_rfl) (by kernel_rfl) (by kernel_rfl) (fun _ _ _ h => h) (Or.inl ⟨by rfl, ?_⟩) (by assumption) ?_
  rotate_left
  · (intro wS hSw; (try dsimp only at hSw); go_simp; (try with_reducible rfl))
  (try simp only [Act.put, List.setIfInBounds_toArray, List.set_cons_zero, List.set_cons_succ])
  refine wpAnyH_take (i := 11) (v := ?_) rfl (by kernel_rfl) (by kernel_rfl) (by kernel_rfl) (fun _ _ _ h => h) (Or.inl ⟨by rfl, ?_⟩) (by assumption) ?_
  rotate_left
  · (intro wS hSw; (try dsimp only at hSw); go_simp; (try with_reducible rfl))
  (try simp only [Act.put, List.setIfInBounds_toArray, List.set_cons_zero, List.set_cons_succ])
  refine wpAnyH_take (i := 12) (v := ?_) rfl (by kernel_rfl) (by kernel_rfl) (by kernel_rfl) (fun _ _ _ h => h) (Or.inl ⟨by rfl, ?_⟩) (by assumption) ?_
  rotate_left
  · (intro wS hSw; (try dsimp only at hSw); go_simp; (try with_reducible rfl))
  (try simp only [Act.put, List.setIfInBounds_toArray, List.set_cons_zero, List.set_cons_succ])
  refine wpAnyH_take (i := 13) (v := ?_) rfl (by kernel_rfl) (by kernel_rfl) (by kernel_rfl) (fun _ _ _ h => h) (Or.inl ⟨by rfl, ?_⟩) (by assumption) ?_
  rotate_left
  · (intro wS hSw; (try dsimp only at hSw); go_simp; (try with_reducible rfl))
  (try simp only [Act.put, List.setIfInBounds_toArray, List.set_cons_zero, List.set_cons_succ])
  refine wpAnyH_take (i := 14) (v := ?_) rfl (by kernel_rfl) (by kernel_rfl) (by kernel_rfl) (fun _ _ _ h => h) (Or.inl ⟨by rfl, ?_⟩) (by assumption) ?_
  rotate_left
  · (intro wS hSw; (try dsimp only at hSw); go_simp; (try with_reducible rfl))
  (try simp only [Act.put, List.setIfInBounds_toArray, List.set_cons_zero, List.set_cons_succ])
  refine wpAnyH_done (by kernel_rfl) ?_ _
  (try simp only [List.getElem_toArray, List.getElem_cons_zero, List.getElem_cons_succ, Act.put, List.setIfInBounds_toArray, List.set_cons_zero, List.set_cons_succ])
  clear hHeld3
  go_wp2_with fail
  go_ret2
  exact ⟨S5.out, rfl⟩
end Go.Proofs.YtalipfnbpnkgnaaGreat

/- Contracts and plain laws of several functions, one after the other: EUnrO, AwkD, LAll. -/
import Derived.Test.YtalipfnbpnkgnaaGreatEUnr
import Derived.Test.YtalipfnbpnkgnaaGreatUnrO
import Derived.Test.YtalipfnbpnkgnaaGreatAwk29
import Derived.Test.YtalipfnbpnkgnaaGreatPart6
import Derived.Test.YtalipfnbpnkgnaaGreatPart2
import Derived.Test.YtalipfnbpnkgnaaGreatFine
import Derived.Test.YtalipfnbpnkgnaaGreatPart13
import Derived.Test.YtalipfnbpnkgnaaGreatPart1
/- enumerative.Unrank at numbers that are too great (the text of XEUnr, changed by gen_eunro.py). -/
namespace Go.Proofs.YtalipfnbpnkgnaaGreat
open Go.RowKit

set_option maxRecDepth 100000 in
set_option maxHeartbeats 3200000 in
theorem eunr_big (L : Int) (S s0 n : Nat) (a0 : Int) (es : List E3) (v : Value) (w : World) (hr : Row w v es.length (ce es)) (hok : okEs es) (hE : eck L (S : Int) es = 0) (hs0 : s0 < S) (hn : n ≤ 4096) (sA : small a0) (ha0 : 0 ≤ a0) (ha1 : cw es allP n (s0 : Int) ≤ a0) :
    Calls Tryz.prog 19 #[.agg #[.int .i64 L, .int .i64 (S : Int), v], .int .i64 (s0 : Int), .int .i64 (n : Int), .agg #[.bool (ineg a0), .string (imag a0)]] w (Ret w (.tuple #[.string ⟨#[]⟩, .int .i64 2])) := by
  obtain ⟨va, vc, rfl, hle⟩ := hr.slice
  obtain ⟨mm, hmm⟩ : ∃ mm, mm = es.length := ⟨_, rfl⟩
  have hz := eck_zero hE
  have hca := chk_all hz.1
  have s0'' := ((Below.refl w.heap.size w).alloc (Nat.le_refl _) (.cells #[.int .i64 L, .int .i64 (S : Int), .slice va es.length vc] 24)).alloc (by simp) (.cells #[.bool (ineg a0), .string (imag a0)] 33)
  have b0 := (Blk.new w 24 [.int .i64 L, .int .i64 (S : Int), .slice va es.length vc]).alloc (.cells #[.bool (ineg a0), .string (imag a0)] 33)
  have b1 := Blk.new (w.alloc (.cells #[.int .i64 L, .int .i64 (S : Int), .slice va es.length vc] 24)) 33 [.bool (ineg a0), .string (imag a0)]
  simp only [World.size_alloc] at b1
  have hr0 := hr.below s0'' (Nat.le_refl _)
  have hck := echeck_any L (S : Int) es _ _ hr0 hok
  have hel := fun w' => elen_any L (S : Int) (s0 : Int) (n : Int) (.slice va es.length vc) w'
  have hic := fun w' => icheck_any (ineg a0) (imag a0) w' sA
  rw [hE] at hck
  rw [elen_zero2 hs0 hn] at hel
  have hch : chkZ (cnB (ineg a0) (imag a0)) = 0 := by rw [cnB_canon]; rfl
  rw [hch] at hic
  have htab := fun w' (h : Row w' (.slice va es.length vc) es.length (ce es)) => table_any L S n es (.slice va es.length vc) 55 #[] allP w' h (by omega) hn (by omega) (chk_inS hz.1) (fun args w => enters_of Tryz.func55 (by kernel_rfl) rfl args w) (fun s w' _ _ => every_any _ _)
  have hun := fun w' tv (h : Row w' (.slice va es.length vc) es.length (ce es)) (ht : Tab w' tv (tabL es S allP n)) => callsIn_wide.1 (unrank_big L S s0 n a0 es (.slice va es.length vc) tv allP w' h ht (by omega) (by omega) (chk_inS hz.1) (chk_lab hz.1 hz.2.1) hs0 hn sA ha0 ha1)
  rw [← hmm] at s0'' b0 b1 hr0 hck hle hel htab hun
  have HMM := Lib.hid hmm; clear hmm
  have HCK := Lib.hid hck; clear hck
  have HEL := Lib.hid hel; clear hel
  have HIC := Lib.hid hic; clear hic
  have HTAB := Lib.hid htab; clear htab
  have HUN := Lib.hid hun; clear hun
  have S0 := Lib.hid s0''; clear s0''
  have B0 := Lib.hid b0; clear b0
  have B1 := Lib.hid b1; clear b1
  have HR := Lib.hid hr0; clear hr0
  clear hr hok hE hz hca sA ha0 ha1
  go_enter Tryz.func19, Tryz.ntmps19
  rw [← HMM.out]
  go_wp2_with fail
  go_at_call 53
  refine HCK.out.mono ?_
  rintro e w1 ⟨hq1, rfl⟩
  have s1 := S0.out.trans (hq1.mono S0.out.size)
  have hr1 := HR.out.below hq1 (Nat.le_refl _)
  have tk := B0.out.keep hq1; have x0 := tk.cell (j := 0) rfl; have x1 := tk.cell (j := 1) rfl; have x2 := tk.cell (j := 2) rfl; have C0 := Lib.hid tk; clear tk
  have tk := B1.out.keep hq1; have y0 := tk.cell (j := 0) rfl; have y1 := tk.cell (j := 1) rfl; have C1 := Lib.hid tk; clear tk
  have S1 := Lib.hid s1; clear s1
  have HR1 := Lib.hid hr1; clear hr1
  clear hq1
  go_wp2_with fail
  go_at_call 54
  refine (HEL.out _).mono ?_
  rintro e w2 ⟨hq1, rfl⟩
  have s1 := S1.out.trans (hq1.mono S1.out.size)
  have hr1 := HR1.out.below hq1 (Nat.le_refl _)
  clear x0 x1 x2 y0 y1
  have tk := C0.out.keep hq1; have x0 := tk.cell (j := 0) rfl; have x1 := tk.cell (j := 1) rfl; have x2 := tk.cell (j := 2) rfl; have D0 := Lib.hid tk; clear tk
  have tk := C1.out.keep hq1; have y0 := tk.cell (j := 0) rfl; have y1 := tk.cell (j := 1) rfl; have D1 := Lib.hid tk; clear tk
  have S2 := Lib.hid s1; clear s1
  have HR2 := Lib.hid hr1; clear hr1
  clear hq1
  go_wp2_with fail
  go_at_call 41
  refine (HIC.out _).mono ?_
  rintro e w3 ⟨hq1, rfl⟩
  have s1 := S2.out.trans (hq1.mono S2.out.size)
  have hr1 := HR2.out.below hq1 (Nat.le_refl _)
  clear x0 x1 x2 y0 y1
  have tk := D0.out.keep hq1; have x0 := tk.cell (j := 0) rfl; have x1 := tk.cell (j := 1) rfl; have x2 := tk.cell (j := 2) rfl; have E0 := Lib.hid tk; clear tk
  have tk := D1.out.keep hq1; have y0 := tk.cell (j := 0) rfl; have y1 := tk.cell (j := 1) rfl; have E1 := Lib.hid tk; clear tk
  have S3 := Lib.hid s1; clear s1
  have HR3 := Lib.hid hr1; clear hr1
  clear hq1
  have hw3 : w.heap.size + 1 < w3.heap.size := E1.out.lt
  go_wp2_with fail
  refine wp_region_held_drew (S := fun w' => w'.cell? ⟨w.heap.size, 0, none⟩ = some (.int .i64 L) ∧ w'.cell? ⟨w.heap.size, 1, none⟩ = some (.int .i64 (S : Int)) ∧ w'.cell? ⟨w.heap.size, 2, none⟩ = some (.slice va mm vc) ∧ w'.cell? ⟨w.heap.size + 1, 0, none⟩ = some (.bool (ineg a0)) ∧ w'.cell? ⟨w.heap.size + 1, 1, none⟩ = some (.string (imag a0))) (by kernel_rfl) ?_ (fun hHeld => ?_)
  · go_keep
  refine wpAnyH_take (i := 0) (v := ?_) rfl (by kernel_rfl) (by kernel_rfl) (by kernel_rfl) (fun _ _ _ h => h) (Or.inl ⟨by rfl, ?_⟩) (by assumption) ?_
  rotate_left
  · (intro wS hSw; (try dsimp only at hSw); go_simp; (try with_reducible rfl))
  (try simp only [Act.put, List.setIfInBounds_toArray, List.set_cons_zero, List.set_cons_succ])
  refine wpAnyH_take (i := 1) (v := ?_) rfl (by kernel_rfl) (by kernel_rfl) (by kernel_rfl) (fun _ _ _ h => h) (Or.inl ⟨by rfl, ?_⟩) (by assumption) ?_
  rotate_left
  · (intro wS hSw; (try dsimp only at hSw); go_simp; (try with_reducible rfl))
  (try simp only [Act.put, List.setIfInBounds_toArray, List.set_cons_zero, List.set_cons_succ])
  refine wpAnyH_take (i := 2) (v := ?_) rfl (by kernel_rfl) (by kernel_rfl) (by kernel_rfl) (fun _ _ _ h => h) (Or.inl ⟨by rfl, ?_⟩) (by assumption) ?_
  rotate_left
  · (intro wS hSw; (try dsimp only at hSw); go_simp; (try with_reducible rfl))
  (try simp only [Act.put, List.setIfInBounds_toArray, List.set_cons_zero, List.set_cons_succ])
  refine wpAnyH_take (i := 4) (v := ?_) rfl (by kernel_rfl) (by kernel_rfl) (by kernel_rfl) (fun _ _ _ h => h) (Or.inl ⟨by rfl, ?_⟩) (by assumption) ?_
  rotate_left
  · (intro wS hSw; (try dsimp only at hSw); go_simp; (try with_reducible rfl))
  (try simp only [Act.put, List.setIfInBounds_toArray, List.set_cons_zero, List.set_cons_succ])
  refine wpAnyH_take (i := 5) (v := ?_) rfl (by kernel_rfl) (by kernel_rfl) (by kernel_rfl) (fun _ _ _ h => h) (Or.inl ⟨by rfl, ?_⟩) (by assumption) ?_
  rotate_left
  · (intro wS hSw; (try dsimp only at hSw); go_simp; (try with_reducible rfl))
  (try simp only [Act.put, List.setIfInBounds_toArray, List.set_cons_zero, List.set_cons_succ])
  refine wpAnyH_take (i := 6) (v := ?_) rfl (by kernel_rfl) (by kernel_rfl) (by kernel_rfl) (fun _ _ _ h => h) (Or.inl ⟨by rfl, ?_⟩) (by assumption) ?_
  rotate_left
  · (intro wS hSw; (try dsimp only at hSw); go_simp; (try with_reducible rfl))
  (try simp only [Act.put, List.setIfInBounds_toArray, List.set_cons_zero, List.set_cons_succ])
  refine wpAnyH_ready (rs := [3]) (by kernel_rfl) (by simp) ?_
  refine AllReadyH.cons rfl (fun K hK => ?_) AllReadyH.nil
  go_simp
  go_at_call 34
  refine (HTAB.out _ HR3.out.drew).mono ?_
  rintro e w4 ⟨hq, tv, rfl, htb⟩
  dsimp only
  have z0 := (hq.cell (p := ⟨w.heap.size, 0, none⟩) (show w.heap.size < w3.heap.size by omega)).trans hHeld.1
  have z1 := (hq.cell (p := ⟨w.heap.size, 1, none⟩) (show w.heap.size < w3.heap.size by omega)).trans hHeld.2.1
  have z2 := (hq.cell (p := ⟨w.heap.size, 2, none⟩) (show w.heap.size < w3.heap.size by omega)).trans hHeld.2.2.1
  have z3 := (hq.cell (p := ⟨w.heap.size + 1, 0, none⟩) (show w.heap.size + 1 < w3.heap.size by omega)).trans hHeld.2.2.2.1
  have z4 := (hq.cell (p := ⟨w.heap.size + 1, 1, none⟩) (show w.heap.size + 1 < w3.heap.size by omega)).trans hHeld.2.2.2.2
  refine hK.out _ _ ⟨z0, z1, z2, z3, z4⟩ (fun hHeld2 => ?_)
  clear hK K
  (try simp only [Act.put, List.setIfInBounds_toArray, List.set_cons_zero, List.set_cons_succ])
  have s4 := S3.out.drew.trans (hq.mono S3.out.size)
  have hr4 := HR3.out.drew.below hq (Nat.le_refl _)
  have ht4 := htb.tab
  have hw4 : w.heap.size + 1 < w4.heap.size := Nat.lt_of_lt_of_le hw3 hq.size
  have S4 := Lib.hid s4; clear s4
  have HR4 := Lib.hid hr4; clear hr4
  have HT4 := Lib.hid ht4; clear ht4
  clear hq htb x0 x1 x2 y0 y1 hHeld
  refine wpAnyH_ready (rs := [7]) (by kernel_rfl) (by simp) ?_
  refine AllReadyH.cons rfl (fun K hK => ?_) AllReadyH.nil
  go_simp
  go_at_call 42
  refine (HUN.out _ _ HR4.out HT4.out).mono ?_
  rintro e w5 ⟨hq, rfl⟩
  dsimp only
  have p0 := (hq.cell (p := ⟨w.heap.size, 0, none⟩) (show w.heap.size < w4.heap.size by omega)).trans z0
  have p1 := (hq.cell (p := ⟨w.heap.size, 1, none⟩) (show w.heap.size < w4.heap.size by omega)).trans z1
  have p2 := (hq.cell (p := ⟨w.heap.size, 2, none⟩) (show w.heap.size < w4.heap.size by omega)).trans z2
  have p3 := (hq.cell (p := ⟨w.heap.size + 1, 0, none⟩) (show w.heap.size + 1 < w4.heap.size by omega)).trans z3
  have p4 := (hq.cell (p := ⟨w.heap.size + 1, 1, none⟩) (show w.heap.size + 1 < w4.heap.size by omega)).trans z4
  refine hK.out _ _ ⟨p0, p1, p2, p3, p4⟩ (fun hHeld3 => ?_)
  clear hK K hHeld2
  (try simp only [Act.put, List.setIfInBounds_toArray, List.set_cons_zero, List.set_cons_succ])
  have s5 := S4.out.trans (hq.mono S4.out.size)
  have S5 := Lib.hid s5; clear s5
  clear hq z0 z1 z2 z3 z4 p0 p1 p2 p3 p4
  refine wpAnyH_take (i := 8) (v := ?_) rfl (by kernel_rfl) (by kernel_rfl) (by kernel_rfl) (fun _ _ _ h => h) (Or.inl ⟨by rfl, ?_⟩) (by assumption) ?_
  rotate_left
  · (intro wS hSw; (try dsimp only at hSw); go_simp; (try with_reducible rfl))
  (try simp only [Act.put, List.setIfInBounds_toArray, List.set_cons_zero, List.set_cons_succ])
  refine wpAnyH_take (i := 9) (v := ?_) rfl (by kernel_rfl) (by kernel_rfl) (by kernel_rfl) (fun _ _ _ h => h) (Or.inl ⟨by rfl, ?_⟩) (by assumption) ?_
  rotate_left
  · (intro wS hSw; (try dsimp only at hSw); go_simp; (try with_reducible rfl))
  (try simp only [Act.put, List.setIfInBounds_toArray, List.set_cons_zero, List.set_cons_succ])
  refine wpAnyH_take (i := 10) (v := ?_) rfl (by kernel_rfl) (by kernel_rfl) (by kernel_rfl) (fun _ _ _ h => h) (Or.inl ⟨by rfl, ?_⟩) (by assumption) ?_
  rotate_left
  · (intro wS hSw; (try dsimp only at hSw); go_simp; (try with_reducible rfl))
  (try simp only [Act.put, List.setIfInBounds_toArray, List.set_cons_zero, List.set_cons_succ])
  refine wpAnyH_take (i := 11) (v := ?_) rfl (by kernel_rfl) (by kernel_rfl) (by kernel_rfl) (fun _ _ _ h => h) (Or.inl ⟨by rfl, ?_⟩) (by assumption) ?_
  rotate_left
  · (intro wS hSw; (try dsimp only at hSw); go_simp; (try with_reducible rfl))
  (try simp only [Act.put, List.setIfInBounds_toArray, List.set_cons_zero, List.set_cons_succ])
  refine wpAnyH_take (i := 12) (v := ?_) rfl (by kernel_rfl) (by kernel_rfl) (by kernel_rfl) (fun _ _ _ h => h) (Or.inl ⟨by rfl, ?_⟩) (by assumption) ?_
  rotate_left
  · (intro wS hSw; (try dsimp only at hSw); go_simp; (try with_reducible rfl))
  (try simp only [Act.put, List.setIfInBounds_toArray, List.set_cons_zero, List.set_cons_succ])
  refine wpAnyH_take (i := 13) (v := ?_) rfl (by kernel_rfl) (by kernel_rfl) (by kernel_rfl) (fun _ _ _ h => h) (Or.inl ⟨by rfl, ?_⟩) (by assumption) ?_
  rotate_left
  · (intro wS hSw; (try dsimp only at hSw); go_simp; (try with_reducible rfl))
  (try simp only [Act.put, List.setIfInBounds_toArray, List.set_cons_zero, List.set_cons_succ])
  refine wpAnyH_take (i := 14) (v := ?_) rfl (by kernel_rfl) (by kernel_rfl) (by kernel_rfl) (fun _ _ _ h => h) (Or.inl ⟨by rfl, ?_⟩) (by assumption) ?_
  rotate_left
  · (intro wS hSw; (try dsimp only at hSw); go_simp; (try with_reducible rfl))
  (try simp only [Act.put, List.setIfInBounds_toArray, List.set_cons_zero, List.set_cons_succ])
  refine wpAnyH_done (by kernel_rfl) ?_ _
  (try simp only [List.getElem_toArray, List.getElem_cons_zero, List.getElem_cons_succ, Act.put, List.setIfInBounds_toArray, List.set_cons_zero, List.set_cons_succ])
  clear hHeld3
  go_wp2_with fail
  go_ret2
  exact ⟨S5.out, rfl⟩
end Go.Proofs.YtalipfnbpnkgnaaGreat

/- groovelaw29.awake is true. -/
namespace Go.Proofs.YtalipfnbpnkgnaaGreat
open Go.RowKit

theorem gold_cw : (4 : Int) < cw goldE allP 3 0 := by decide
theorem awake29_true (w : World) : Calls Tryz.prog 10 #[] w (Ret w (.bool true)) := by
  refine awake29 w (fun v w' h => ?_) (fun v w' h => ?_)
  · exact erank_some 2 2 0 goldE v ⟨#[48, 49, 48]⟩ w' h gold_ok gold_eck (by decide) (by decide) (by decide) 2 0 gold_rank
  · have h2 := eunr_ok 2 2 0 3 4 goldE v w' h gold_ok gold_eck (by decide) (by decide) (by decide) gold_cw
    have hu : (ur goldE allP 3 ((0 : Nat) : Int) 4).1 = [49, 48, 49] := by rw [show ur goldE allP 3 ((0 : Nat) : Int) 4 = ([49, 48, 49], 1) from gold_unrank]
    rw [hu] at h2
    exact h2
end Go.Proofs.YtalipfnbpnkgnaaGreat

/- The law EnumerativeAll. -/
namespace Go.Proofs.YtalipfnbpnkgnaaGreat
open Go.RowKit Go.Maps

theorem small_nat {x : Nat} (h : x ≤ 1000000) : small (x : Int) := small_of (m := 3) (by rw [Int.natAbs_natCast]; have : (256:Nat)^3 = 16777216 := by decide
                                                                                         omega) (by omega)
theorem neqZ_self (x : Int) (w : World) : (binOp .neq 33 (.agg #[.bool (ineg x), .string (imag x)]) (.agg #[.bool (ineg x), .string (imag x)])).run Tryz.prog w = .ok (.bool false) w := by
  rw [run_neq_struct, eqIn_int]
  have e : (ineg x == ineg x && imag x == imag x) = true := by rw [beq_str]; simp
  rw [e]; rfl
set_option maxRecDepth 100000 in
set_option maxHeartbeats 3200000 in
theorem lall_bad (L S : Int) (es : List E3) (v : Value) (aa nn : Nat) (w : World) (hr : Row w v es.length (ce es)) (hok : okEs es) (hF : ¬ FineP L S es) :
    Calls Tryz.prog 4 #[.agg #[.int .i64 L, .int .i64 S, v], .int .u8 (aa : Int), .int .u8 (nn : Int)] w (Ret w (.bool true)) := by
  obtain ⟨va, vc, rfl, hle⟩ := hr.slice
  obtain ⟨mz, hmz⟩ : ∃ mz, mz = es.length := ⟨_, rfl⟩
  have s0 := (Below.refl w.heap.size w).alloc (Nat.le_refl _) (.cells #[.int .i64 L, .int .i64 S, .slice va es.length vc] 24)
  have b0 := Blk.new w 24 [.int .i64 L, .int .i64 S, .slice va es.length vc]
  have hr0 := hr.below s0 (Nat.le_refl _)
  have hfi := fine_any L S es _ _ hr0 hok
  have haw := awake29_true
  rw [← hmz] at s0 b0 hr0 hfi
  have HMM := Lib.hid hmz; clear hmz
  have HFI := Lib.hid hfi; clear hfi
  have HAW := Lib.hid haw; clear haw
  have S0 := Lib.hid s0; clear s0
  have B0 := Lib.hid b0; clear b0
  clear hr hr0
  go_enter Tryz.func4, Tryz.ntmps4
  rw [← HMM.out]
  go_wp2_with fail
  go_at_call 17
  refine HFI.out.mono ?_
  rintro e w1 ⟨hq, b, rfl, hb⟩
  have s1 := S0.out.trans (hq.mono S0.out.size)
  have tk := B0.out.keep hq; have x0 := tk.cell (j := 0) rfl; have x1 := tk.cell (j := 1) rfl; have x2 := tk.cell (j := 2) rfl; have C0 := Lib.hid tk; clear tk
  have S1 := Lib.hid s1; clear s1
  clear hq
  cases b with
  | false =>
    go_wp2_with fail
    go_at_call 10
    refine (HAW.out _).mono ?_
    rintro e w2 ⟨hq, rfl⟩
    have HQ := Lib.hid hq; clear hq
    go_wp2_with fail
    go_ret
    exact ⟨S1.out.trans (HQ.out.mono S1.out.size), rfl⟩
  | true => exact absurd (hb rfl) hF
set_option maxRecDepth 100000 in
set_option maxHeartbeats 6400000 in
theorem lall_fine (l k s0 N c : Nat) (es : List E3) (v : Value) (aa nn : Nat) (w : World) (hr : Row w v es.length (ce es)) (hok : okEs es) (hE : eck (l : Int) (k : Int) es = 0) (hl4 : l ≤ 4) (hN : N = nn % 5) (hk0 : 0 < k) (hs : s0 = aa % k) (haa : aa ≤ 255) (hnn : nn ≤ 255)
    (hcw : cw es allP N (s0 : Int) = (c : Int)) :
    Calls Tryz.prog 4 #[.agg #[.int .i64 (l : Int), .int .i64 (k : Int), v], .int .u8 (aa : Int), .int .u8 (nn : Int)] w (Ret w (.bool true)) := by
  have hN4 : N ≤ 4 := by omega
  have hs0 : s0 < k := by rw [hs]; exact Nat.mod_lt _ hk0
  have hca := chk_all (eck_zero hE).1
  have hl1 : 1 ≤ l := by omega
  obtain ⟨va, vc, rfl, hle⟩ := hr.slice
  obtain ⟨mm, hmm⟩ : ∃ mm, mm = es.length := ⟨_, rfl⟩
  have s0' := (Below.refl w.heap.size w).alloc (Nat.le_refl _) (.cells #[.int .i64 (l : Int), .int .i64 (k : Int), .slice va es.length vc] 24)
  have b0 := Blk.new w 24 [.int .i64 (l : Int), .int .i64 (k : Int), .slice va es.length vc]
  have hr0 := hr.below s0' (Nat.le_refl _)
  have hfi := fine_any (l : Int) (k : Int) es _ _ hr0 hok
  have haw := awake29_true
  have hpow : (l : Int).toNat ^ N ≤ 4096 := by
    have h2 : l ^ N ≤ 4 ^ N := Nat.pow_le_pow_left hl4 N
    have h3 : 4 ^ N ≤ 4 ^ 4 := Nat.pow_le_pow_right (by decide) hN4
    have h4 : (4 : Nat) ^ 4 = 256 := by decide
    rw [Int.toNat_natCast]
    omega
  have hcb : c ≤ 4096 := by
    have h1 := cw_leL hE allP N (s0 : Int)
    rw [hcw] at h1
    have h5 : c ≤ (l : Int).toNat ^ N := Int.ofNat_le.1 h1
    omega
  have hfr := fun v' w' (h : Row w' v' es.length (ce es)) => lfrom_ok (l : Int) (k : Int) (s0 : Int) N es v' w' h hok (eck_zero hE).1 (by omega) (by omega) (by omega) (by omega) hpow
  have hss := fun (ss : List (List UInt8)) h1 h2 => keys_allW (ss := ss) hE (eck_zero hE).1 (by omega) (n := N) (s := (s0 : Int)) h1 h2
  have hkz : ¬ (k : Int) = 0 := by omega
  have hkn : ¬ k = 0 := by omega
  have hsI : (aa : Int) % (k : Int) = (s0 : Int) := by rw [← Int.natCast_emod, ← hs]
  have hNz : (nn : Int) % 5 = (N : Int) := by omega
  have hox := fun (x : Nat) (h : x ≤ 4096) w' => iof_any (x : Int) w' (by omega) (by omega)
  have hup := fun (p : Nat) (hp : p < c) v' w' (h : Row w' v' es.length (ce es)) => eunr_ok (l : Int) k s0 N (p : Int) es v' w' h hok hE hs0 (by omega) (by omega) (by omega)
  have hub := fun v' w' (h : Row w' v' es.length (ce es)) => eunr_big (l : Int) k s0 N (c : Int) es v' w' h hok hE hs0 (by omega) (small_nat (x := c) (by omega)) (by omega) (by omega)
  have hrk := fun (p : Nat) (hp : p < c) v' w' (h : Row w' v' es.length (ce es)) => erank_some (l : Int) k s0 es v' ⟨(ur es allP N (s0 : Int) (p : Int)).1.toArray⟩ w' h hok hE hs0
    (by simpa using ur_ckw hE allP N (by omega) (s0 : Int) (p : Int) (by omega) (by omega))
    (by show (ur es allP N (s0 : Int) (p : Int)).1.toArray.size ≤ 4096; rw [List.size_toArray, ur_length N (s0 : Int) (p : Int) (by omega) (by omega)]; omega)
    (p : Int) _ (by simpa using (rk_ur hE allP N (s0 : Int) (p : Int) 0 (by omega) (by omega)).1)
  have hal : (allW es N (s0 : Int)).length = c := by simp [allW, hcw]
  have hag : ∀ p, p < c → (allW es N (s0 : Int))[p]? = some (ur es allP N (s0 : Int) (p : Int)).1 := fun p hp => by
    simp [allW, hcw, hp]
  rw [← hmm] at s0' b0 hr0 hfi hfr hup hub hrk
  obtain ⟨U, hU⟩ : ∃ U : Nat → List UInt8, U = fun (p : Nat) => (ur es allP N (s0 : Int) (p : Int)).1 := ⟨_, rfl⟩
  have hU' : ∀ p : Nat, (ur es allP N (s0 : Int) (p : Int)).1 = U p := fun p => by rw [hU]
  simp only [hU'] at hup hrk hag
  have HMM := Lib.hid hmm; clear hmm
  have HFI := Lib.hid hfi; clear hfi
  have HAW := Lib.hid haw; clear haw
  have HFR := Lib.hid hfr; clear hfr
  have HSS := Lib.hid hss; clear hss
  have S0 := Lib.hid s0'; clear s0'
  have B0 := Lib.hid b0; clear b0
  have HR := Lib.hid hr0; clear hr0
  have HOX := Lib.hid hox; clear hox
  have HUP := Lib.hid hup; clear hup
  have HUB := Lib.hid hub; clear hub
  have HRK := Lib.hid hrk; clear hrk
  have HNZ := Lib.hid hNz; clear hNz
  have HSI := Lib.hid hsI; clear hsI
  have HAL := Lib.hid hal; clear hal
  have HAG := Lib.hid hag; clear hag
  clear hU hU' hN hs hE hok hr hca hcw hpow
  go_enter Tryz.func4, Tryz.ntmps4
  rw [← HMM.out]
  go_wp2_with fail
  go_at_call 17
  refine HFI.out.mono ?_
  rintro e w1 ⟨hq, b, rfl, hb⟩
  have s1 := S0.out.trans (hq.mono S0.out.size)
  have hr1 := HR.out.below hq (Nat.le_refl _)
  have tk := B0.out.keep hq; have x0 := tk.cell (j := 0) rfl; have x1 := tk.cell (j := 1) rfl; have x2 := tk.cell (j := 2) rfl; have C0 := Lib.hid tk; clear tk
  have S1 := Lib.hid s1; clear s1
  have HR1 := Lib.hid hr1; clear hr1
  clear hq
  clear hb
  cases b with
  | false =>
    go_wp2_with fail
    go_at_call 10
    refine (HAW.out _).mono ?_
    rintro e w2 ⟨hq, rfl⟩
    have HQ := Lib.hid hq; clear hq
    go_wp2_with fail
    go_ret
    exact ⟨S1.out.trans (HQ.out.mono S1.out.size), rfl⟩
  | true =>
    go_wp2_with fail
    rw [HNZ.out]
    rw [HSI.out]
    go_at_call 18
    refine (HFR.out _ _ HR1.out).mono ?_
    rintro e w2 ⟨hq, lv, ss, rfl, hn1, hm1, hlen, hrow⟩
    have hsort := HSS.out ss hn1 hm1
    have hsl : ss.length = c := by rw [← List.length_mergeSort (le := leB) ss, hsort]; exact HAL.out
    rw [hsort, hsl] at hrow
    have s2 := S1.out.trans (hq.mono S1.out.size)
    have hr2 := HR1.out.below hq (Nat.le_refl _)
    clear x0 x1 x2 hn1 hm1 hsort hsl hlen
    obtain ⟨la, lc, rfl, hlle⟩ := hrow.slice
    have tk := C0.out.keep hq; have x0 := tk.cell (j := 0) rfl; have x1 := tk.cell (j := 1) rfl; have x2 := tk.cell (j := 2) rfl; have D0 := Lib.hid tk; clear tk
    have S2 := Lib.hid s2; clear s2
    have HR2 := Lib.hid hr2; clear hr2
    have HROW := Lib.hid hrow; clear hrow
    clear hq
    go_wp2_with fail
    obtain ⟨wo, rfl⟩ : ∃ wo : World, wo = w2 := ⟨_, rfl⟩
    go_loopw [42] (fun i wr => ∃ j : Nat, j ≤ c ∧ i = .int .i64 (j : Int) ∧ Below wo.heap.size wo wr) (fun i _ => c - (intOf i).toNat)
    case atStart => exact ⟨0, Nat.zero_le _, rfl, Below.refl _ _⟩
    case round =>
      obtain ⟨j, hj, rfl, hbel⟩ := hrel
      have s3 := S2.out.trans (hbel.mono S2.out.size)
      have hr3 := HR2.out.below hbel (Nat.le_refl _)
      have hrw := HROW.out.below hbel (Nat.le_refl _)
      clear x0 x1 x2
      have tk := D0.out.keep hbel; have x0 := tk.cell (j := 0) rfl; have x1 := tk.cell (j := 1) rfl; have x2 := tk.cell (j := 2) rfl; have E0 := Lib.hid tk; clear tk
      have hgs := E0.out.lt
      have S3 := Lib.hid s3; clear s3
      have HR3 := Lib.hid hr3; clear hr3
      have HBEL := Lib.hid hbel; clear hbel
      by_cases hlt : j < c
      · obtain ⟨b, off, rfl, hbw, hce⟩ := hrw.at_ (by omega)
        have c0 := hce j (.string ⟨(U j).toArray⟩) (by rw [List.getElem?_map, HAG.out j hlt]; rfl)
        have hup := HUP.out j hlt
        have hrk := HRK.out j hlt
        have hox := HOX.out j (by omega)
        obtain ⟨us, hus⟩ : ∃ us : ByteArray, us = ⟨(U j).toArray⟩ := ⟨_, rfl⟩
        rw [← hus] at c0 hup hrk
        have hnx := neqZ_self (j : Int)
        have heq : (us.toList == us.toList) = true := by simp
        have hix : (0 : Int) ≤ (j : Int) := by omega
        have HUPJ := Lib.hid hup; clear hup
        have HRKJ := Lib.hid hrk; clear hrk
        have HOXJ := Lib.hid hox; clear hox
        clear hce hrw hus
        go_wp2_with fail
        refine wp_region_held_drew (S := fun w' => w'.cell? ⟨w.heap.size, 0, none⟩ = some (.int .i64 (l : Int)) ∧ w'.cell? ⟨w.heap.size, 1, none⟩ = some (.int .i64 (k : Int)) ∧ w'.cell? ⟨w.heap.size, 2, none⟩ = some (.slice va mm vc)) (by kernel_rfl) ?_ (fun hHeld => ?_)
        · go_keep
        refine wpAnyH_take (i := 0) (v := ?_) rfl (by kernel_rfl) (by kernel_rfl) (by kernel_rfl) (fun _ _ _ h => h) (Or.inl ⟨by kernel_rfl, ?_⟩) (by assumption) ?_
        rotate_left
        · (intro wS hSw; (try dsimp only at hSw); go_simp; (try with_reducible rfl))
        (try simp only [Act.put, List.setIfInBounds_toArray, List.set_cons_zero, List.set_cons_succ])
        refine wpAnyH_take (i := 1) (v := ?_) rfl (by kernel_rfl) (by kernel_rfl) (by kernel_rfl) (fun _ _ _ h => h) (Or.inl ⟨by kernel_rfl, ?_⟩) (by assumption) ?_
        rotate_left
        · (intro wS hSw; (try dsimp only at hSw); go_simp; (try with_reducible rfl))
        (try simp only [Act.put, List.setIfInBounds_toArray, List.set_cons_zero, List.set_cons_succ])
        refine wpAnyH_take (i := 2) (v := ?_) rfl (by kernel_rfl) (by kernel_rfl) (by kernel_rfl) (fun _ _ _ h => h) (Or.inl ⟨by kernel_rfl, ?_⟩) (by assumption) ?_
        rotate_left
        · (intro wS hSw; (try dsimp only at hSw); go_simp; (try with_reducible rfl))
        (try simp only [Act.put, List.setIfInBounds_toArray, List.set_cons_zero, List.set_cons_succ])
        refine wpAnyH_take (i := 3) (v := ?_) rfl (by kernel_rfl) (by kernel_rfl) (by kernel_rfl) (fun _ _ _ h => h) (Or.inl ⟨by kernel_rfl, ?_⟩) (by assumption) ?_
        rotate_left
        · (intro wS hSw; (try dsimp only at hSw); go_simp; (try with_reducible rfl))
        (try simp only [Act.put, List.setIfInBounds_toArray, List.set_cons_zero, List.set_cons_succ])
        refine wpAnyH_ready (rs := [4]) (by kernel_rfl) (by simp) ?_
        refine AllReadyH.cons rfl (fun K hK => ?_) AllReadyH.nil
        go_simp
        go_at_call 20
        refine (HOXJ.out _).mono ?_
        rintro e w4 ⟨hq, rfl⟩
        dsimp only
        have z0 := (hq.cell (p := ⟨w.heap.size, 0, none⟩) (show w.heap.size < wr.heap.size by omega)).trans hHeld.1
        have z1 := (hq.cell (p := ⟨w.heap.size, 1, none⟩) (show w.heap.size < wr.heap.size by omega)).trans hHeld.2.1
        have z2 := (hq.cell (p := ⟨w.heap.size, 2, none⟩) (show w.heap.size < wr.heap.size by omega)).trans hHeld.2.2
        refine hK.out _ _ ⟨z0, z1, z2⟩ (fun hHeld2 => ?_)
        clear hK K hHeld z0 z1 z2
        (try simp only [Act.put, List.setIfInBounds_toArray, List.set_cons_zero, List.set_cons_succ])
        have s4 := S3.out.drew.trans (hq.mono S3.out.size)
        have hr4 := Row.below (w := wr.drew) HR3.out hq (Nat.le_refl _)
        have hb4 := HBEL.out.drew.trans (hq.mono HBEL.out.size)
        have e4 := Blk.keep (w := wr.drew) E0.out hq
        have hg4 := e4.lt
        have S4 := Lib.hid s4; clear s4
        have HR4 := Lib.hid hr4; clear hr4
        have HB4 := Lib.hid hb4; clear hb4
        have E4 := Lib.hid e4; clear e4
        clear hq
        refine wpAnyH_ready (rs := [5]) (by kernel_rfl) (by simp) ?_
        refine AllReadyH.cons rfl (fun K hK => ?_) AllReadyH.nil
        go_simp
        go_at_call 19
        refine (HUPJ.out _ _ HR4.out).mono ?_
        rintro e w5 ⟨hq, rfl⟩
        dsimp only
        have z0 := (hq.cell (p := ⟨w.heap.size, 0, none⟩) (show w.heap.size < w4.heap.size by omega)).trans hHeld2.1
        have z1 := (hq.cell (p := ⟨w.heap.size, 1, none⟩) (show w.heap.size < w4.heap.size by omega)).trans hHeld2.2.1
        have z2 := (hq.cell (p := ⟨w.heap.size, 2, none⟩) (show w.heap.size < w4.heap.size by omega)).trans hHeld2.2.2
        refine hK.out _ _ ⟨z0, z1, z2⟩ (fun hHeld => ?_)
        clear hK K hHeld2 z0 z1 z2
        (try simp only [Act.put, List.setIfInBounds_toArray, List.set_cons_zero, List.set_cons_succ])
        have s5 := S4.out.trans (hq.mono S4.out.size)
        have hr5 := HR4.out.below hq (Nat.le_refl _)
        have hb5 := HB4.out.trans (hq.mono HB4.out.size)
        have e5 := E4.out.keep hq
        have S5 := Lib.hid s5; clear s5
        have HR5 := Lib.hid hr5; clear hr5
        have HB5 := Lib.hid hb5; clear hb5
        have E5 := Lib.hid e5; clear e5
        clear hq
        refine wpAnyH_take (i := 6) (v := ?_) rfl (by kernel_rfl) (by kernel_rfl) (by kernel_rfl) (fun _ _ _ h => h) (Or.inl ⟨by kernel_rfl, ?_⟩) (by assumption) ?_
        rotate_left
        · (intro wS hSw; (try dsimp only at hSw); go_simp; (try with_reducible rfl))
        (try simp only [Act.put, List.setIfInBounds_toArray, List.set_cons_zero, List.set_cons_succ])
        refine wpAnyH_take (i := 7) (v := ?_) rfl (by kernel_rfl) (by kernel_rfl) (by kernel_rfl) (fun _ _ _ h => h) (Or.inl ⟨by kernel_rfl, ?_⟩) (by assumption) ?_
        rotate_left
        · (intro wS hSw; (try dsimp only at hSw); go_simp; (try with_reducible rfl))
        (try simp only [Act.put, List.setIfInBounds_toArray, List.set_cons_zero, List.set_cons_succ])
        refine wpAnyH_take (i := 8) (v := ?_) rfl (by kernel_rfl) (by kernel_rfl) (by kernel_rfl) (fun _ _ _ h => h) (Or.inl ⟨by kernel_rfl, ?_⟩) (by assumption) ?_
        rotate_left
        · (intro wS hSw; (try dsimp only at hSw); go_simp; (try with_reducible rfl))
        (try simp only [Act.put, List.setIfInBounds_toArray, List.set_cons_zero, List.set_cons_succ])
        refine wpAnyH_take (i := 9) (v := ?_) rfl (by kernel_rfl) (by kernel_rfl) (by kernel_rfl) (fun _ _ _ h => h) (Or.inl ⟨by kernel_rfl, ?_⟩) (by assumption) ?_
        rotate_left
        · (intro wS hSw; (try dsimp only at hSw); go_simp; (try with_reducible rfl))
        (try simp only [Act.put, List.setIfInBounds_toArray, List.set_cons_zero, List.set_cons_succ])
        refine wpAnyH_take (i := 10) (v := ?_) rfl (by kernel_rfl) (by kernel_rfl) (by kernel_rfl) (fun _ _ _ h => h) (Or.inl ⟨by kernel_rfl, ?_⟩) (by assumption) ?_
        rotate_left
        · (intro wS hSw; (try dsimp only at hSw); go_simp; (try with_reducible rfl))
        (try simp only [Act.put, List.setIfInBounds_toArray, List.set_cons_zero, List.set_cons_succ])
        refine wpAnyH_done (by kernel_rfl) ?_ _
        (try simp only [List.getElem_toArray, List.getElem_cons_zero, List.getElem_cons_succ, Act.put, List.setIfInBounds_toArray, List.set_cons_zero, List.set_cons_succ])
        clear hHeld x0 x1 x2 c0
        have x0 := E5.out.cell (j := 0) rfl
        have x1 := E5.out.cell (j := 1) rfl
        have x2 := E5.out.cell (j := 2) rfl
        go_wp2_with fail
        go_at_call 21
        refine (HRKJ.out _ _ HR5.out).mono ?_
        rintro e w6 ⟨hq, rfl⟩
        have s6 := S5.out.trans (hq.mono S5.out.size)
        have hb6 := HB5.out.trans (hq.mono HB5.out.size)
        clear x0 x1 x2
        have S6 := Lib.hid s6; clear s6
        have HB6 := Lib.hid hb6; clear hb6
        clear hq
        go_wp2_with fail
        have bz := Blk.new w6 33 [.bool (ineg (j : Int)), .string (imag (j : Int))]
        have hb7 : Below w6.heap.size w6 (w6.alloc (.cells #[.bool (ineg (j : Int)), .string (imag (j : Int))] 33)) := (Below.refl _ _).alloc (Nat.le_refl _) _
        obtain ⟨w7, hw7⟩ : ∃ w7, w7 = w6.alloc (.cells #[.bool (ineg (j : Int)), .string (imag (j : Int))] 33) := ⟨_, rfl⟩
        rw [← hw7] at hb7 ⊢
        replace bz : Blk w7 w6.heap.size 33 [.bool (ineg (j : Int)), .string (imag (j : Int))] := by rw [hw7]; exact bz
        have hbz := bz.lt
        have q0 := bz.cell (j := 0) rfl
        have q1 := bz.cell (j := 1) rfl
        have hb7w := HB6.out.trans (hb7.mono HB6.out.size)
        clear hw7 bz hb7
        refine wp_region_held_drew (S := fun w' => w'.cell? ⟨w6.heap.size, 0, none⟩ = some (.bool (ineg (j : Int))) ∧ w'.cell? ⟨w6.heap.size, 1, none⟩ = some (.string (imag (j : Int)))) (by kernel_rfl) ?_ (fun hHeld => ?_)
        · go_keep
        refine wpAnyH_take (i := 0) (v := ?_) rfl (by kernel_rfl) (by kernel_rfl) (by kernel_rfl) (fun _ _ _ h => h) (Or.inl ⟨by kernel_rfl, ?_⟩) (by assumption) ?_
        rotate_left
        · (intro wS hSw; (try dsimp only at hSw); go_simp; (try with_reducible rfl))
        (try simp only [Act.put, List.setIfInBounds_toArray, List.set_cons_zero, List.set_cons_succ])
        refine wpAnyH_take (i := 1) (v := ?_) rfl (by kernel_rfl) (by kernel_rfl) (by kernel_rfl) (fun _ _ _ h => h) (Or.inl ⟨by kernel_rfl, ?_⟩) (by assumption) ?_
        rotate_left
        · (intro wS hSw; (try dsimp only at hSw); go_simp; (try with_reducible rfl))
        (try simp only [Act.put, List.setIfInBounds_toArray, List.set_cons_zero, List.set_cons_succ])
        refine wpAnyH_take (i := 2) (v := ?_) rfl (by kernel_rfl) (by kernel_rfl) (by kernel_rfl) (fun _ _ _ h => h) (Or.inl ⟨by kernel_rfl, ?_⟩) (by assumption) ?_
        rotate_left
        · (intro wS hSw; (try dsimp only at hSw); go_simp; (try with_reducible rfl))
        (try simp only [Act.put, List.setIfInBounds_toArray, List.set_cons_zero, List.set_cons_succ])
        refine wpAnyH_take (i := 3) (v := ?_) rfl (by kernel_rfl) (by kernel_rfl) (by kernel_rfl) (fun _ _ _ h => h) (Or.inl ⟨by kernel_rfl, ?_⟩) (by assumption) ?_
        rotate_left
        · (intro wS hSw; (try dsimp only at hSw); go_simp; (try with_reducible rfl))
        (try simp only [Act.put, List.setIfInBounds_toArray, List.set_cons_zero, List.set_cons_succ])
        refine wpAnyH_take (i := 4) (v := ?_) rfl (by kernel_rfl) (by kernel_rfl) (by kernel_rfl) (fun _ _ _ h => h) (Or.inl ⟨by kernel_rfl, ?_⟩) (by assumption) ?_
        rotate_left
        · (intro wS hSw; (try dsimp only at hSw); go_simp; (try with_reducible rfl))
        (try simp only [Act.put, List.setIfInBounds_toArray, List.set_cons_zero, List.set_cons_succ])
        refine wpAnyH_take (i := 5) (v := ?_) rfl (by kernel_rfl) (by kernel_rfl) (by kernel_rfl) (fun _ _ _ h => h) (Or.inl ⟨by kernel_rfl, ?_⟩) (by assumption) ?_
        rotate_left
        · (intro wS hSw; (try dsimp only at hSw); go_simp; (try with_reducible rfl))
        (try simp only [Act.put, List.setIfInBounds_toArray, List.set_cons_zero, List.set_cons_succ])
        refine wpAnyH_take (i := 6) (v := ?_) rfl (by kernel_rfl) (by kernel_rfl) (by kernel_rfl) (fun _ _ _ h => h) (Or.inl ⟨by kernel_rfl, ?_⟩) (by assumption) ?_
        rotate_left
        · (intro wS hSw; (try dsimp only at hSw); go_simp; (try with_reducible rfl))
        (try simp only [Act.put, List.setIfInBounds_toArray, List.set_cons_zero, List.set_cons_succ])
        refine wpAnyH_take (i := 7) (v := ?_) rfl (by kernel_rfl) (by kernel_rfl) (by kernel_rfl) (fun _ _ _ h => h) (Or.inl ⟨by kernel_rfl, ?_⟩) (by assumption) ?_
        rotate_left
        · (intro wS hSw; (try dsimp only at hSw); go_simp; (try with_reducible rfl))
        (try simp only [Act.put, List.setIfInBounds_toArray, List.set_cons_zero, List.set_cons_succ])
        refine wpAnyH_take (i := 8) (v := ?_) rfl (by kernel_rfl) (by kernel_rfl) (by kernel_rfl) (fun _ _ _ h => h) (Or.inl ⟨by kernel_rfl, ?_⟩) (by assumption) ?_
        rotate_left
        · (intro wS hSw; (try dsimp only at hSw); go_simp; (try with_reducible rfl))
        (try simp only [Act.put, List.setIfInBounds_toArray, List.set_cons_zero, List.set_cons_succ])
        refine wpAnyH_take (i := 9) (v := ?_) rfl (by kernel_rfl) (by kernel_rfl) (by kernel_rfl) (fun _ _ _ h => h) (Or.inl ⟨by kernel_rfl, ?_⟩) (by assumption) ?_
        rotate_left
        · (intro wS hSw; (try dsimp only at hSw); go_simp; (try with_reducible rfl))
        (try simp only [Act.put, List.setIfInBounds_toArray, List.set_cons_zero, List.set_cons_succ])
        refine wpAnyH_take (i := 10) (v := ?_) rfl (by kernel_rfl) (by kernel_rfl) (by kernel_rfl) (fun _ _ _ h => h) (Or.inl ⟨by kernel_rfl, ?_⟩) (by assumption) ?_
        rotate_left
        · (intro wS hSw; (try dsimp only at hSw); go_simp; (try with_reducible rfl))
        (try simp only [Act.put, List.setIfInBounds_toArray, List.set_cons_zero, List.set_cons_succ])
        refine wpAnyH_take (i := 11) (v := ?_) rfl (by kernel_rfl) (by kernel_rfl) (by kernel_rfl) (fun _ _ _ h => h) (Or.inl ⟨by kernel_rfl, ?_⟩) (by assumption) ?_
        rotate_left
        · (intro wS hSw; (try dsimp only at hSw); go_simp; (try with_reducible rfl))
        (try simp only [Act.put, List.setIfInBounds_toArray, List.set_cons_zero, List.set_cons_succ])
        refine wpAnyH_take (i := 12) (v := ?_) rfl (by kernel_rfl) (by kernel_rfl) (by kernel_rfl) (fun _ _ _ h => h) (Or.inl ⟨by kernel_rfl, ?_⟩) (by assumption) ?_
        rotate_left
        · (intro wS hSw; (try dsimp only at hSw); go_simp; (try with_reducible rfl))
        (try simp only [Act.put, List.setIfInBounds_toArray, List.set_cons_zero, List.set_cons_succ])
        refine wpAnyH_take (i := 13) (v := ?_) rfl (by kernel_rfl) (by kernel_rfl) (by kernel_rfl) (fun _ _ _ h => h) (Or.inl ⟨by kernel_rfl, ?_⟩) (by assumption) ?_
        rotate_left
        · (intro wS hSw; (try dsimp only at hSw); go_simp; (try with_reducible rfl))
        (try simp only [Act.put, List.setIfInBounds_toArray, List.set_cons_zero, List.set_cons_succ])
        refine wpAnyH_ready (rs := [14]) (by kernel_rfl) (by simp) ?_
        refine AllReadyH.cons rfl (fun K hK => ?_) AllReadyH.nil
        rw [if_pos (by kernel_rfl)]
        go_simp
        go_at_call 20
        refine (HOXJ.out _).mono ?_
        rintro e w8 ⟨hq, rfl⟩
        dsimp only
        have z0 := (hq.cell (p := ⟨w6.heap.size, 0, none⟩) (show w6.heap.size < w7.heap.size by omega)).trans hHeld.1
        have z1 := (hq.cell (p := ⟨w6.heap.size, 1, none⟩) (show w6.heap.size < w7.heap.size by omega)).trans hHeld.2
        refine hK.out _ _ ⟨z0, z1⟩ (fun hHeld2 => ?_)
        clear hK K hHeld z0 z1
        (try simp only [Act.put, List.setIfInBounds_toArray, List.set_cons_zero, List.set_cons_succ])
        have hb8 := hb7w.drew.trans (hq.mono hb7w.size)
        clear hq
        refine wpAnyH_take (i := 15) (v := ?_) rfl (by kernel_rfl) (by kernel_rfl) (by kernel_rfl) (fun _ _ _ h => h) (Or.inl ⟨by kernel_rfl, ?_⟩) (by assumption) ?_
        rotate_left
        · (intro wS hSw; (try dsimp only at hSw); go_simp; (try with_reducible rfl))
        (try simp only [Act.put, List.setIfInBounds_toArray, List.set_cons_zero, List.set_cons_succ])
        refine wpAnyH_take (i := 16) (v := ?_) rfl (by kernel_rfl) (by kernel_rfl) (by kernel_rfl) (fun _ _ _ h => h) (Or.inl ⟨by kernel_rfl, ?_⟩) (by assumption) ?_
        rotate_left
        · (intro wS hSw; (try dsimp only at hSw); go_simp; (try with_reducible rfl))
        (try simp only [Act.put, List.setIfInBounds_toArray, List.set_cons_zero, List.set_cons_succ])
        refine wpAnyH_done (by kernel_rfl) ?_ _
        (try simp only [List.getElem_toArray, List.getElem_cons_zero, List.getElem_cons_succ, Act.put, List.setIfInBounds_toArray, List.set_cons_zero, List.set_cons_succ])
        clear hHeld2 q0 q1
        go_wp2_with fail
        go_roundw
        case rel => exact ⟨j + 1, by omega, by go_num, hb8⟩
        case measure => simp [intOf]; omega
      · obtain rfl : j = c := by omega
        have hof := HOX.out j hcb
        have HOFC := Lib.hid hof; clear hof
        clear x0 x1 x2
        have x0 := E0.out.cell (j := 0) rfl
        have x1 := E0.out.cell (j := 1) rfl
        have x2 := E0.out.cell (j := 2) rfl
        clear hrw
        go_wp2_with fail
        refine wp_region_held_drew (S := fun w' => w'.cell? ⟨w.heap.size, 0, none⟩ = some (.int .i64 (l : Int)) ∧ w'.cell? ⟨w.heap.size, 1, none⟩ = some (.int .i64 (k : Int)) ∧ w'.cell? ⟨w.heap.size, 2, none⟩ = some (.slice va mm vc)) (by kernel_rfl) ?_ (fun hHeld => ?_)
        · go_keep
        refine wpAnyH_take (i := 0) (v := ?_) rfl (by kernel_rfl) (by kernel_rfl) (by kernel_rfl) (fun _ _ _ h => h) (Or.inl ⟨by kernel_rfl, ?_⟩) (by assumption) ?_
        rotate_left
        · (intro wS hSw; (try dsimp only at hSw); go_simp; (try with_reducible rfl))
        (try simp only [Act.put, List.setIfInBounds_toArray, List.set_cons_zero, List.set_cons_succ])
        refine wpAnyH_take (i := 1) (v := ?_) rfl (by kernel_rfl) (by kernel_rfl) (by kernel_rfl) (fun _ _ _ h => h) (Or.inl ⟨by kernel_rfl, ?_⟩) (by assumption) ?_
        rotate_left
        · (intro wS hSw; (try dsimp only at hSw); go_simp; (try with_reducible rfl))
        (try simp only [Act.put, List.setIfInBounds_toArray, List.set_cons_zero, List.set_cons_succ])
        refine wpAnyH_take (i := 2) (v := ?_) rfl (by kernel_rfl) (by kernel_rfl) (by kernel_rfl) (fun _ _ _ h => h) (Or.inl ⟨by kernel_rfl, ?_⟩) (by assumption) ?_
        rotate_left
        · (intro wS hSw; (try dsimp only at hSw); go_simp; (try with_reducible rfl))
        (try simp only [Act.put, List.setIfInBounds_toArray, List.set_cons_zero, List.set_cons_succ])
        refine wpAnyH_take (i := 3) (v := ?_) rfl (by kernel_rfl) (by kernel_rfl) (by kernel_rfl) (fun _ _ _ h => h) (Or.inl ⟨by kernel_rfl, ?_⟩) (by assumption) ?_
        rotate_left
        · (intro wS hSw; (try dsimp only at hSw); go_simp; (try with_reducible rfl))
        (try simp only [Act.put, List.setIfInBounds_toArray, List.set_cons_zero, List.set_cons_succ])
        refine wpAnyH_take (i := 4) (v := ?_) rfl (by kernel_rfl) (by kernel_rfl) (by kernel_rfl) (fun _ _ _ h => h) (Or.inl ⟨by kernel_rfl, ?_⟩) (by assumption) ?_
        rotate_left
        · (intro wS hSw; (try dsimp only at hSw); go_simp; (try with_reducible rfl))
        (try simp only [Act.put, List.setIfInBounds_toArray, List.set_cons_zero, List.set_cons_succ])
        refine wpAnyH_ready (rs := [5]) (by kernel_rfl) (by simp) ?_
        refine AllReadyH.cons rfl (fun K hK => ?_) AllReadyH.nil
        go_simp
        go_at_call 20
        refine (HOFC.out _).mono ?_
        rintro e w4 ⟨hq, rfl⟩
        dsimp only
        have z0 := (hq.cell (p := ⟨w.heap.size, 0, none⟩) (show w.heap.size < wr.heap.size by omega)).trans hHeld.1
        have z1 := (hq.cell (p := ⟨w.heap.size, 1, none⟩) (show w.heap.size < wr.heap.size by omega)).trans hHeld.2.1
        have z2 := (hq.cell (p := ⟨w.heap.size, 2, none⟩) (show w.heap.size < wr.heap.size by omega)).trans hHeld.2.2
        refine hK.out _ _ ⟨z0, z1, z2⟩ (fun hHeld2 => ?_)
        clear hK K hHeld z0 z1 z2
        (try simp only [Act.put, List.setIfInBounds_toArray, List.set_cons_zero, List.set_cons_succ])
        have s4 := S3.out.drew.trans (hq.mono S3.out.size)
        have hr4 := Row.below (w := wr.drew) HR3.out hq (Nat.le_refl _)
        have hg4 : w.heap.size < w4.heap.size := Nat.lt_of_lt_of_le hgs hq.size
        have S4 := Lib.hid s4; clear s4
        have HR4 := Lib.hid hr4; clear hr4
        clear hq
        refine wpAnyH_ready (rs := [6]) (by kernel_rfl) (by simp) ?_
        refine AllReadyH.cons rfl (fun K hK => ?_) AllReadyH.nil
        go_simp
        go_at_call 19
        refine (HUB.out _ _ HR4.out).mono ?_
        rintro e w5 ⟨hq, rfl⟩
        dsimp only
        have z0 := (hq.cell (p := ⟨w.heap.size, 0, none⟩) (show w.heap.size < w4.heap.size by omega)).trans hHeld2.1
        have z1 := (hq.cell (p := ⟨w.heap.size, 1, none⟩) (show w.heap.size < w4.heap.size by omega)).trans hHeld2.2.1
        have z2 := (hq.cell (p := ⟨w.heap.size, 2, none⟩) (show w.heap.size < w4.heap.size by omega)).trans hHeld2.2.2
        refine hK.out _ _ ⟨z0, z1, z2⟩ (fun hHeld => ?_)
        clear hK K hHeld2 z0 z1 z2
        (try simp only [Act.put, List.setIfInBounds_toArray, List.set_cons_zero, List.set_cons_succ])
        have s5 := S4.out.trans (hq.mono S4.out.size)
        have S5 := Lib.hid s5; clear s5
        clear hq
        refine wpAnyH_take (i := 7) (v := ?_) rfl (by kernel_rfl) (by kernel_rfl) (by kernel_rfl) (fun _ _ _ h => h) (Or.inl ⟨by kernel_rfl, ?_⟩) (by assumption) ?_
        rotate_left
        · (intro wS hSw; (try dsimp only at hSw); go_simp; (try with_reducible rfl))
        (try simp only [Act.put, List.setIfInBounds_toArray, List.set_cons_zero, List.set_cons_succ])
        refine wpAnyH_take (i := 8) (v := ?_) rfl (by kernel_rfl) (by kernel_rfl) (by kernel_rfl) (fun _ _ _ h => h) (Or.inl ⟨by kernel_rfl, ?_⟩) (by assumption) ?_
        rotate_left
        · (intro wS hSw; (try dsimp only at hSw); go_simp; (try with_reducible rfl))
        (try simp only [Act.put, List.setIfInBounds_toArray, List.set_cons_zero, List.set_cons_succ])
        refine wpAnyH_take (i := 9) (v := ?_) rfl (by kernel_rfl) (by kernel_rfl) (by kernel_rfl) (fun _ _ _ h => h) (Or.inl ⟨by kernel_rfl, ?_⟩) (by assumption) ?_
        rotate_left
        · (intro wS hSw; (try dsimp only at hSw); go_simp; (try with_reducible rfl))
        (try simp only [Act.put, List.setIfInBounds_toArray, List.set_cons_zero, List.set_cons_succ])
        refine wpAnyH_take (i := 10) (v := ?_) rfl (by kernel_rfl) (by kernel_rfl) (by kernel_rfl) (fun _ _ _ h => h) (Or.inl ⟨by kernel_rfl, ?_⟩) (by assumption) ?_
        rotate_left
        · (intro wS hSw; (try dsimp only at hSw); go_simp; (try with_reducible rfl))
        (try simp only [Act.put, List.setIfInBounds_toArray, List.set_cons_zero, List.set_cons_succ])
        refine wpAnyH_take (i := 11) (v := ?_) rfl (by kernel_rfl) (by kernel_rfl) (by kernel_rfl) (fun _ _ _ h => h) (Or.inl ⟨by kernel_rfl, ?_⟩) (by assumption) ?_
        rotate_left
        · (intro wS hSw; (try dsimp only at hSw); go_simp; (try with_reducible rfl))
        (try simp only [Act.put, List.setIfInBounds_toArray, List.set_cons_zero, List.set_cons_succ])
        refine wpAnyH_done (by kernel_rfl) ?_ _
        (try simp only [List.getElem_toArray, List.getElem_cons_zero, List.getElem_cons_succ, Act.put, List.setIfInBounds_toArray, List.set_cons_zero, List.set_cons_succ])
        clear hHeld x0 x1 x2
        go_wp2_with fail
        go_at_call 10
        refine (HAW.out _).mono ?_
        rintro e w6 ⟨hq, rfl⟩
        have s6 := S5.out.trans (hq.mono S5.out.size)
        have S6 := Lib.hid s6; clear s6
        clear hq
        go_wp2_with fail
        go_ret
        exact ⟨S6.out, rfl⟩
theorem lall_all (L S : Int) (es : List E3) (v : Value) (aa nn : Nat) (w : World) (hr : Row w v es.length (ce es)) (hok : okEs es) (haa : aa ≤ 255) (hnn : nn ≤ 255) :
    Calls Tryz.prog 4 #[.agg #[.int .i64 L, .int .i64 S, v], .int .u8 (aa : Int), .int .u8 (nn : Int)] w (Ret w (.bool true)) := by
  rcases Classical.em (FineP L S es) with hF | hF
  · obtain ⟨hE, hS, hL⟩ := hF
    have hca := chk_all (eck_zero hE).1
    obtain ⟨l, rfl⟩ : ∃ l : Nat, L = l := ⟨L.toNat, by omega⟩
    obtain ⟨k, rfl⟩ : ∃ k : Nat, S = k := ⟨S.toNat, by omega⟩
    have hcn := cw_nonneg es allP (nn % 5) ((aa % k : Nat) : Int)
    have hcw : cw es allP (nn % 5) ((aa % k : Nat) : Int) = ((cw es allP (nn % 5) ((aa % k : Nat) : Int)).toNat : Int) := (Int.toNat_of_nonneg hcn).symm
    exact lall_fine l k _ _ _ es v aa nn w hr hok hE (by omega) rfl (by omega) rfl haa hnn hcw
  · exact lall_bad L S es v aa nn w hr hok hF
end Go.Proofs.YtalipfnbpnkgnaaGreat


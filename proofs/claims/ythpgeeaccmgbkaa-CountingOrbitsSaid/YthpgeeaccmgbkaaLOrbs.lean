/- The law CountingOrbits. -/
import Derived.Deep.QuietTactic
import Derived.Deep.RegionHeld3
import Derived.Test.YthpgeeaccmgbkaaFin22
import Derived.Test.YthpgeeaccmgbkaaPart12
import Derived.Test.YthpgeeaccmgbkaaPart2
import Derived.Test.YthpgeeaccmgbkaaMulI
import Derived.Test.YthpgeeaccmgbkaaAwk22
import Derived.Test.YthpgeeaccmgbkaaPart11
namespace Go.Proofs.Ythpgeeaccmgbkaa
open Go.RowKit

theorem cmpZ_pos {z : Int} (h : 0 ≤ z) : decide (cmpZ z 0 < 0) = false := by
  simp only [cmpZ]
  repeat' split
  all_goals (try omega)
  all_goals (try simp)
  all_goals (try omega)
set_option maxRecDepth 100000 in
set_option maxHeartbeats 6400000 in
theorem lorbs_all (L S : Int) (es : List E3) (v : Value) (a1 : Nat) (w : World) (hr : Row w v es.length (ce es)) (hok : okEs es) (h1 : a1 ≤ 255) :
    Calls Try.prog 3 #[.agg #[.int .i64 L, .int .i64 S, v], .int .u8 (a1 : Int)] w (Ret w (.bool true)) := by
  obtain ⟨va, vc, rfl, hle⟩ := hr.slice
  obtain ⟨mz, hmz⟩ : ∃ mz, mz = es.length := ⟨_, rfl⟩
  have s0 := (Below.refl w.heap.size w).alloc (Nat.le_refl _) (.cells #[.int .i64 L, .int .i64 S, .slice va es.length vc] 24)
  have b0 := Blk.new w 24 [.int .i64 L, .int .i64 S, .slice va es.length vc]
  have hr0 := hr.below s0 (Nat.le_refl _)
  have hfi := fine22_any L S es _ _ hr0
  have haw := awake22_true
  have horb := fun (k N : Nat) (P : Nat → Nat) (hc : chk L (k : Int) es = 0) (hS : k ≤ 32) (hN1 : 1 ≤ N) (hN : N ≤ 40) h2 h3 w' (h : Row w' (.slice va es.length vc) es.length (ce es)) => orbits_q L k N es _ P w' h hok hc hS hN1 hN h2 h3
  have hclo := fun (k N : Nat) (hc : chk L (k : Int) es = 0) (hS : k ≤ 32) (hN : N ≤ 4096) w' (h : Row w' (.slice va es.length vc) es.length (ce es)) => Closed_ok L k N es _ w' h hok hc hS hN
  rw [← hmz] at s0 b0 hr0 hfi horb hclo
  have HMM := Lib.hid hmz; clear hmz
  have HFI := Lib.hid hfi; clear hfi
  have HAW := Lib.hid haw; clear haw
  have HORB := Lib.hid horb; clear horb
  have HCLO := Lib.hid hclo; clear hclo
  have S0 := Lib.hid s0; clear s0
  have B0 := Lib.hid b0; clear b0
  have HR := Lib.hid hr0; clear hr0
  clear hr
  go_enter Try.func3, Try.ntmps3
  rw [← HMM.out]
  go_wp2_with fail
  go_at_call 9
  refine HFI.out.mono ?_
  rintro e w1 ⟨hq, b, rfl, hb⟩
  have s1 := S0.out.trans (hq.mono S0.out.size)
  have hr1 := HR.out.below hq (Nat.le_refl _)
  have tk := B0.out.keep hq; have x0 := tk.cell (j := 0) rfl; have x1 := tk.cell (j := 1) rfl; have x2 := tk.cell (j := 2) rfl; have C0 := Lib.hid tk; clear tk
  have S1 := Lib.hid s1; clear s1
  have HR1 := Lib.hid hr1; clear hr1
  clear hq
  cases b with
  | false =>
    go_wp2_with fail
    go_at_call 10
    refine (HAW.out _).mono ?_
    rintro e w2 ⟨hq, rfl⟩
    have HQ := Lib.hid hq; clear hq
    go_wp2_with fail
    go_ret
    exact ⟨S1.out.trans (HQ.out.mono S1.out.size), rfl⟩
  | true =>
    obtain ⟨hchk, hS8, hlen⟩ := hb rfl
    obtain ⟨g, rfl⟩ : ∃ g : Nat, S = g := ⟨S.toNat, by have := chk_all hchk; omega⟩
    obtain ⟨P, hP1, hP2, hP3⟩ := orbits_ex (chk_inS hchk)
    obtain ⟨k, hk⟩ : ∃ k, k = 1 + a1 % 24 := ⟨_, rfl⟩
    have hk1 : 1 ≤ k := by omega
    have hk24 : k ≤ 24 := by omega
    have r3 : 1 + (a1 : Int) % 24 = (k : Int) := by omega
    have hof0 := fun w' => iof_any 0 w' (by decide) (by decide)
    have hor := fun (d : Nat) (h1 : 1 ≤ d) (h2 : d ≤ k) => HORB.out g d P hchk (by omega) h1 (by omega) hP2 hP3
    have hcl := HCLO.out g k hchk (by omega) (by omega)
    rw [hP2 k (by omega)] at hcl
    have hsm := dS_sm hP2 (by omega) (show g ≤ 32 by omega) (n := k) (by omega)
    have hds := dS_succ P k
    have R3 := Lib.hid r3; clear r3
    have HOF0 := Lib.hid hof0; clear hof0
    have HOR := Lib.hid hor; clear hor
    have HCL := Lib.hid hcl; clear hcl
    have HSM := Lib.hid hsm; clear hsm
    have HDS := Lib.hid hds; clear hds
    have HP1 := Lib.hid hP1; clear hP1
    clear hb hchk hlen hk hP2 hP3
    go_wp2_with fail
    rw [R3.out]
    go_at_call 11
    refine (HOF0.out _).mono ?_
    rintro e w2 ⟨hq, rfl⟩
    have bB := Blk.new w2 28 [.bool (ineg 0), .string (imag 0)]
    have s2 := S1.out.trans (hq.mono S1.out.size)
    have hr2 := HR1.out.below hq (Nat.le_refl _)
    have d2 := C0.out.keep hq
    have hG2 := d2.lt
    have bel0 := (Below.refl w2.heap.size w2).alloc (Nat.le_refl _) (.cells #[.bool (ineg 0), .string (imag 0)] 28)
    clear x0 x1 x2 hq
    have S2 := Lib.hid s2; clear s2
    have HR2 := Lib.hid hr2; clear hr2
    have D2 := Lib.hid d2; clear d2
    have BB := Lib.hid bB; clear bB
    have BEL0 := Lib.hid bel0; clear bel0
    go_wp2_with fail
    go_loopw [7] (fun i wr => ∃ d : Nat, 1 ≤ d ∧ d ≤ k + 1 ∧ i = .int .i64 d ∧ Below w2.heap.size w2 wr ∧ Blk wr w2.heap.size 28 [.bool (ineg (dS P k d)), .string (imag (dS P k d))]) (fun i _ => k + 1 - (intOf i).toNat)
    case atStart =>
      exact ⟨1, Nat.le_refl _, by omega, rfl, BEL0.out, by rw [show dS P k 1 = 0 by simp [dS]]; exact BB.out⟩
    case round =>
      obtain ⟨d, hd1, hdk, rfl, hbel, hblk⟩ := hrel
      have hblt := hblk.lt
      have d4 := D2.out.below hbel hG2
      have hr4 := HR2.out.below hbel (Nat.le_refl _)
      have x0 := d4.cell (j := 0) rfl
      have x1 := d4.cell (j := 1) rfl
      have x2 := d4.cell (j := 2) rfl
      by_cases hdl : d ≤ k
      · have tj : decide ((d : Int) ≤ (k : Int)) = true := by simp; omega
        have hdn : ¬ (d : Int) = 0 := by omega
        have hdw : IntKind.i64.wrap ((d : Int) + 1) = (d : Int) + 1 := IntWalk.i64_in _ (by omega)
        obtain ⟨z, hz⟩ : ∃ z, z = k % d := ⟨_, rfl⟩
        have htm : Int.tmod (k : Int) (d : Int) = (z : Int) := by rw [Int.tmod_eq_emod_of_nonneg (by omega), ← Int.natCast_emod, ← hz]
        have hsd := HDS.out d
        rw [← hz] at hsd
        by_cases hz0 : z = 0
        · subst hz0
          rw [if_pos ⟨by omega, rfl⟩] at hsd
          have hPd := Nat.div_mul_cancel (HP1.out d (by omega))
          have hO := HOR.out d hd1 hdl
          obtain ⟨Q, hQ⟩ : ∃ Q, Q = P d / d := ⟨_, rfl⟩
          rw [← hQ] at hO hPd
          have hM0 := HSM.out d (by omega)
          have hM1 := HSM.out (d + 1) (by omega)
          have hn0 := dS_nonneg P k d
          obtain ⟨M, hM⟩ : ∃ M, M = dS P k d := ⟨_, rfl⟩
          rw [← hM] at hblk hsd hM0 hn0
          rw [hsd, ← hPd, Int.natCast_mul] at hM1
          rw [← hPd, Int.natCast_mul] at hsd
          have hQd : sm (2 * k + 2) ((Q : Int) * (d : Int)) := by unfold sm at hM0 hM1 ⊢; have := Int.mul_nonneg (Int.natCast_nonneg Q) (Int.natCast_nonneg d); omega
          have hQs : sm (2 * k + 2) (Q : Int) := by
            unfold sm at hQd ⊢
            rw [Int.natAbs_mul, Int.natAbs_natCast, Int.natAbs_natCast] at hQd
            rw [Int.natAbs_natCast]
            exact Nat.lt_of_le_of_lt (Nat.le_mul_of_pos_right Q (by omega)) hQd
          have hsdd : sm 1 (d : Int) := by unfold sm; omega
          obtain ⟨X, hX⟩ : ∃ X : Int, X = Q := ⟨_, rfl⟩
          have hX0 : 0 ≤ X := by omega
          rw [← hX] at hO hsd hM1 hQd hQs
          obtain ⟨dd, hdd⟩ : ∃ dd : Int, dd = d := ⟨_, rfl⟩
          have hMS := hsd.symm
          have hmul := fun w' => imulV X (d : Int) w' (Nat.le_trans hQs.size (by omega)) (Nat.le_trans hsdd.size (by omega))
          have hofd := fun w' => iof_any (d : Int) w' (by omega) (by omega)
          have hadd := fun w' => iadd_any (ineg M) (ineg (X * (d : Int))) (imag M) (imag (X * (d : Int))) w' (Nat.le_trans hM0.size (by omega)) (Nat.le_trans hQd.size (by omega))
          simp only [ival_canon] at hadd
          have hcmp := fun w' => icompare_any (ineg X) (ineg 0) (imag X) (imag 0) w' (Nat.le_trans hQs.size (by omega)) (by rw [imag_zero]; decide)
          simp only [ival_canon] at hcmp
          have hc0 := cmpZ_pos hX0
          obtain ⟨cz, hcz⟩ : ∃ cz, cz = cmpZ X 0 := ⟨_, rfl⟩
          rw [← hcz] at hcmp hc0
          have HO := Lib.hid hO; clear hO
          have HMS := Lib.hid hMS; clear hMS
          have HMUL := Lib.hid hmul; clear hmul
          have HOFD := Lib.hid hofd; clear hofd
          have HADD := Lib.hid hadd; clear hadd
          have HCMP := Lib.hid hcmp; clear hcmp
          have HR4 := Lib.hid hr4; clear hr4
          have D4 := Lib.hid d4; clear d4
          have HBK := Lib.hid hblk; clear hblk
          have HBE := Lib.hid hbel; clear hbel
          clear hsd hM0 hM1 hn0 hQd hQs hsdd hX hdd hPd hQ hM hcz hz hX0
          go_wp2_with fail
          go_at_call 12
          refine (HO.out _ HR4.out).mono ?_
          rintro e w4 ⟨hq, rfl⟩
          have bA := Blk.new w4 28 [.bool (ineg X), .string (imag X)]
          have s4 : Below wr.heap.size wr (w4.alloc (.cells #[.bool (ineg X), .string (imag X)] 28)) := hq.alloc hq.size _
          obtain ⟨W, hW⟩ : ∃ W, w4.alloc (.cells #[.bool (ineg X), .string (imag X)] 28) = W := ⟨_, rfl⟩
          obtain ⟨A, hA⟩ : ∃ A, A = w4.heap.size := ⟨_, rfl⟩
          have hAw : wr.heap.size ≤ A := by rw [hA]; exact hq.size
          rw [hW] at bA s4
          rw [← hA] at bA
          have k5 := HBK.out.keep s4
          have hAl := bA.lt
          have sW := (Below.refl W.heap.size W).drew
          clear x0 x1 x2 hq
          have y0 := bA.cell (j := 0) rfl
          have y1 := bA.cell (j := 1) rfl
          have BA := Lib.hid bA; clear bA
          have S4 := Lib.hid s4; clear s4
          have K5 := Lib.hid k5; clear k5
          go_wp2_with fail
          (try rw [hW])
          (try rw [← hA])
          clear hW hA
          refine wp_region_held_drew (S := fun w' => w'.cell? ⟨A, 0, none⟩ = some (.bool (ineg X)) ∧ w'.cell? ⟨A, 1, none⟩ = some (.string (imag X))) (by kernel_rfl) ?_ (fun hHeld => ?_)
          · go_keep
          refine wpAnyH_take (i := 0) (v := ?_) rfl (by kernel_rfl) (by kernel_rfl) (by kernel_rfl) (fun _ _ _ h => h) (Or.inl ⟨by rfl, ?_⟩) (by assumption) ?_
          rotate_left
          · (intro wS hSw; (try dsimp only at hSw); go_simp; (try with_reducible rfl))
          (try simp only [Act.put, List.setIfInBounds_toArray, List.set_cons_zero, List.set_cons_succ])
          refine wpAnyH_take (i := 1) (v := ?_) rfl (by kernel_rfl) (by kernel_rfl) (by kernel_rfl) (fun _ _ _ h => h) (Or.inl ⟨by rfl, ?_⟩) (by assumption) ?_
          rotate_left
          · (intro wS hSw; (try dsimp only at hSw); go_simp; (try with_reducible rfl))
          (try simp only [Act.put, List.setIfInBounds_toArray, List.set_cons_zero, List.set_cons_succ])
          refine wpAnyH_take (i := 2) (v := ?_) rfl (by kernel_rfl) (by kernel_rfl) (by kernel_rfl) (fun _ _ _ h => h) (Or.inl ⟨by rfl, ?_⟩) (by assumption) ?_
          rotate_left
          · (intro wS hSw; (try dsimp only at hSw); go_simp; (try with_reducible rfl))
          (try simp only [Act.put, List.setIfInBounds_toArray, List.set_cons_zero, List.set_cons_succ])
          refine wpAnyH_take (i := 3) (v := ?_) rfl (by kernel_rfl) (by kernel_rfl) (by kernel_rfl) (fun _ _ _ h => h) (Or.inl ⟨by kernel_rfl, ?_⟩) (by assumption) ?_
          rotate_left
          · (intro wS hSw; (try dsimp only at hSw); go_simp; (try with_reducible rfl))
          (try simp only [Act.put, List.setIfInBounds_toArray, List.set_cons_zero, List.set_cons_succ])
          refine wpAnyH_ready (rs := [4]) (by kernel_rfl) (by simp) ?_
          refine AllReadyH.cons rfl (fun K hK => ?_) AllReadyH.nil
          rw [if_pos (by kernel_rfl)]
          go_simp
          go_at_call 11
          refine (HOF0.out _).mono ?_
          rintro e' wa39 ⟨hq, rfl⟩
          dsimp only
          have z0 := (hq.cell (p := ⟨A, 0, none⟩) (show A < W.heap.size by omega)).trans hHeld.1
          have z1 := (hq.cell (p := ⟨A, 1, none⟩) (show A < W.heap.size by omega)).trans hHeld.2
          refine hK.out _ _ ⟨z0, z1⟩ (fun hH40 => ?_)
          clear hK K z0  z1
          (try simp only [Act.put, List.setIfInBounds_toArray, List.set_cons_zero, List.set_cons_succ])
          have sa41 : Below W.heap.size W wa39 := sW.trans (hq.mono sW.size)
          clear hq
          have hlwa39 : W.heap.size ≤ wa39.heap.size := sa41.size
          refine wpAnyH_ready (rs := [5]) (by kernel_rfl) (by simp) ?_
          refine AllReadyH.cons rfl (fun K hK => ?_) AllReadyH.nil
          rw [if_pos (by kernel_rfl)]
          go_simp
          go_at_call 13
          refine (HCMP.out _).mono ?_
          rintro e' wa43 ⟨hq, rfl⟩
          dsimp only
          have z0 := (hq.cell (p := ⟨A, 0, none⟩) (show A < wa39.heap.size by omega)).trans hH40.1
          have z1 := (hq.cell (p := ⟨A, 1, none⟩) (show A < wa39.heap.size by omega)).trans hH40.2
          refine hK.out _ _ ⟨z0, z1⟩ (fun hH44 => ?_)
          clear hK K z0  z1
          (try simp only [Act.put, List.setIfInBounds_toArray, List.set_cons_zero, List.set_cons_succ])
          have sa45 : Below W.heap.size W wa43 := sa41.trans (hq.mono sa41.size)
          clear hq
          have hlwa43 : W.heap.size ≤ wa43.heap.size := sa45.size
          refine wpAnyH_take (i := 6) (v := ?_) rfl (by kernel_rfl) (by kernel_rfl) (by kernel_rfl) (fun _ _ _ h => h) (Or.inl ⟨by kernel_rfl, ?_⟩) (by assumption) ?_
          rotate_left
          · (intro wS hSw; (try dsimp only at hSw); go_simp; (try with_reducible rfl))
          (try simp only [Act.put, List.setIfInBounds_toArray, List.set_cons_zero, List.set_cons_succ])
          refine wpAnyH_take (i := 7) (v := ?_) rfl (by kernel_rfl) (by kernel_rfl) (by kernel_rfl) (fun _ _ _ h => h) (Or.inl ⟨by rfl, ?_⟩) (by assumption) ?_
          rotate_left
          · (intro wS hSw; (try dsimp only at hSw); go_simp; (try with_reducible rfl))
          (try simp only [Act.put, List.setIfInBounds_toArray, List.set_cons_zero, List.set_cons_succ])
          refine wpAnyH_done (by kernel_rfl) ?_ _
          (try simp only [List.getElem_toArray, List.getElem_cons_zero, List.getElem_cons_succ, Act.put, List.setIfInBounds_toArray, List.set_cons_zero, List.set_cons_succ])
          have hV0 := S4.out.trans (sa45.mono S4.out.size)
          have nV0 := K5.out.keep sa45
          have a0V := BA.out.keep sa45
          obtain ⟨V, hV⟩ : ∃ V, V = wa43 := ⟨_, rfl⟩
          rw [← hV] at hV0 nV0 a0V
          (try rw [← hV])
          clear hV y0 y1
          have hAV := a0V.lt
          have hBVl := nV0.lt
          have hBV := HBE.out.trans (hV0.mono HBE.out.size)
          have y0 := a0V.cell (j := 0) rfl
          have y1 := a0V.cell (j := 1) rfl
          have cN0 := nV0.cell (j := 0) rfl
          have cN1 := nV0.cell (j := 1) rfl
          have fr0 := nV0.frozen 0
          have fr1 := nV0.frozen 1
          have nV := nV0.drew
          have sV := (Below.refl V.heap.size V).drew
          have ne1 : ¬ w2.heap.size = A := by omega
          have ne2 : ¬ A = w2.heap.size := by omega
          have HBV := Lib.hid hBV; clear hBV
          clear hV0 nV0 a0V
          go_wp2_with fail
          refine wp_region_held_drew (S := fun w' => w'.cell? ⟨A, 0, none⟩ = some (.bool (ineg X)) ∧ w'.cell? ⟨A, 1, none⟩ = some (.string (imag X))) (by kernel_rfl) ?_ (fun hHeld => ?_)
          · go_keep
          refine wpAnyH_take (i := 1) (v := ?_) rfl (by kernel_rfl) (by kernel_rfl) (by kernel_rfl) (fun _ _ _ h => h) (Or.inl ⟨by rfl, ?_⟩) (by assumption) ?_
          rotate_left
          · (intro wS hSw; (try dsimp only at hSw); go_simp; (try with_reducible rfl))
          (try simp only [Act.put, List.setIfInBounds_toArray, List.set_cons_zero, List.set_cons_succ])
          refine wpAnyH_take (i := 2) (v := ?_) rfl (by kernel_rfl) (by kernel_rfl) (by kernel_rfl) (fun _ _ _ h => h) (Or.inl ⟨by rfl, ?_⟩) (by assumption) ?_
          rotate_left
          · (intro wS hSw; (try dsimp only at hSw); go_simp; (try with_reducible rfl))
          (try simp only [Act.put, List.setIfInBounds_toArray, List.set_cons_zero, List.set_cons_succ])
          refine wpAnyH_ready (rs := [0, 3]) (by kernel_rfl) (by simp) ?_
          refine AllReadyH.cons rfl (fun K hK => ?_) (AllReadyH.cons rfl (fun K hK => ?_) (AllReadyH.nil))
          · go_simp
            refine hK.out _ _ ?_ (fun hH1 => ?_)
            · ((try dsimp only); go_keep)
            clear hK K
            (try simp only [Act.put, List.setIfInBounds_toArray, List.set_cons_zero, List.set_cons_succ])
            refine wpAnyH_ready (rs := [3]) (by kernel_rfl) (by simp) ?_
            refine AllReadyH.cons rfl (fun K hK => ?_) AllReadyH.nil
            go_simp
            go_at_call 11
            refine (HOFD.out _).mono ?_
            rintro e' wa2 ⟨hq, rfl⟩
            dsimp only
            have z0 := (hq.cell (p := ⟨A, 0, none⟩) (show A < V.heap.size by omega)).trans hH1.1
            have z1 := (hq.cell (p := ⟨A, 1, none⟩) (show A < V.heap.size by omega)).trans hH1.2
            refine hK.out _ _ ⟨z0, z1⟩ (fun hH3 => ?_)
            clear hK K z0  z1
            (try simp only [Act.put, List.setIfInBounds_toArray, List.set_cons_zero, List.set_cons_succ])
            have sa4 : Below V.heap.size V wa2 := sV.trans (hq.mono sV.size)
            have na5 := Blk.keep (w := V.drew) nV hq
            clear hq
            have hlwa2 : V.heap.size ≤ wa2.heap.size := sa4.size
            clear cN0 cN1
            have cN0 := na5.cell (j := 0) rfl
            have cN1 := na5.cell (j := 1) rfl
            have fr0 := na5.frozen 0
            have fr1 := na5.frozen 1
            refine wpAnyH_ready (rs := [4]) (by kernel_rfl) (by simp) ?_
            refine AllReadyH.cons rfl (fun K hK => ?_) AllReadyH.nil
            go_simp
            go_at_call 15
            refine (HMUL.out _).mono ?_
            rintro e' wa6 ⟨hq, rfl⟩
            dsimp only
            have z0 := (hq.cell (p := ⟨A, 0, none⟩) (show A < wa2.heap.size by omega)).trans hH3.1
            have z1 := (hq.cell (p := ⟨A, 1, none⟩) (show A < wa2.heap.size by omega)).trans hH3.2
            refine hK.out _ _ ⟨z0, z1⟩ (fun hH7 => ?_)
            clear hK K z0  z1
            (try simp only [Act.put, List.setIfInBounds_toArray, List.set_cons_zero, List.set_cons_succ])
            have sa8 : Below V.heap.size V wa6 := sa4.trans (hq.mono sa4.size)
            have na9 := Blk.keep (w := wa2) na5 hq
            clear hq
            have hlwa6 : V.heap.size ≤ wa6.heap.size := sa8.size
            clear cN0 cN1
            have cN0 := na9.cell (j := 0) rfl
            have cN1 := na9.cell (j := 1) rfl
            have fr0 := na9.frozen 0
            have fr1 := na9.frozen 1
            refine wpAnyH_ready (rs := [5]) (by kernel_rfl) (by simp) ?_
            refine AllReadyH.cons rfl (fun K hK => ?_) AllReadyH.nil
            go_simp
            go_at_call 14
            refine (HADD.out _).mono ?_
            rintro e' wa10 ⟨hq, rfl⟩
            dsimp only
            have z0 := (hq.cell (p := ⟨A, 0, none⟩) (show A < wa6.heap.size by omega)).trans hH7.1
            have z1 := (hq.cell (p := ⟨A, 1, none⟩) (show A < wa6.heap.size by omega)).trans hH7.2
            refine hK.out _ _ ⟨z0, z1⟩ (fun hH11 => ?_)
            clear hK K z0  z1
            (try simp only [Act.put, List.setIfInBounds_toArray, List.set_cons_zero, List.set_cons_succ])
            have sa12 : Below V.heap.size V wa10 := sa8.trans (hq.mono sa8.size)
            have na13 := Blk.keep (w := wa6) na9 hq
            clear hq
            have hlwa10 : V.heap.size ≤ wa10.heap.size := sa12.size
            clear cN0 cN1
            have cN0 := na13.cell (j := 0) rfl
            have cN1 := na13.cell (j := 1) rfl
            have fr0 := na13.frozen 0
            have fr1 := na13.frozen 1
            refine wpAnyH_ready (rs := [6]) (by kernel_rfl) (by simp) ?_
            refine AllReadyH.cons rfl (fun K hK => ?_) AllReadyH.nil
            go_simp
            refine hK.out _ _ ?_ (fun hH14 => ?_)
            · ((try dsimp only); go_keep)
            clear hK K
            (try simp only [Act.put, List.setIfInBounds_toArray, List.set_cons_zero, List.set_cons_succ])
            refine wpAnyH_done (by kernel_rfl) ?_ _
            (try simp only [List.getElem_toArray, List.getElem_cons_zero, List.getElem_cons_succ, Act.put, List.setIfInBounds_toArray, List.set_cons_zero, List.set_cons_succ])
            go_wp2_with fail
            go_roundw
            case rel => exact ⟨d + 1, by omega, by omega, by go_num, ((HBV.out.trans (sa12.mono HBV.out.size)).setCell (p := ⟨w2.heap.size, 0, none⟩) (Nat.le_refl _) _).setCell (p := ⟨w2.heap.size, 1, none⟩) (Nat.le_refl _) _, by rw [← HMS.out]; exact (na13.set 0 _).set 1 _⟩
            case measure => simp [intOf]; omega
          · go_simp
            go_at_call 11
            refine (HOFD.out _).mono ?_
            rintro e' wa15 ⟨hq, rfl⟩
            dsimp only
            have z0 := (hq.cell (p := ⟨A, 0, none⟩) (show A < V.heap.size by omega)).trans hHeld.1
            have z1 := (hq.cell (p := ⟨A, 1, none⟩) (show A < V.heap.size by omega)).trans hHeld.2
            refine hK.out _ _ ⟨z0, z1⟩ (fun hH16 => ?_)
            clear hK K z0  z1
            (try simp only [Act.put, List.setIfInBounds_toArray, List.set_cons_zero, List.set_cons_succ])
            have sa17 : Below V.heap.size V wa15 := sV.trans (hq.mono sV.size)
            have na18 := Blk.keep (w := V.drew) nV hq
            clear hq
            have hlwa15 : V.heap.size ≤ wa15.heap.size := sa17.size
            clear cN0 cN1
            have cN0 := na18.cell (j := 0) rfl
            have cN1 := na18.cell (j := 1) rfl
            have fr0 := na18.frozen 0
            have fr1 := na18.frozen 1
            refine wpAnyH_ready (rs := [0, 4]) (by kernel_rfl) (by simp) ?_
            refine AllReadyH.cons rfl (fun K hK => ?_) (AllReadyH.cons rfl (fun K hK => ?_) (AllReadyH.nil))
            · go_simp
              refine hK.out _ _ ?_ (fun hH19 => ?_)
              · ((try dsimp only); go_keep)
              clear hK K
              (try simp only [Act.put, List.setIfInBounds_toArray, List.set_cons_zero, List.set_cons_succ])
              refine wpAnyH_ready (rs := [4]) (by kernel_rfl) (by simp) ?_
              refine AllReadyH.cons rfl (fun K hK => ?_) AllReadyH.nil
              go_simp
              go_at_call 15
              refine (HMUL.out _).mono ?_
              rintro e' wa20 ⟨hq, rfl⟩
              dsimp only
              have z0 := (hq.cell (p := ⟨A, 0, none⟩) (show A < wa15.heap.size by omega)).trans hH19.1
              have z1 := (hq.cell (p := ⟨A, 1, none⟩) (show A < wa15.heap.size by omega)).trans hH19.2
              refine hK.out _ _ ⟨z0, z1⟩ (fun hH21 => ?_)
              clear hK K z0  z1
              (try simp only [Act.put, List.setIfInBounds_toArray, List.set_cons_zero, List.set_cons_succ])
              have sa22 : Below V.heap.size V wa20 := sa17.trans (hq.mono sa17.size)
              have na23 := Blk.keep (w := wa15) na18 hq
              clear hq
              have hlwa20 : V.heap.size ≤ wa20.heap.size := sa22.size
              clear cN0 cN1
              have cN0 := na23.cell (j := 0) rfl
              have cN1 := na23.cell (j := 1) rfl
              have fr0 := na23.frozen 0
              have fr1 := na23.frozen 1
              refine wpAnyH_ready (rs := [5]) (by kernel_rfl) (by simp) ?_
              refine AllReadyH.cons rfl (fun K hK => ?_) AllReadyH.nil
              go_simp
              go_at_call 14
              refine (HADD.out _).mono ?_
              rintro e' wa24 ⟨hq, rfl⟩
              dsimp only
              have z0 := (hq.cell (p := ⟨A, 0, none⟩) (show A < wa20.heap.size by omega)).trans hH21.1
              have z1 := (hq.cell (p := ⟨A, 1, none⟩) (show A < wa20.heap.size by omega)).trans hH21.2
              refine hK.out _ _ ⟨z0, z1⟩ (fun hH25 => ?_)
              clear hK K z0  z1
              (try simp only [Act.put, List.setIfInBounds_toArray, List.set_cons_zero, List.set_cons_succ])
              have sa26 : Below V.heap.size V wa24 := sa22.trans (hq.mono sa22.size)
              have na27 := Blk.keep (w := wa20) na23 hq
              clear hq
              have hlwa24 : V.heap.size ≤ wa24.heap.size := sa26.size
              clear cN0 cN1
              have cN0 := na27.cell (j := 0) rfl
              have cN1 := na27.cell (j := 1) rfl
              have fr0 := na27.frozen 0
              have fr1 := na27.frozen 1
              refine wpAnyH_ready (rs := [6]) (by kernel_rfl) (by simp) ?_
              refine AllReadyH.cons rfl (fun K hK => ?_) AllReadyH.nil
              go_simp
              refine hK.out _ _ ?_ (fun hH28 => ?_)
              · ((try dsimp only); go_keep)
              clear hK K
              (try simp only [Act.put, List.setIfInBounds_toArray, List.set_cons_zero, List.set_cons_succ])
              refine wpAnyH_done (by kernel_rfl) ?_ _
              (try simp only [List.getElem_toArray, List.getElem_cons_zero, List.getElem_cons_succ, Act.put, List.setIfInBounds_toArray, List.set_cons_zero, List.set_cons_succ])
              go_wp2_with fail
              go_roundw
              case rel => exact ⟨d + 1, by omega, by omega, by go_num, ((HBV.out.trans (sa26.mono HBV.out.size)).setCell (p := ⟨w2.heap.size, 0, none⟩) (Nat.le_refl _) _).setCell (p := ⟨w2.heap.size, 1, none⟩) (Nat.le_refl _) _, by rw [← HMS.out]; exact (na27.set 0 _).set 1 _⟩
              case measure => simp [intOf]; omega
            · go_simp
              go_at_call 15
              refine (HMUL.out _).mono ?_
              rintro e' wa29 ⟨hq, rfl⟩
              dsimp only
              have z0 := (hq.cell (p := ⟨A, 0, none⟩) (show A < wa15.heap.size by omega)).trans hH16.1
              have z1 := (hq.cell (p := ⟨A, 1, none⟩) (show A < wa15.heap.size by omega)).trans hH16.2
              refine hK.out _ _ ⟨z0, z1⟩ (fun hH30 => ?_)
              clear hK K z0  z1
              (try simp only [Act.put, List.setIfInBounds_toArray, List.set_cons_zero, List.set_cons_succ])
              have sa31 : Below V.heap.size V wa29 := sa17.trans (hq.mono sa17.size)
              have na32 := Blk.keep (w := wa15) na18 hq
              clear hq
              have hlwa29 : V.heap.size ≤ wa29.heap.size := sa31.size
              clear cN0 cN1
              have cN0 := na32.cell (j := 0) rfl
              have cN1 := na32.cell (j := 1) rfl
              have fr0 := na32.frozen 0
              have fr1 := na32.frozen 1
              refine wpAnyH_ready (rs := [0]) (by kernel_rfl) (by simp) ?_
              refine AllReadyH.cons rfl (fun K hK => ?_) AllReadyH.nil
              go_simp
              refine hK.out _ _ ?_ (fun hH33 => ?_)
              · ((try dsimp only); go_keep)
              clear hK K
              (try simp only [Act.put, List.setIfInBounds_toArray, List.set_cons_zero, List.set_cons_succ])
              refine wpAnyH_ready (rs := [5]) (by kernel_rfl) (by simp) ?_
              refine AllReadyH.cons rfl (fun K hK => ?_) AllReadyH.nil
              go_simp
              go_at_call 14
              refine (HADD.out _).mono ?_
              rintro e' wa34 ⟨hq, rfl⟩
              dsimp only
              have z0 := (hq.cell (p := ⟨A, 0, none⟩) (show A < wa29.heap.size by omega)).trans hH33.1
              have z1 := (hq.cell (p := ⟨A, 1, none⟩) (show A < wa29.heap.size by omega)).trans hH33.2
              refine hK.out _ _ ⟨z0, z1⟩ (fun hH35 => ?_)
              clear hK K z0  z1
              (try simp only [Act.put, List.setIfInBounds_toArray, List.set_cons_zero, List.set_cons_succ])
              have sa36 : Below V.heap.size V wa34 := sa31.trans (hq.mono sa31.size)
              have na37 := Blk.keep (w := wa29) na32 hq
              clear hq
              have hlwa34 : V.heap.size ≤ wa34.heap.size := sa36.size
              clear cN0 cN1
              have cN0 := na37.cell (j := 0) rfl
              have cN1 := na37.cell (j := 1) rfl
              have fr0 := na37.frozen 0
              have fr1 := na37.frozen 1
              refine wpAnyH_ready (rs := [6]) (by kernel_rfl) (by simp) ?_
              refine AllReadyH.cons rfl (fun K hK => ?_) AllReadyH.nil
              go_simp
              refine hK.out _ _ ?_ (fun hH38 => ?_)
              · ((try dsimp only); go_keep)
              clear hK K
              (try simp only [Act.put, List.setIfInBounds_toArray, List.set_cons_zero, List.set_cons_succ])
              refine wpAnyH_done (by kernel_rfl) ?_ _
              (try simp only [List.getElem_toArray, List.getElem_cons_zero, List.getElem_cons_succ, Act.put, List.setIfInBounds_toArray, List.set_cons_zero, List.set_cons_succ])
              go_wp2_with fail
              go_roundw
              case rel => exact ⟨d + 1, by omega, by omega, by go_num, ((HBV.out.trans (sa36.mono HBV.out.size)).setCell (p := ⟨w2.heap.size, 0, none⟩) (Nat.le_refl _) _).setCell (p := ⟨w2.heap.size, 1, none⟩) (Nat.le_refl _) _, by rw [← HMS.out]; exact (na37.set 0 _).set 1 _⟩
              case measure => simp [intOf]; omega
        · have hne : ((z : Int) != 0) = true := by simp; omega
          rw [if_neg (by omega), Int.add_zero] at hsd
          have HBK := Lib.hid hblk; clear hblk
          have HBE := Lib.hid hbel; clear hbel
          have HSD := Lib.hid hsd; clear hsd
          clear hr4 d4
          go_wp2_with fail
          go_roundw
          case rel => exact ⟨d + 1, by omega, by omega, by go_num, HBE.out, by rw [HSD.out]; exact HBK.out⟩
          case measure => simp [intOf]; omega
      · have hde : d = k + 1 := by omega
        have tj : decide ((d : Int) ≤ (k : Int)) = false := by simp; omega
        have hCL := HCL.out
        rw [hde] at hblk
        obtain ⟨Z, hZ⟩ : ∃ Z, Z = dS P k (k + 1) := ⟨_, rfl⟩
        rw [← hZ] at hblk hCL
        have heq : ∀ w', (binOp .eql 28 (.agg #[.bool (ineg Z), .string (imag Z)]) (.agg #[.bool (ineg Z), .string (imag Z)])).run Try.prog w' = .ok (.bool true) w' := fun w' => by rw [eql_int, beq_toListBytes]; simp
        have HCLZ := Lib.hid hCL; clear hCL
        have HR4 := Lib.hid hr4; clear hr4
        have HBK := Lib.hid hblk; clear hblk
        have HBE := Lib.hid hbel; clear hbel
        clear d4 hZ hde
        go_wp2_with fail
        go_at_call 16
        refine (HCLZ.out _ HR4.out).mono ?_
        rintro e w4 ⟨hq, rfl⟩
        have bA := Blk.new w4 28 [.bool (ineg Z), .string (imag Z)]
        have s4 : Below wr.heap.size wr (w4.alloc (.cells #[.bool (ineg Z), .string (imag Z)] 28)) := hq.alloc hq.size _
        have k5 := HBK.out.keep s4
        have c0 := k5.cell (j := 0) rfl
        have c1 := k5.cell (j := 1) rfl
        have y0 := bA.cell (j := 0) rfl
        have y1 := bA.cell (j := 1) rfl
        have hfin := S2.out.trans ((HBE.out.trans (s4.mono HBE.out.size)).mono S2.out.size)
        have HFIN := Lib.hid hfin; clear hfin
        clear hq s4 k5 bA x0 x1 x2
        go_wp2_with fail
        go_at_call 10
        refine (HAW.out _).mono ?_
        rintro e w6 ⟨hq, rfl⟩
        have HQ := Lib.hid hq; clear hq
        go_wp2_with fail
        go_ret
        exact ⟨HFIN.out.trans (HQ.out.mono HFIN.out.size), rfl⟩
end Go.Proofs.Ythpgeeaccmgbkaa

/- grooveref22.Total (given From), closed, Closed where they answer. -/
import Derived.Test.YthpgeeaccmgbkaaGreatPart2
import Derived.Test.YthpgeeaccmgbkaaGreatPart10
namespace Go.Proofs.YthpgeeaccmgbkaaGreat
open Go.RowKit

set_option maxRecDepth 100000 in
set_option maxHeartbeats 3200000 in
theorem rtotal_any (L S n : Int) (es : List E3) (l : List Int) (c : Int) (p : Nat) (v : Value) (w : World) (hr : Row w v es.length (ce es)) (hs : ∀ z ∈ l, sm p z) (hp : p ≤ 1000000) (hlen : l.length ≤ 255)
    (hF : ∀ w', Row w' v es.length (ce es) → Calls Tryz.prog 11 #[.agg #[.int .i64 L, .int .i64 S, v], .int .i64 n] w' (LstRet l c w')) :
    Calls Tryz.prog 13 #[.agg #[.int .i64 L, .int .i64 S, v], .int .i64 n] w (Ret w (.tuple #[IntV l.sum, .int .i64 c])) := by
  obtain ⟨va, vc, rfl, hle⟩ := hr.slice
  have hT : ∀ j, sm (p + 1) (l.take j).sum := fun j => sm_sum' (fun z hz => hs z (List.mem_of_mem_take hz)) (by rw [List.length_take]; omega)
  have hget : ∀ j, j < l.length → ∃ z, l[j]? = some z ∧ sm p z := fun j hj => ⟨l[j], List.getElem?_eq_getElem hj, hs _ (List.getElem_mem hj)⟩
  have hstep := fun j x (h : l[j]? = some x) => take_sum l h
  have hfull : (l.take l.length).sum = l.sum := by rw [List.take_length]
  have s0 := ((Below.refl w.heap.size w).alloc (Nat.le_refl _) (.cells #[.int .i64 L, .int .i64 S, .slice va es.length vc] 24)).alloc (by simp) (.cells #[.bool false, .string ⟨#[]⟩] 28)
  have b0 := (Blk.new w 24 [.int .i64 L, .int .i64 S, .slice va es.length vc]).alloc (.cells #[.bool false, .string ⟨#[]⟩] 28)
  have b1 := Blk.new (w.alloc (.cells #[.int .i64 L, .int .i64 S, .slice va es.length vc] 24)) 28 [.bool false, .string ⟨#[]⟩]
  simp only [World.size_alloc] at b1
  have hr0 := hr.below s0 (Nat.le_refl _)
  have x0 := b0.cell (j := 0) rfl
  have x1 := b0.cell (j := 1) rfl
  have x2 := b0.cell (j := 2) rfl
  have hF1 := hF _ hr0
  obtain ⟨mm, hmm⟩ : ∃ mm, mm = es.length := ⟨_, rfl⟩
  rw [← hmm] at s0 b1 hle hF1 x0 x1 x2
  obtain ⟨m, hm⟩ : ∃ m, m = l.length := ⟨_, rfl⟩
  rw [← hm] at hfull hlen hget
  obtain ⟨T, hTT⟩ : ∃ T, T = l.sum := ⟨_, rfl⟩
  rw [← hTT] at hfull ⊢
  have HT := Lib.hid hT; clear hT
  have HGET := Lib.hid hget; clear hget
  have HSTEP := Lib.hid hstep; clear hstep
  have HFULL := Lib.hid hfull; clear hfull
  have HF := Lib.hid hF1; clear hF1
  have B1 := Lib.hid b1; clear b1
  have S0 := Lib.hid s0; clear s0
  have HM := Lib.hid hm; clear hm
  have HMM := Lib.hid hmm; clear hmm
  clear hs hTT hr0 hF hr b0
  go_enter Tryz.func13, Tryz.ntmps13
  rw [← HMM.out]
  go_wp2_with fail
  go_at_call 11
  refine HF.out.mono ?_
  rintro e w1 ⟨hq, u, rfl, hrow⟩
  rw [← HM.out] at hrow
  obtain ⟨ua, uc, rfl, hule⟩ := hrow.slice
  have s1 := S0.out.trans (hq.mono S0.out.size)
  have k1 := B1.out.keep hq
  have hlw := k1.lt
  have bA := Blk.new w1 28 [.bool false, .string ⟨#[]⟩]
  have s2 := (Below.refl w1.heap.size w1).alloc (Nat.le_refl _) (.cells #[.bool false, .string ⟨#[]⟩] 28)
  obtain ⟨W0, hW0⟩ : ∃ W0, w1.alloc (.cells #[.bool false, .string ⟨#[]⟩] 28) = W0 := ⟨_, rfl⟩
  rw [hW0] at bA s2
  have y0 := bA.cell (j := 0) rfl
  have y1 := bA.cell (j := 1) rfl
  have y2 := bA.frozen 0
  have y3 := bA.frozen 1
  have bA2 := (bA.set 0 (.bool false)).set 1 (.string ⟨#[]⟩)
  have s3 := (s2.setCell (p := ⟨w1.heap.size, 0, none⟩) (Nat.le_refl _) (.bool false)).setCell (p := ⟨w1.heap.size, 1, none⟩) (Nat.le_refl _) (.string ⟨#[]⟩)
  have HROW := Lib.hid hrow; clear hrow
  have BA := Lib.hid bA2; clear bA2
  have K1 := Lib.hid k1; clear k1
  have S1 := Lib.hid s1; clear s1
  have S2 := Lib.hid s3; clear s3
  clear x0 x1 x2 hq s2 bA
  go_wp2_with fail
  clear hW0 y0 y1 y2 y3
  go_loopw [9] (fun i wr => ∃ j : Nat, j ≤ m ∧ i = .int .i64 (j : Int) ∧ Below w1.heap.size w1 wr ∧ Blk wr w1.heap.size 28 [.bool (ineg (l.take j).sum), .string (imag (l.take j).sum)]) (fun i _ => m - (intOf i).toNat)
  case atStart => exact ⟨0, Nat.zero_le _, rfl, S2.out, by rw [List.take_zero, List.sum_nil, ineg_zero, imag_zero]; exact BA.out⟩
  case round =>
    obtain ⟨j, hj, rfl, hbel, hblk⟩ := hrel
    obtain ⟨wo, rfl⟩ : ∃ wo : World, wo = wr := ⟨_, rfl⟩
    have hszo := hbel.size
    have hbl := hblk.lt
    by_cases hjm : j < m
    · have tj : decide ((j : Int) < (m : Int)) = true := by simp; omega
      obtain ⟨x, hx, hxs⟩ := HGET.out j hjm
      have hst := HSTEP.out j x hx
      have hMs := HT.out j
      obtain ⟨M, hM⟩ : ∃ M, M = (l.take j).sum := ⟨_, rfl⟩
      rw [← hM] at hst hMs hblk
      have hst2 := hst.symm
      have hadd := fun w' => radd_any M x w' (Nat.le_trans hMs.size (by omega)) (Nat.le_trans hxs.size (by omega))
      obtain ⟨b, o, rfl, hbo, hbc⟩ := HROW.out.at_ (by omega)
      obtain ⟨q0, q1⟩ := int_cells hbc hbel hbo hx
      have c0 := hblk.cell (j := 0) rfl
      have c1 := hblk.cell (j := 1) rfl
      have hix1 : (0 : Int) ≤ (j : Int) := by omega
      have hix2 : (j : Int) < (m : Int) := by omega
      have hne1 : ¬ w1.heap.size = b := by omega
      have sw := hbel.drew
      have HST := Lib.hid hst2; clear hst2
      have HADD := Lib.hid hadd; clear hadd
      have K2 := Lib.hid hblk; clear hblk
      have SW := Lib.hid sw; clear sw
      clear hst hM hMs hxs hx hbc hbel
      go_wp2_with fail
      refine wp_region_held_drew (S := fun w' => w'.cell? ⟨b, o + j * 2, none⟩ = some (.bool (ineg x)) ∧ w'.cell? ⟨b, o + j * 2 + 1, none⟩ = some (.string (imag x))) (by kernel_rfl) ?_ (fun hHeld => ?_)
      · go_keep
      refine wpAnyH_take (i := 1) (v := ?_) rfl (by kernel_rfl) (by kernel_rfl) (by kernel_rfl) (fun _ _ _ h => h) (Or.inl ⟨by rfl, ?_⟩) (by assumption) ?_
      rotate_left
      · (intro wS hSw; (try dsimp only at hSw); go_simp; (try with_reducible rfl))
      (try simp only [Act.put, List.setIfInBounds_toArray, List.set_cons_zero, List.set_cons_succ])
      refine wpAnyH_take (i := 2) (v := ?_) rfl (by kernel_rfl) (by kernel_rfl) (by kernel_rfl) (fun _ _ _ h => h) (Or.inl ⟨by rfl, ?_⟩) (by assumption) ?_
      rotate_left
      · (intro wS hSw; (try dsimp only at hSw); go_simp; (try with_reducible rfl))
      (try simp only [Act.put, List.setIfInBounds_toArray, List.set_cons_zero, List.set_cons_succ])
      refine wpAnyH_take (i := 3) (v := ?_) rfl (by kernel_rfl) (by kernel_rfl) (by kernel_rfl) (fun _ _ _ h => h) (Or.inl ⟨by rfl, ?_⟩) (by assumption) ?_
      rotate_left
      · (intro wS hSw; (try dsimp only at hSw); go_simp; (try with_reducible rfl))
      (try simp only [Act.put, List.setIfInBounds_toArray, List.set_cons_zero, List.set_cons_succ])
      refine wpAnyH_take (i := 4) (v := ?_) rfl (by kernel_rfl) (by kernel_rfl) (by kernel_rfl) (fun _ _ _ h => h) (Or.inl ⟨by rfl, ?_⟩) (by assumption) ?_
      rotate_left
      · (intro wS hSw; (try dsimp only at hSw); go_simp; (try with_reducible rfl))
      (try simp only [Act.put, List.setIfInBounds_toArray, List.set_cons_zero, List.set_cons_succ])
      refine wpAnyH_ready (rs := [0]) (by kernel_rfl) (by simp) ?_
      refine AllReadyH.cons rfl (fun K hK => ?_) AllReadyH.nil
      go_simp
      refine hK.out _ _ ?_ (fun hHeld => ?_)
      · ((try dsimp only); go_keep)
      clear hK K
      (try simp only [Act.put, List.setIfInBounds_toArray, List.set_cons_zero, List.set_cons_succ])
      refine wpAnyH_ready (rs := [5]) (by kernel_rfl) (by simp) ?_
      refine AllReadyH.cons rfl (fun K hK => ?_) AllReadyH.nil
      go_simp
      go_at_call 40
      refine (HADD.out _).mono ?_
      rintro e w4 ⟨hq, rfl⟩
      dsimp only
      have z0 := (hq.cell (p := ⟨b, o + j * 2, none⟩) (show b < wo.heap.size by omega)).trans hHeld.1
      have z1 := (hq.cell (p := ⟨b, o + j * 2 + 1, none⟩) (show b < wo.heap.size by omega)).trans hHeld.2
      refine hK.out _ _ ⟨z0, z1⟩ (fun hHeld2 => ?_)
      clear hK K z0 z1
      (try simp only [Act.put, List.setIfInBounds_toArray, List.set_cons_zero, List.set_cons_succ])
      have k2 := K2.out.drew.keep hq
      have hb2 := SW.out.trans (hq.mono (show w1.heap.size ≤ wo.heap.size by omega))
      have f0 := k2.frozen 0
      have f1 := k2.frozen 1
      have d0 := k2.cell (j := 0) rfl
      have d1 := k2.cell (j := 1) rfl
      have k3 := (k2.set 0 (.bool (ineg (M + x)))).set 1 (.string (imag (M + x)))
      have K3 := Lib.hid k3; clear k3
      have HB2 := Lib.hid hb2; clear hb2
      clear hq k2 c0 c1 q0 q1
      refine wpAnyH_ready (rs := [6]) (by kernel_rfl) (by simp) ?_
      refine AllReadyH.cons rfl (fun K hK => ?_) AllReadyH.nil
      go_simp
      refine hK.out _ _ ?_ (fun hHeld => ?_)
      · ((try dsimp only); go_keep)
      clear hK K
      (try simp only [Act.put, List.setIfInBounds_toArray, List.set_cons_zero, List.set_cons_succ])
      refine wpAnyH_done (by kernel_rfl) ?_ _
      (try simp only [List.getElem_toArray, List.getElem_cons_zero, List.getElem_cons_succ, Act.put, List.setIfInBounds_toArray, List.set_cons_zero, List.set_cons_succ])
      go_wp2_with fail
      go_roundw
      case rel => exact ⟨j + 1, by omega, by go_num, (HB2.out.setCell (p := ⟨w1.heap.size, 0, none⟩) (Nat.le_refl _) _).setCell (p := ⟨w1.heap.size, 1, none⟩) (Nat.le_refl _) _, by rw [← HST.out]; exact K3.out⟩
      case measure => simp [intOf]; omega
    · have hjm2 : j = m := by omega
      have tj : decide ((j : Int) < (m : Int)) = false := by simp; omega
      rw [hjm2, HFULL.out] at hblk
      have c0 := hblk.cell (j := 0) rfl
      have c1 := hblk.cell (j := 1) rfl
      have r0 := K1.out.below hbel (by omega)
      have g0 := r0.cell (j := 0) rfl
      have g1 := r0.cell (j := 1) rfl
      have f0 := r0.frozen 0
      have f1 := r0.frozen 1
      have r2 := (r0.set 0 (.bool (ineg T))).set 1 (.string (imag T))
      have e0 := r2.cell (j := 0) rfl
      have e1 := r2.cell (j := 1) rfl
      have s3 := S1.out.trans (hbel.mono S1.out.size)
      have s6 := (s3.setCell (p := ⟨w.heap.size + 1, 0, none⟩) (show w.heap.size ≤ w.heap.size + 1 by omega) (.bool (ineg T))).setCell (p := ⟨w.heap.size + 1, 1, none⟩) (show w.heap.size ≤ w.heap.size + 1 by omega) (.string (imag T))
      have S6 := Lib.hid s6; clear s6
      clear hblk hbel r0 r2 hjm2 s3
      go_wp2_with fail
      refine bodyPost_ret (v := .tuple #[IntV T, .int .i64 c]) (by simp [results, Tryz.results13, go_sem, e0, e1, IntV]) rfl ⟨S6.out, rfl⟩
theorem clN_succ (es : List E3) (j n : Nat) : clN es (j + 1) n = clN es j n + cw es (ind (j : Int)) n (j : Int) := by simp [clN, List.range_succ]
set_option maxRecDepth 100000 in
set_option maxHeartbeats 3200000 in
theorem rclosed_any (L : Int) (S n : Nat) (es : List E3) (v : Value) (w : World) (hr : Row w v es.length (ce es)) (hS : S ≤ 32) (hl : es.length ≤ 1024) (hin : InS S es) (hn : n ≤ 4096) :
    Calls Tryz.prog 42 #[.agg #[.int .i64 L, .int .i64 (S : Int), v], .int .i64 (n : Int)] w (Ret w (IntV (clN es S n))) := by
  obtain ⟨va, vc, rfl, hle⟩ := hr.slice
  have hT : ∀ j, j ≤ S → sm (2 * n + 2) (clN es j n) := fun j hj => clN_sm hl (by omega) (Nat.le_refl n)
  have hsx : ∀ j : Nat, sm (2 * n + 1) (cw es (ind (j : Int)) n (j : Int)) := fun j => cw_sm hl _ n _
  have hstep := fun j => clN_succ es j n
  have hgx : ∀ j : Nat, j < S → (rowK es S (ind (j : Int)) n)[j]? = some (cw es (ind (j : Int)) n (j : Int)) := fun j h => rowK_get h
  have hun := fun (t : Nat) w' (h : Row w' (.slice va es.length vc) es.length (ce es)) => runit_any L S (t : Int) (ind (t : Int)) (.slice va es.length vc) es w' h (by omega) (ind_unit S t)
  simp only [row0_full es S] at hun
  have hba := fun (t : Nat) b0 w' (h : Row w' (.slice va es.length vc) es.length (ce es)) hb => rback_any L S n b0 es (ind (t : Int)) (.slice va es.length vc) w' h (by omega) hn hl hin hb
  have s0 := ((Below.refl w.heap.size w).alloc (Nat.le_refl _) (.cells #[.int .i64 L, .int .i64 (S : Int), .slice va es.length vc] 24)).alloc (by simp) (.cells #[.bool false, .string ⟨#[]⟩] 28)
  have b0 := (Blk.new w 24 [.int .i64 L, .int .i64 (S : Int), .slice va es.length vc]).alloc (.cells #[.bool false, .string ⟨#[]⟩] 28)
  have b1 := Blk.new (w.alloc (.cells #[.int .i64 L, .int .i64 (S : Int), .slice va es.length vc] 24)) 28 [.bool false, .string ⟨#[]⟩]
  simp only [World.size_alloc] at b1
  obtain ⟨w1, hw1⟩ : ∃ w1, (w.alloc (.cells #[.int .i64 L, .int .i64 (S : Int), .slice va es.length vc] 24)).alloc (.cells #[.bool false, .string ⟨#[]⟩] 28) = w1 := ⟨_, rfl⟩
  have hsz : w1.heap.size = w.heap.size + 2 := by rw [← hw1]; simp
  have hr0 := hr.below s0 (Nat.le_refl _)
  have bA := Blk.new ((w.alloc (.cells #[.int .i64 L, .int .i64 (S : Int), .slice va es.length vc] 24)).alloc (.cells #[.bool false, .string ⟨#[]⟩] 28)) 28 [.bool false, .string ⟨#[]⟩]
  have s2 := (Below.refl _ ((w.alloc (.cells #[.int .i64 L, .int .i64 (S : Int), .slice va es.length vc] 24)).alloc (.cells #[.bool false, .string ⟨#[]⟩] 28))).alloc (Nat.le_refl _) (.cells #[.bool false, .string ⟨#[]⟩] 28)
  rw [hw1] at s0 b0 b1 hr0 bA s2
  obtain ⟨W0, hW0⟩ : ∃ W0, w1.alloc (.cells #[.bool false, .string ⟨#[]⟩] 28) = W0 := ⟨_, rfl⟩
  rw [hW0] at bA s2
  have hz1 : w1.heap.size ≤ w.heap.size + 2 := by omega
  have hz2 : w.heap.size + 2 ≤ w1.heap.size := by omega
  clear hsz
  have y0 := bA.cell (j := 0) rfl
  have y1 := bA.cell (j := 1) rfl
  have y2 := bA.frozen 0
  have y3 := bA.frozen 1
  have bA2 := (bA.set 0 (.bool false)).set 1 (.string ⟨#[]⟩)
  have s3 := (s2.setCell (p := ⟨w1.heap.size, 0, none⟩) (Nat.le_refl _) (.bool false)).setCell (p := ⟨w1.heap.size, 1, none⟩) (Nat.le_refl _) (.string ⟨#[]⟩)
  obtain ⟨mm, hmm⟩ : ∃ mm, mm = es.length := ⟨_, rfl⟩
  rw [← hmm] at b0 hr0 hun hba hle hw1
  obtain ⟨R, hR⟩ : ∃ R, R = rowK es S := ⟨_, rfl⟩
  simp only [← hR] at hun hba hgx
  obtain ⟨cl, hcl⟩ : ∃ cl, cl = fun j => clN es j n := ⟨_, rfl⟩
  obtain ⟨cx, hcx⟩ : ∃ cx, cx = fun j : Nat => cw es (ind (j : Int)) n (j : Int) := ⟨_, rfl⟩
  have ecl : ∀ j, clN es j n = cl j := fun j => by rw [hcl]
  have ecx : ∀ j : Nat, cw es (ind (j : Int)) n (j : Int) = cx j := fun j => by rw [hcx]
  have hcl0 : cl 0 = 0 := by rw [hcl]; rfl
  simp only [ecl, ecx] at hT hsx hstep hgx
  rw [ecl]
  have HT := Lib.hid hT; clear hT
  have HSX := Lib.hid hsx; clear hsx
  have HSTEP := Lib.hid hstep; clear hstep
  have HGX := Lib.hid hgx; clear hgx
  have HUN := Lib.hid hun; clear hun
  have HBA := Lib.hid hba; clear hba
  have B0 := Lib.hid b0; clear b0
  have B1 := Lib.hid b1; clear b1
  have BA := Lib.hid bA2; clear bA2
  have S0 := Lib.hid s0; clear s0
  have S2 := Lib.hid s3; clear s3
  have HR := Lib.hid hr0; clear hr0
  have HMM := Lib.hid hmm; clear hmm
  have HC0 := Lib.hid hcl0; clear hcl0
  clear hr hin hR hcl hcx ecl ecx s2 bA
  go_enter Tryz.func42, Tryz.ntmps42
  rw [← HMM.out]
  go_wp2_with fail
  clear hw1 hW0 y0 y1 y2 y3
  go_loopw [6] (fun i wr => ∃ j : Nat, j ≤ S ∧ i = .int .i64 (j : Int) ∧ Below w1.heap.size w1 wr ∧ Blk wr w1.heap.size 28 [.bool (ineg (cl j)), .string (imag (cl j))]) (fun i _ => S - (intOf i).toNat)
  case atStart => exact ⟨0, Nat.zero_le _, rfl, S2.out, by rw [HC0.out, ineg_zero, imag_zero]; exact BA.out⟩
  case round =>
    obtain ⟨j, hj, rfl, hbel, hblk⟩ := hrel
    obtain ⟨wo, rfl⟩ : ∃ wo : World, wo = wr := ⟨_, rfl⟩
    have hszo := hbel.size
    have hbl := hblk.lt
    have d0 := B0.out.below hbel (by omega)
    have x0 := d0.cell (j := 0) rfl
    have x1 := d0.cell (j := 1) rfl
    have x2 := d0.cell (j := 2) rfl
    by_cases hjm : j < S
    · have tj : decide ((j : Int) < (S : Int)) = true := by simp; omega
      have hx := HGX.out j hjm
      have hxs := HSX.out j
      have hst := HSTEP.out j
      have hMs := HT.out j hj
      have hun := HUN.out j
      have hba := HBA.out j
      obtain ⟨M, hM⟩ : ∃ M, M = cl j := ⟨_, rfl⟩
      obtain ⟨x, hxx⟩ : ∃ x, x = cx j := ⟨_, rfl⟩
      rw [← hM, ← hxx] at hst
      rw [← hM] at hMs hblk
      rw [← hxx] at hx hxs
      have hst2 := hst.symm
      have hadd := fun w' => radd_any M x w' (Nat.le_trans hMs.size (by omega)) (Nat.le_trans hxs.size (by omega))
      obtain ⟨gx0, gx1⟩ := civ_get hx
      have hix1 : (0 : Int) ≤ (j : Int) := by omega
      have hix2 : (j : Int) < (S : Int) := by omega
      have sw := (Below.refl wo.heap.size wo).drew
      have hro := HR.out.below hbel (Nat.le_refl _)
      have cN0 := hblk.cell (j := 0) rfl
      have cN1 := hblk.cell (j := 1) rfl
      have fr0 := hblk.frozen 0
      have fr1 := hblk.frozen 1
      have nb := hblk.drew
      have HST := Lib.hid hst2; clear hst2
      have HADD := Lib.hid hadd; clear hadd
      have HBEL := Lib.hid hbel; clear hbel
      have HRO := Lib.hid hro; clear hro
      have HUJ := Lib.hid hun; clear hun
      have HBJ := Lib.hid hba; clear hba
      have GX0 := Lib.hid gx0; clear gx0
      have GX1 := Lib.hid gx1; clear gx1
      clear hst hM hMs hxs hx hxx d0 hblk
      have hwb : w.heap.size < wo.heap.size := by omega
      have hne1 : ¬ w1.heap.size = w.heap.size := by omega
      have hne2 : ¬ w.heap.size = w1.heap.size := by omega
      go_wp2_with fail
      refine wp_region_held_drew (S := fun w' => w'.cell? ⟨w.heap.size, 0, none⟩ = some (.int .i64 L) ∧ w'.cell? ⟨w.heap.size, 1, none⟩ = some (.int .i64 (S : Int)) ∧ w'.cell? ⟨w.heap.size, 2, none⟩ = some (.slice va mm vc)) (by kernel_rfl) ?_ (fun hHeld => ?_)
      · go_keep
      refine wpAnyH_take (i := 1) (v := ?_) rfl (by kernel_rfl) (by kernel_rfl) (by kernel_rfl) (fun _ _ _ h => h) (Or.inl ⟨by rfl, ?_⟩) (by assumption) ?_
      rotate_left
      · (intro wS hSw; (try dsimp only at hSw); go_simp; (try with_reducible rfl))
      (try simp only [Act.put, List.setIfInBounds_toArray, List.set_cons_zero, List.set_cons_succ])
      refine wpAnyH_take (i := 2) (v := ?_) rfl (by kernel_rfl) (by kernel_rfl) (by kernel_rfl) (fun _ _ _ h => h) (Or.inl ⟨by rfl, ?_⟩) (by assumption) ?_
      rotate_left
      · (intro wS hSw; (try dsimp only at hSw); go_simp; (try with_reducible rfl))
      (try simp only [Act.put, List.setIfInBounds_toArray, List.set_cons_zero, List.set_cons_succ])
      refine wpAnyH_take (i := 3) (v := ?_) rfl (by kernel_rfl) (by kernel_rfl) (by kernel_rfl) (fun _ _ _ h => h) (Or.inl ⟨by rfl, ?_⟩) (by assumption) ?_
      rotate_left
      · (intro wS hSw; (try dsimp only at hSw); go_simp; (try with_reducible rfl))
      (try simp only [Act.put, List.setIfInBounds_toArray, List.set_cons_zero, List.set_cons_succ])
      refine wpAnyH_take (i := 5) (v := ?_) rfl (by kernel_rfl) (by kernel_rfl) (by kernel_rfl) (fun _ _ _ h => h) (Or.inl ⟨by rfl, ?_⟩) (by assumption) ?_
      rotate_left
      · (intro wS hSw; (try dsimp only at hSw); go_simp; (try with_reducible rfl))
      (try simp only [Act.put, List.setIfInBounds_toArray, List.set_cons_zero, List.set_cons_succ])
      refine wpAnyH_take (i := 7) (v := ?_) rfl (by kernel_rfl) (by kernel_rfl) (by kernel_rfl) (fun _ _ _ h => h) (Or.inl ⟨by rfl, ?_⟩) (by assumption) ?_
      rotate_left
      · (intro wS hSw; (try dsimp only at hSw); go_simp; (try with_reducible rfl))
      (try simp only [Act.put, List.setIfInBounds_toArray, List.set_cons_zero, List.set_cons_succ])
      refine wpAnyH_ready (rs := [0, 4]) (by kernel_rfl) (by simp) ?_
      refine AllReadyH.cons rfl (fun K hK => ?_) (AllReadyH.cons rfl (fun K hK => ?_) (AllReadyH.nil))
      · go_simp
        refine hK.out _ _ ?_ (fun hH1 => ?_)
        · ((try dsimp only); go_keep)
        clear hK K
        (try simp only [Act.put, List.setIfInBounds_toArray, List.set_cons_zero, List.set_cons_succ])
        refine wpAnyH_ready (rs := [4]) (by kernel_rfl) (by simp) ?_
        refine AllReadyH.cons rfl (fun K hK => ?_) AllReadyH.nil
        go_simp
        go_at_call 37
        refine (HUJ.out _ HRO.out.drew).mono ?_
        rintro e' wa2 ⟨hq, bu, rfl, hbu⟩
        dsimp only
        have z0 := (hq.cell (p := ⟨w.heap.size, 0, none⟩) (show w.heap.size < wo.heap.size by omega)).trans hH1.1
        have z1 := (hq.cell (p := ⟨w.heap.size, 1, none⟩) (show w.heap.size < wo.heap.size by omega)).trans hH1.2.1
        have z2 := (hq.cell (p := ⟨w.heap.size, 2, none⟩) (show w.heap.size < wo.heap.size by omega)).trans hH1.2.2
        refine hK.out _ _ ⟨z0, z1, z2⟩ (fun hH3 => ?_)
        clear hK K z0  z1  z2
        (try simp only [Act.put, List.setIfInBounds_toArray, List.set_cons_zero, List.set_cons_succ])
        have sa4 : Below wo.heap.size wo wa2 := sw.trans (hq.mono sw.size)
        have na5 := Blk.keep (w := wo.drew) nb hq
        clear hq
        have hlwa2 : wo.heap.size ≤ wa2.heap.size := sa4.size
        clear cN0 cN1
        have cN0 := na5.cell (j := 0) rfl
        have cN1 := na5.cell (j := 1) rfl
        have fr0 := na5.frozen 0
        have fr1 := na5.frozen 1
        have hru := HRO.out.below sa4 (Nat.le_refl _)
        have hbk := HBJ.out _ _ hru hbu
        have HBK := Lib.hid hbk; clear hbk
        clear hru hbu
        refine wpAnyH_ready (rs := [6]) (by kernel_rfl) (by simp) ?_
        refine AllReadyH.cons rfl (fun K hK => ?_) AllReadyH.nil
        go_simp
        go_at_call 36
        refine (HBK.out).mono ?_
        rintro e' wa6 ⟨hq, bv, rfl, hbv⟩
        dsimp only
        have z0 := (hq.cell (p := ⟨w.heap.size, 0, none⟩) (show w.heap.size < wa2.heap.size by omega)).trans hH3.1
        have z1 := (hq.cell (p := ⟨w.heap.size, 1, none⟩) (show w.heap.size < wa2.heap.size by omega)).trans hH3.2.1
        have z2 := (hq.cell (p := ⟨w.heap.size, 2, none⟩) (show w.heap.size < wa2.heap.size by omega)).trans hH3.2.2
        refine hK.out _ _ ⟨z0, z1, z2⟩ (fun hH7 => ?_)
        clear hK K z0  z1  z2
        (try simp only [Act.put, List.setIfInBounds_toArray, List.set_cons_zero, List.set_cons_succ])
        have sa8 : Below wo.heap.size wo wa6 := sa4.trans (hq.mono sa4.size)
        have na9 := Blk.keep (w := wa2) na5 hq
        clear hq
        have hlwa6 : wo.heap.size ≤ wa6.heap.size := sa8.size
        clear cN0 cN1
        have cN0 := na9.cell (j := 0) rfl
        have cN1 := na9.cell (j := 1) rfl
        have fr0 := na9.frozen 0
        have fr1 := na9.frozen 1
        have c0 := hbv.cell GX0.out
        have c1 := hbv.cell GX1.out
        clear hbv
        refine wpAnyH_take (i := 8) (v := ?_) rfl (by kernel_rfl) (by kernel_rfl) (by kernel_rfl) (fun _ _ _ h => h) (Or.inl ⟨by rfl, ?_⟩) (by assumption) ?_
        rotate_left
        · (intro wS hSw; (try dsimp only at hSw); go_simp; (try with_reducible rfl))
        (try simp only [Act.put, List.setIfInBounds_toArray, List.set_cons_zero, List.set_cons_succ])
        refine wpAnyH_ready (rs := [9]) (by kernel_rfl) (by simp) ?_
        refine AllReadyH.cons rfl (fun K hK => ?_) AllReadyH.nil
        go_simp
        refine hK.out _ _ ?_ (fun hH10 => ?_)
        · ((try dsimp only); go_keep)
        clear hK K
        (try simp only [Act.put, List.setIfInBounds_toArray, List.set_cons_zero, List.set_cons_succ])
        refine wpAnyH_ready (rs := [10]) (by kernel_rfl) (by simp) ?_
        refine AllReadyH.cons rfl (fun K hK => ?_) AllReadyH.nil
        go_simp
        go_at_call 40
        refine (HADD.out _).mono ?_
        rintro e' wa11 ⟨hq, rfl⟩
        dsimp only
        have z0 := (hq.cell (p := ⟨w.heap.size, 0, none⟩) (show w.heap.size < wa6.heap.size by omega)).trans hH10.1
        have z1 := (hq.cell (p := ⟨w.heap.size, 1, none⟩) (show w.heap.size < wa6.heap.size by omega)).trans hH10.2.1
        have z2 := (hq.cell (p := ⟨w.heap.size, 2, none⟩) (show w.heap.size < wa6.heap.size by omega)).trans hH10.2.2
        refine hK.out _ _ ⟨z0, z1, z2⟩ (fun hH12 => ?_)
        clear hK K z0  z1  z2
        (try simp only [Act.put, List.setIfInBounds_toArray, List.set_cons_zero, List.set_cons_succ])
        have sa13 : Below wo.heap.size wo wa11 := sa8.trans (hq.mono sa8.size)
        have na14 := Blk.keep (w := wa6) na9 hq
        clear hq
        have hlwa11 : wo.heap.size ≤ wa11.heap.size := sa13.size
        clear cN0 cN1
        have cN0 := na14.cell (j := 0) rfl
        have cN1 := na14.cell (j := 1) rfl
        have fr0 := na14.frozen 0
        have fr1 := na14.frozen 1
        refine wpAnyH_ready (rs := [11]) (by kernel_rfl) (by simp) ?_
        refine AllReadyH.cons rfl (fun K hK => ?_) AllReadyH.nil
        go_simp
        refine hK.out _ _ ?_ (fun hH15 => ?_)
        · ((try dsimp only); go_keep)
        clear hK K
        (try simp only [Act.put, List.setIfInBounds_toArray, List.set_cons_zero, List.set_cons_succ])
        have hfin := HBEL.out.trans (sa13.mono (by omega))
        have nfin := (na14.set 0 (.bool (ineg (M + x)))).set 1 (.string (imag (M + x)))
        have HFIN := Lib.hid hfin; clear hfin
        have NFIN := Lib.hid nfin; clear nfin
        refine wpAnyH_done (by kernel_rfl) ?_ _
        (try simp only [List.getElem_toArray, List.getElem_cons_zero, List.getElem_cons_succ, Act.put, List.setIfInBounds_toArray, List.set_cons_zero, List.set_cons_succ])
        go_wp2_with fail
        go_roundw
        case rel => exact ⟨j + 1, by omega, by go_num, (HFIN.out.setCell (p := ⟨w1.heap.size, 0, none⟩) (Nat.le_refl _) _).setCell (p := ⟨w1.heap.size, 1, none⟩) (Nat.le_refl _) _, by rw [← HST.out]; exact NFIN.out⟩
        case measure => simp [intOf]; omega
      · go_simp
        go_at_call 37
        refine (HUJ.out _ HRO.out.drew).mono ?_
        rintro e' wa16 ⟨hq, bu, rfl, hbu⟩
        dsimp only
        have z0 := (hq.cell (p := ⟨w.heap.size, 0, none⟩) (show w.heap.size < wo.heap.size by omega)).trans hHeld.1
        have z1 := (hq.cell (p := ⟨w.heap.size, 1, none⟩) (show w.heap.size < wo.heap.size by omega)).trans hHeld.2.1
        have z2 := (hq.cell (p := ⟨w.heap.size, 2, none⟩) (show w.heap.size < wo.heap.size by omega)).trans hHeld.2.2
        refine hK.out _ _ ⟨z0, z1, z2⟩ (fun hH17 => ?_)
        clear hK K z0  z1  z2
        (try simp only [Act.put, List.setIfInBounds_toArray, List.set_cons_zero, List.set_cons_succ])
        have sa18 : Below wo.heap.size wo wa16 := sw.trans (hq.mono sw.size)
        have na19 := Blk.keep (w := wo.drew) nb hq
        clear hq
        have hlwa16 : wo.heap.size ≤ wa16.heap.size := sa18.size
        clear cN0 cN1
        have cN0 := na19.cell (j := 0) rfl
        have cN1 := na19.cell (j := 1) rfl
        have fr0 := na19.frozen 0
        have fr1 := na19.frozen 1
        have hru := HRO.out.below sa18 (Nat.le_refl _)
        have hbk := HBJ.out _ _ hru hbu
        have HBK := Lib.hid hbk; clear hbk
        clear hru hbu
        refine wpAnyH_ready (rs := [0, 6]) (by kernel_rfl) (by simp) ?_
        refine AllReadyH.cons rfl (fun K hK => ?_) (AllReadyH.cons rfl (fun K hK => ?_) (AllReadyH.nil))
        · go_simp
          refine hK.out _ _ ?_ (fun hH20 => ?_)
          · ((try dsimp only); go_keep)
          clear hK K
          (try simp only [Act.put, List.setIfInBounds_toArray, List.set_cons_zero, List.set_cons_succ])
          refine wpAnyH_ready (rs := [6]) (by kernel_rfl) (by simp) ?_
          refine AllReadyH.cons rfl (fun K hK => ?_) AllReadyH.nil
          go_simp
          go_at_call 36
          refine (HBK.out).mono ?_
          rintro e' wa21 ⟨hq, bv, rfl, hbv⟩
          dsimp only
          have z0 := (hq.cell (p := ⟨w.heap.size, 0, none⟩) (show w.heap.size < wa16.heap.size by omega)).trans hH20.1
          have z1 := (hq.cell (p := ⟨w.heap.size, 1, none⟩) (show w.heap.size < wa16.heap.size by omega)).trans hH20.2.1
          have z2 := (hq.cell (p := ⟨w.heap.size, 2, none⟩) (show w.heap.size < wa16.heap.size by omega)).trans hH20.2.2
          refine hK.out _ _ ⟨z0, z1, z2⟩ (fun hH22 => ?_)
          clear hK K z0  z1  z2
          (try simp only [Act.put, List.setIfInBounds_toArray, List.set_cons_zero, List.set_cons_succ])
          have sa23 : Below wo.heap.size wo wa21 := sa18.trans (hq.mono sa18.size)
          have na24 := Blk.keep (w := wa16) na19 hq
          clear hq
          have hlwa21 : wo.heap.size ≤ wa21.heap.size := sa23.size
          clear cN0 cN1
          have cN0 := na24.cell (j := 0) rfl
          have cN1 := na24.cell (j := 1) rfl
          have fr0 := na24.frozen 0
          have fr1 := na24.frozen 1
          have c0 := hbv.cell GX0.out
          have c1 := hbv.cell GX1.out
          clear hbv
          refine wpAnyH_take (i := 8) (v := ?_) rfl (by kernel_rfl) (by kernel_rfl) (by kernel_rfl) (fun _ _ _ h => h) (Or.inl ⟨by rfl, ?_⟩) (by assumption) ?_
          rotate_left
          · (intro wS hSw; (try dsimp only at hSw); go_simp; (try with_reducible rfl))
          (try simp only [Act.put, List.setIfInBounds_toArray, List.set_cons_zero, List.set_cons_succ])
          refine wpAnyH_ready (rs := [9]) (by kernel_rfl) (by simp) ?_
          refine AllReadyH.cons rfl (fun K hK => ?_) AllReadyH.nil
          go_simp
          refine hK.out _ _ ?_ (fun hH25 => ?_)
          · ((try dsimp only); go_keep)
          clear hK K
          (try simp only [Act.put, List.setIfInBounds_toArray, List.set_cons_zero, List.set_cons_succ])
          refine wpAnyH_ready (rs := [10]) (by kernel_rfl) (by simp) ?_
          refine AllReadyH.cons rfl (fun K hK => ?_) AllReadyH.nil
          go_simp
          go_at_call 40
          refine (HADD.out _).mono ?_
          rintro e' wa26 ⟨hq, rfl⟩
          dsimp only
          have z0 := (hq.cell (p := ⟨w.heap.size, 0, none⟩) (show w.heap.size < wa21.heap.size by omega)).trans hH25.1
          have z1 := (hq.cell (p := ⟨w.heap.size, 1, none⟩) (show w.heap.size < wa21.heap.size by omega)).trans hH25.2.1
          have z2 := (hq.cell (p := ⟨w.heap.size, 2, none⟩) (show w.heap.size < wa21.heap.size by omega)).trans hH25.2.2
          refine hK.out _ _ ⟨z0, z1, z2⟩ (fun hH27 => ?_)
          clear hK K z0  z1  z2
          (try simp only [Act.put, List.setIfInBounds_toArray, List.set_cons_zero, List.set_cons_succ])
          have sa28 : Below wo.heap.size wo wa26 := sa23.trans (hq.mono sa23.size)
          have na29 := Blk.keep (w := wa21) na24 hq
          clear hq
          have hlwa26 : wo.heap.size ≤ wa26.heap.size := sa28.size
          clear cN0 cN1
          have cN0 := na29.cell (j := 0) rfl
          have cN1 := na29.cell (j := 1) rfl
          have fr0 := na29.frozen 0
          have fr1 := na29.frozen 1
          refine wpAnyH_ready (rs := [11]) (by kernel_rfl) (by simp) ?_
          refine AllReadyH.cons rfl (fun K hK => ?_) AllReadyH.nil
          go_simp
          refine hK.out _ _ ?_ (fun hH30 => ?_)
          · ((try dsimp only); go_keep)
          clear hK K
          (try simp only [Act.put, List.setIfInBounds_toArray, List.set_cons_zero, List.set_cons_succ])
          have hfin := HBEL.out.trans (sa28.mono (by omega))
          have nfin := (na29.set 0 (.bool (ineg (M + x)))).set 1 (.string (imag (M + x)))
          have HFIN := Lib.hid hfin; clear hfin
          have NFIN := Lib.hid nfin; clear nfin
          refine wpAnyH_done (by kernel_rfl) ?_ _
          (try simp only [List.getElem_toArray, List.getElem_cons_zero, List.getElem_cons_succ, Act.put, List.setIfInBounds_toArray, List.set_cons_zero, List.set_cons_succ])
          go_wp2_with fail
          go_roundw
          case rel => exact ⟨j + 1, by omega, by go_num, (HFIN.out.setCell (p := ⟨w1.heap.size, 0, none⟩) (Nat.le_refl _) _).setCell (p := ⟨w1.heap.size, 1, none⟩) (Nat.le_refl _) _, by rw [← HST.out]; exact NFIN.out⟩
          case measure => simp [intOf]; omega
        · go_simp
          go_at_call 36
          refine (HBK.out).mono ?_
          rintro e' wa31 ⟨hq, bv, rfl, hbv⟩
          dsimp only
          have z0 := (hq.cell (p := ⟨w.heap.size, 0, none⟩) (show w.heap.size < wa16.heap.size by omega)).trans hH17.1
          have z1 := (hq.cell (p := ⟨w.heap.size, 1, none⟩) (show w.heap.size < wa16.heap.size by omega)).trans hH17.2.1
          have z2 := (hq.cell (p := ⟨w.heap.size, 2, none⟩) (show w.heap.size < wa16.heap.size by omega)).trans hH17.2.2
          refine hK.out _ _ ⟨z0, z1, z2⟩ (fun hH32 => ?_)
          clear hK K z0  z1  z2
          (try simp only [Act.put, List.setIfInBounds_toArray, List.set_cons_zero, List.set_cons_succ])
          have sa33 : Below wo.heap.size wo wa31 := sa18.trans (hq.mono sa18.size)
          have na34 := Blk.keep (w := wa16) na19 hq
          clear hq
          have hlwa31 : wo.heap.size ≤ wa31.heap.size := sa33.size
          clear cN0 cN1
          have cN0 := na34.cell (j := 0) rfl
          have cN1 := na34.cell (j := 1) rfl
          have fr0 := na34.frozen 0
          have fr1 := na34.frozen 1
          have c0 := hbv.cell GX0.out
          have c1 := hbv.cell GX1.out
          clear hbv
          refine wpAnyH_take (i := 8) (v := ?_) rfl (by kernel_rfl) (by kernel_rfl) (by kernel_rfl) (fun _ _ _ h => h) (Or.inl ⟨by rfl, ?_⟩) (by assumption) ?_
          rotate_left
          · (intro wS hSw; (try dsimp only at hSw); go_simp; (try with_reducible rfl))
          (try simp only [Act.put, List.setIfInBounds_toArray, List.set_cons_zero, List.set_cons_succ])
          refine wpAnyH_ready (rs := [0, 9]) (by kernel_rfl) (by simp) ?_
          refine AllReadyH.cons rfl (fun K hK => ?_) (AllReadyH.cons rfl (fun K hK => ?_) (AllReadyH.nil))
          · go_simp
            refine hK.out _ _ ?_ (fun hH35 => ?_)
            · ((try dsimp only); go_keep)
            clear hK K
            (try simp only [Act.put, List.setIfInBounds_toArray, List.set_cons_zero, List.set_cons_succ])
            refine wpAnyH_ready (rs := [9]) (by kernel_rfl) (by simp) ?_
            refine AllReadyH.cons rfl (fun K hK => ?_) AllReadyH.nil
            go_simp
            refine hK.out _ _ ?_ (fun hH36 => ?_)
            · ((try dsimp only); go_keep)
            clear hK K
            (try simp only [Act.put, List.setIfInBounds_toArray, List.set_cons_zero, List.set_cons_succ])
            refine wpAnyH_ready (rs := [10]) (by kernel_rfl) (by simp) ?_
            refine AllReadyH.cons rfl (fun K hK => ?_) AllReadyH.nil
            go_simp
            go_at_call 40
            refine (HADD.out _).mono ?_
            rintro e' wa37 ⟨hq, rfl⟩
            dsimp only
            have z0 := (hq.cell (p := ⟨w.heap.size, 0, none⟩) (show w.heap.size < wa31.heap.size by omega)).trans hH36.1
            have z1 := (hq.cell (p := ⟨w.heap.size, 1, none⟩) (show w.heap.size < wa31.heap.size by omega)).trans hH36.2.1
            have z2 := (hq.cell (p := ⟨w.heap.size, 2, none⟩) (show w.heap.size < wa31.heap.size by omega)).trans hH36.2.2
            refine hK.out _ _ ⟨z0, z1, z2⟩ (fun hH38 => ?_)
            clear hK K z0  z1  z2
            (try simp only [Act.put, List.setIfInBounds_toArray, List.set_cons_zero, List.set_cons_succ])
            have sa39 : Below wo.heap.size wo wa37 := sa33.trans (hq.mono sa33.size)
            have na40 := Blk.keep (w := wa31) na34 hq
            clear hq
            have hlwa37 : wo.heap.size ≤ wa37.heap.size := sa39.size
            clear cN0 cN1
            have cN0 := na40.cell (j := 0) rfl
            have cN1 := na40.cell (j := 1) rfl
            have fr0 := na40.frozen 0
            have fr1 := na40.frozen 1
            refine wpAnyH_ready (rs := [11]) (by kernel_rfl) (by simp) ?_
            refine AllReadyH.cons rfl (fun K hK => ?_) AllReadyH.nil
            go_simp
            refine hK.out _ _ ?_ (fun hH41 => ?_)
            · ((try dsimp only); go_keep)
            clear hK K
            (try simp only [Act.put, List.setIfInBounds_toArray, List.set_cons_zero, List.set_cons_succ])
            have hfin := HBEL.out.trans (sa39.mono (by omega))
            have nfin := (na40.set 0 (.bool (ineg (M + x)))).set 1 (.string (imag (M + x)))
            have HFIN := Lib.hid hfin; clear hfin
            have NFIN := Lib.hid nfin; clear nfin
            refine wpAnyH_done (by kernel_rfl) ?_ _
            (try simp only [List.getElem_toArray, List.getElem_cons_zero, List.getElem_cons_succ, Act.put, List.setIfInBounds_toArray, List.set_cons_zero, List.set_cons_succ])
            go_wp2_with fail
            go_roundw
            case rel => exact ⟨j + 1, by omega, by go_num, (HFIN.out.setCell (p := ⟨w1.heap.size, 0, none⟩) (Nat.le_refl _) _).setCell (p := ⟨w1.heap.size, 1, none⟩) (Nat.le_refl _) _, by rw [← HST.out]; exact NFIN.out⟩
            case measure => simp [intOf]; omega
          · go_simp
            refine hK.out _ _ ?_ (fun hH42 => ?_)
            · ((try dsimp only); go_keep)
            clear hK K
            (try simp only [Act.put, List.setIfInBounds_toArray, List.set_cons_zero, List.set_cons_succ])
            refine wpAnyH_ready (rs := [0]) (by kernel_rfl) (by simp) ?_
            refine AllReadyH.cons rfl (fun K hK => ?_) AllReadyH.nil
            go_simp
            refine hK.out _ _ ?_ (fun hH43 => ?_)
            · ((try dsimp only); go_keep)
            clear hK K
            (try simp only [Act.put, List.setIfInBounds_toArray, List.set_cons_zero, List.set_cons_succ])
            refine wpAnyH_ready (rs := [10]) (by kernel_rfl) (by simp) ?_
            refine AllReadyH.cons rfl (fun K hK => ?_) AllReadyH.nil
            go_simp
            go_at_call 40
            refine (HADD.out _).mono ?_
            rintro e' wa44 ⟨hq, rfl⟩
            dsimp only
            have z0 := (hq.cell (p := ⟨w.heap.size, 0, none⟩) (show w.heap.size < wa31.heap.size by omega)).trans hH43.1
            have z1 := (hq.cell (p := ⟨w.heap.size, 1, none⟩) (show w.heap.size < wa31.heap.size by omega)).trans hH43.2.1
            have z2 := (hq.cell (p := ⟨w.heap.size, 2, none⟩) (show w.heap.size < wa31.heap.size by omega)).trans hH43.2.2
            refine hK.out _ _ ⟨z0, z1, z2⟩ (fun hH45 => ?_)
            clear hK K z0  z1  z2
            (try simp only [Act.put, List.setIfInBounds_toArray, List.set_cons_zero, List.set_cons_succ])
            have sa46 : Below wo.heap.size wo wa44 := sa33.trans (hq.mono sa33.size)
            have na47 := Blk.keep (w := wa31) na34 hq
            clear hq
            have hlwa44 : wo.heap.size ≤ wa44.heap.size := sa46.size
            clear cN0 cN1
            have cN0 := na47.cell (j := 0) rfl
            have cN1 := na47.cell (j := 1) rfl
            have fr0 := na47.frozen 0
            have fr1 := na47.frozen 1
            refine wpAnyH_ready (rs := [11]) (by kernel_rfl) (by simp) ?_
            refine AllReadyH.cons rfl (fun K hK => ?_) AllReadyH.nil
            go_simp
            refine hK.out _ _ ?_ (fun hH48 => ?_)
            · ((try dsimp only); go_keep)
            clear hK K
            (try simp only [Act.put, List.setIfInBounds_toArray, List.set_cons_zero, List.set_cons_succ])
            have hfin := HBEL.out.trans (sa46.mono (by omega))
            have nfin := (na47.set 0 (.bool (ineg (M + x)))).set 1 (.string (imag (M + x)))
            have HFIN := Lib.hid hfin; clear hfin
            have NFIN := Lib.hid nfin; clear nfin
            refine wpAnyH_done (by kernel_rfl) ?_ _
            (try simp only [List.getElem_toArray, List.getElem_cons_zero, List.getElem_cons_succ, Act.put, List.setIfInBounds_toArray, List.set_cons_zero, List.set_cons_succ])
            go_wp2_with fail
            go_roundw
            case rel => exact ⟨j + 1, by omega, by go_num, (HFIN.out.setCell (p := ⟨w1.heap.size, 0, none⟩) (Nat.le_refl _) _).setCell (p := ⟨w1.heap.size, 1, none⟩) (Nat.le_refl _) _, by rw [← HST.out]; exact NFIN.out⟩
            case measure => simp [intOf]; omega
    · have hjm2 : j = S := by omega
      have tj : decide ((j : Int) < (S : Int)) = false := by simp; omega
      rw [hjm2] at hblk
      have c0 := hblk.cell (j := 0) rfl
      have c1 := hblk.cell (j := 1) rfl
      have r0 := B1.out.below hbel (by omega)
      have g0 := r0.cell (j := 0) rfl
      have g1 := r0.cell (j := 1) rfl
      have f0 := r0.frozen 0
      have f1 := r0.frozen 1
      have r2 := (r0.set 0 (.bool (ineg (cl S)))).set 1 (.string (imag (cl S)))
      have e0 := r2.cell (j := 0) rfl
      have e1 := r2.cell (j := 1) rfl
      have s3 := S0.out.trans (hbel.mono (by omega))
      have s6 := (s3.setCell (p := ⟨w.heap.size + 1, 0, none⟩) (show w.heap.size ≤ w.heap.size + 1 by omega) (.bool (ineg (cl S)))).setCell (p := ⟨w.heap.size + 1, 1, none⟩) (show w.heap.size ≤ w.heap.size + 1 by omega) (.string (imag (cl S)))
      have S6 := Lib.hid s6; clear s6
      clear hblk hbel r0 r2 hjm2 s3 d0
      go_wp2_with fail
      refine bodyPost_ret (v := IntV (cl S)) (by simp [results, Tryz.results42, go_sem, e0, e1, IntV]) rfl ⟨S6.out, rfl⟩
set_option maxRecDepth 100000 in
set_option maxHeartbeats 3200000 in
theorem rClosed_ok (L : Int) (S n : Nat) (es : List E3) (v : Value) (w : World) (hr : Row w v es.length (ce es)) (hc : chk L (S : Int) es = 0) (hS : S ≤ 32) (hn : n ≤ 4096) :
    Calls Tryz.prog 15 #[.agg #[.int .i64 L, .int .i64 (S : Int), v], .int .i64 (n : Int)] w (Ret w (.tuple #[IntV (clN es S n), .int .i64 0])) := by
  obtain ⟨va, vc, rfl, hle⟩ := hr.slice
  have hca := chk_all hc
  have hin := chk_inS hc
  have s0 := ((Below.refl w.heap.size w).alloc (Nat.le_refl _) (.cells #[.int .i64 L, .int .i64 (S : Int), .slice va es.length vc] 24)).alloc (by simp) (.cells #[.bool false, .string ⟨#[]⟩] 28)
  have b0 := (Blk.new w 24 [.int .i64 L, .int .i64 (S : Int), .slice va es.length vc]).alloc (.cells #[.bool false, .string ⟨#[]⟩] 28)
  have b1 := Blk.new (w.alloc (.cells #[.int .i64 L, .int .i64 (S : Int), .slice va es.length vc] 24)) 28 [.bool false, .string ⟨#[]⟩]
  simp only [World.size_alloc] at b1
  have hr0 := hr.below s0 (Nat.le_refl _)
  have hck := fun w' h => rcheck_any L (S : Int) es (.slice va es.length vc) w' h
  simp only [hc] at hck
  have hcl := fun w' h => rclosed_any L S n es (.slice va es.length vc) w' h hS (by omega) hin hn
  obtain ⟨X, hX⟩ : ∃ X, X = clN es S n := ⟨_, rfl⟩
  rw [← hX] at hcl ⊢
  obtain ⟨mm, hmm⟩ : ∃ mm, mm = es.length := ⟨_, rfl⟩
  rw [← hmm] at s0 b0 b1 hr0 hck hcl hle
  have t0 : decide ((n : Int) < 0) = false := decide_eq_false (by omega)
  have t1 : decide (4096 < (n : Int)) = false := decide_eq_false (by omega)
  have t2 : decide (32 < (S : Int)) = false := decide_eq_false (by omega)
  have HMM := Lib.hid hmm; clear hmm
  have HCK := Lib.hid hck; clear hck
  have HCL := Lib.hid hcl; clear hcl
  have S0 := Lib.hid s0; clear s0
  have B0 := Lib.hid b0; clear b0
  have B1 := Lib.hid b1; clear b1
  have HR := Lib.hid hr0; clear hr0
  clear hr hc hca hin hX
  go_enter Tryz.func15, Tryz.ntmps15
  rw [← HMM.out]
  go_wp2_with fail
  go_at_call 35
  refine (HCK.out _ HR.out).mono ?_
  rintro e w1 ⟨hq, rfl⟩
  have s1 := S0.out.trans (hq.mono S0.out.size)
  have hr1 := HR.out.below hq (Nat.le_refl _)
  have tk := B0.out.keep hq; have x0 := tk.cell (j := 0) rfl; have x1 := tk.cell (j := 1) rfl; have x2 := tk.cell (j := 2) rfl; have C0 := Lib.hid tk; clear tk
  have k1 := B1.out.keep hq
  have C1 := Lib.hid k1; clear k1
  have S1 := Lib.hid s1; clear s1
  have HR1 := Lib.hid hr1; clear hr1
  clear hq
  go_wp2_with fail
  go_at_call 42
  refine (HCL.out _ HR1.out).mono ?_
  rintro e w2 ⟨hq, rfl⟩
  have k3 := C1.out.keep hq
  have s3 := S1.out.trans (hq.mono S1.out.size)
  have g0 := k3.frozen 0
  have g1 := k3.frozen 1
  have r0 := k3.cell (j := 0) rfl
  have r1 := k3.cell (j := 1) rfl
  have r2 := (k3.set 0 (.bool (ineg X))).set 1 (.string (imag X))
  have e0 := r2.cell (j := 0) rfl
  have e1 := r2.cell (j := 1) rfl
  have S3 := Lib.hid s3; clear s3
  clear hq x0 x1 x2 k3 r2
  go_wp2_with fail
  refine bodyPost_ret (v := .tuple #[IntV X, .int .i64 0]) (by simp [results, Tryz.results15, go_sem, e0, e1, IntV]) rfl ⟨(S3.out.setCell (p := ⟨w.heap.size + 1, 0, none⟩) (show w.heap.size ≤ w.heap.size + 1 by omega) _).setCell (p := ⟨w.heap.size + 1, 1, none⟩) (show w.heap.size ≤ w.heap.size + 1 by omega) _, rfl⟩
end Go.Proofs.YthpgeeaccmgbkaaGreat


/- grooveref22.Orbits where it answers. -/
import Derived.Test.YthpgeeaccmgbkaaGreatRTot
import Derived.Test.YthpgeeaccmgbkaaGreatRNeg
import Derived.Test.YthpgeeaccmgbkaaGreatRMul
import Derived.Test.YthpgeeaccmgbkaaGreatRDiv
import Derived.Test.YthpgeeaccmgbkaaGreatPart14
namespace Go.Proofs.YthpgeeaccmgbkaaGreat
open Go.RowKit

theorem bstr_size_le {X p : Nat} (h : sm p (X : Int)) : (bstr X).size ≤ p := by
  have h1 := h.size
  have h2 : imag (X : Int) = bstr X := by
    have h3 := intv_nat X
    unfold IntV at h3
    simp at h3
    exact h3.2
  rw [h2] at h1
  exact h1
set_option maxRecDepth 100000 in
set_option maxHeartbeats 3200000 in
theorem rorbits_step (L : Int) (S n : Nat) (es : List E3) (v : Value) (P : Nat → Nat) (w : World) (hr : Row w v es.length (ce es)) (hc : chk L (S : Int) es = 0) (hS : S ≤ 32) (hn1 : 1 ≤ n) (hn : n ≤ 100)
    (hP1 : ∀ d, 0 < d → d ∣ P d) (hP2 : ∀ n, 0 < n → clN es S n = dS P n (n + 1))
    (IH : ∀ d, 1 ≤ d → d < n → ∀ w', Row w' v es.length (ce es) → Calls Tryz.prog 17 #[.agg #[.int .i64 L, .int .i64 (S : Int), v], .int .i64 (d : Int)] w' (Ret w' (.tuple #[IntV ((P d / d : Nat) : Int), .int .i64 0]))) :
    Calls Tryz.prog 17 #[.agg #[.int .i64 L, .int .i64 (S : Int), v], .int .i64 (n : Int)] w (Ret w (.tuple #[IntV ((P n / n : Nat) : Int), .int .i64 0])) := by
  obtain ⟨va, vc, rfl, hle⟩ := hr.slice
  have hca := chk_all hc
  have hin := chk_inS hc
  have s0 := ((Below.refl w.heap.size w).alloc (Nat.le_refl _) (.cells #[.int .i64 L, .int .i64 (S : Int), .slice va es.length vc] 24)).alloc (by simp) (.cells #[.bool false, .string ⟨#[]⟩] 28)
  have b0 := (Blk.new w 24 [.int .i64 L, .int .i64 (S : Int), .slice va es.length vc]).alloc (.cells #[.bool false, .string ⟨#[]⟩] 28)
  have b1 := Blk.new (w.alloc (.cells #[.int .i64 L, .int .i64 (S : Int), .slice va es.length vc] 24)) 28 [.bool false, .string ⟨#[]⟩]
  simp only [World.size_alloc] at b1
  have hr0 := hr.below s0 (Nat.le_refl _)
  have hck := fun w' h => rcheck_any L (S : Int) es (.slice va es.length vc) w' h
  simp only [hc] at hck
  have hcl := fun w' h => rclosed_any L S n es (.slice va es.length vc) w' h hS (by omega) hin (by omega)
  have hN := hP2 n (by omega)
  have hCs := clN_sm (es := es) hca.2.2.2.1 hS (Nat.le_refl n)
  have hsm := dS_sm hP2 (by omega) hS (n := n) (by omega)
  have hds := dS_succ P n
  have hlast := hds n
  rw [if_pos ⟨by omega, Nat.mod_self n⟩] at hlast
  have hmon : ∀ d, d ≤ n + 1 → 0 ≤ dS P n d := fun d _ => dS_nonneg P n d
  have hge : ∀ k d, d + k = n + 1 → dS P n d ≤ clN es S n := fun k => by
    induction k with
    | zero => intro d hd; obtain rfl : d = n + 1 := by omega
              rw [hN]; exact Int.le_refl _
    | succ k ih => intro d hd; have := ih (d + 1) (by omega); have h2 := hds d; split at h2 <;> omega
  obtain ⟨C, hC⟩ : ∃ C, C = clN es S n := ⟨_, rfl⟩
  rw [← hC] at hcl hCs hN hge
  obtain ⟨cv, hcv⟩ : ∃ cv : Nat → Int, cv = fun d => C - dS P n d := ⟨_, rfl⟩
  have hcvs : ∀ d, d ≤ n → sm (2 * n + 2) (cv d) := fun d hd => by
    have h1 := hge (n + 1 - d) d (by omega)
    have h2 := hmon d (by omega)
    rw [hcv]; unfold sm at hCs ⊢; dsimp only; omega
  have hcv1 : cv 1 = C := by rw [hcv]; simp [dS]
  have hcvn : cv n = (P n : Int) := by rw [hcv]; dsimp only; omega
  have hcvy : ∀ d, 1 ≤ d → d < n → n % d = 0 → cv d - ((P d / d : Nat) : Int) * (d : Int) = cv (d + 1) := fun d h1 h2 h3 => by
    have h4 := Nat.div_mul_cancel (hP1 d (by omega))
    have h5 := hds d
    rw [if_pos ⟨by omega, h3⟩] at h5
    rw [← Int.natCast_mul, h4, hcv]; dsimp only; omega
  have hcvN : ∀ d, 1 ≤ d → ¬ n % d = 0 → cv d = cv (d + 1) := fun d h1 h3 => by
    have h5 := hds d
    rw [if_neg (fun h => h3 h.2)] at h5
    rw [hcv]; dsimp only; omega
  have hQs : ∀ d, 1 ≤ d → d < n → n % d = 0 → sm (2 * n + 2) ((P d / d : Nat) : Int) ∧ sm (2 * n + 2) (((P d / d : Nat) : Int) * (d : Int)) := fun d h1 h2 h3 => by
    have h4 := Nat.div_mul_cancel (hP1 d (by omega))
    have h5 := hds d
    rw [if_pos ⟨by omega, h3⟩] at h5
    have h6 := hge (n - d) (d + 1) (by omega)
    have h7 := hmon d (by omega)
    have h8 : P d / d ≤ P d := Nat.div_le_self _ _
    rw [← Int.natCast_mul, h4]
    obtain ⟨q, hq⟩ : ∃ q, q = P d / d := ⟨_, rfl⟩
    rw [← hq] at h8 ⊢
    obtain ⟨p, hp⟩ : ∃ p, p = P d := ⟨_, rfl⟩
    rw [← hp] at h5 h8 ⊢
    clear hq hp h4
    unfold sm at hCs ⊢
    omega
  have hPs := hcvs n (Nat.le_refl n)
  rw [hcvn] at hPs
  have hdv := fun w' => rdiv_any (P n) n w' (Nat.le_trans (bstr_size_le hPs) (by omega)) (Nat.lt_of_le_of_lt (bstr_size_le (p := 1) (by unfold sm; omega)) (by omega)) (by omega)
  rw [← hcvn] at hdv
  have hofn := fun w' => rof_any (n : Int) w' (by omega) (by omega)
  obtain ⟨Q, hQ⟩ : ∃ Q : Int, Q = ((P n / n : Nat) : Int) := ⟨_, rfl⟩
  obtain ⟨r, hr2⟩ : ∃ r : Int, r = ((P n % n : Nat) : Int) := ⟨_, rfl⟩
  rw [← hQ] at hdv ⊢
  rw [← hr2] at hdv
  obtain ⟨mm, hmm⟩ : ∃ mm, mm = es.length := ⟨_, rfl⟩
  rw [← hmm] at s0 b0 b1 hr0 hck hcl hle IH
  have t0 : decide ((n : Int) < 1) = false := decide_eq_false (by omega)
  have t1 : decide (4096 < (n : Int)) = false := decide_eq_false (by omega)
  have t2 : decide (32 < (S : Int)) = false := decide_eq_false (by omega)
  have HMM := Lib.hid hmm; clear hmm
  have HCK := Lib.hid hck; clear hck
  have HCL := Lib.hid hcl; clear hcl
  have S0 := Lib.hid s0; clear s0
  have B0 := Lib.hid b0; clear b0
  have B1 := Lib.hid b1; clear b1
  have HR := Lib.hid hr0; clear hr0
  have HCVS := Lib.hid hcvs; clear hcvs
  have HCV1 := Lib.hid hcv1; clear hcv1
  have HCVY := Lib.hid hcvy; clear hcvy
  have HCVN := Lib.hid hcvN; clear hcvN
  have HQS := Lib.hid hQs; clear hQs
  have HDV := Lib.hid hdv; clear hdv
  have HOFN := Lib.hid hofn; clear hofn
  have IHH := Lib.hid IH; clear IH
  clear hr hc hca hin hP1 hP2 hN hCs hsm hds hlast hmon hge hC hcv hcvn hPs hQ hr2
  go_enter Tryz.func17, Tryz.ntmps17
  rw [← HMM.out]
  go_wp2_with fail
  go_at_call 35
  refine (HCK.out _ HR.out).mono ?_
  rintro e w1 ⟨hq, rfl⟩
  have s1 := S0.out.trans (hq.mono S0.out.size)
  have hr1 := HR.out.below hq (Nat.le_refl _)
  have tk := B0.out.keep hq; have x0 := tk.cell (j := 0) rfl; have x1 := tk.cell (j := 1) rfl; have x2 := tk.cell (j := 2) rfl; have C0 := Lib.hid tk; clear tk
  have k1 := B1.out.keep hq
  have C1 := Lib.hid k1; clear k1
  have S1 := Lib.hid s1; clear s1
  have HR1 := Lib.hid hr1; clear hr1
  clear hq
  go_wp2_with fail
  go_at_call 42
  refine (HCL.out _ HR1.out).mono ?_
  rintro e w2 ⟨hq, rfl⟩
  have k2 := C1.out.keep hq
  have hlw := k2.lt
  have d2 := C0.out.keep hq
  have s2 := S1.out.trans (hq.mono S1.out.size)
  have hr2 := HR1.out.below hq (Nat.le_refl _)
  have bA := Blk.new w2 28 [.bool false, .string ⟨#[]⟩]
  have sW0 := (Below.refl w2.heap.size w2).alloc (Nat.le_refl _) (.cells #[.bool false, .string ⟨#[]⟩] 28)
  obtain ⟨W0, hW0⟩ : ∃ W0, w2.alloc (.cells #[.bool false, .string ⟨#[]⟩] 28) = W0 := ⟨_, rfl⟩
  rw [hW0] at bA sW0
  have y0 := bA.cell (j := 0) rfl
  have y1 := bA.cell (j := 1) rfl
  have y2 := bA.frozen 0
  have y3 := bA.frozen 1
  have bA2 := (bA.set 0 (.bool (ineg C))).set 1 (.string (imag C))
  have sW := (sW0.setCell (p := ⟨w2.heap.size, 0, none⟩) (Nat.le_refl _) (.bool (ineg C))).setCell (p := ⟨w2.heap.size, 1, none⟩) (Nat.le_refl _) (.string (imag C))
  clear x0 x1 x2 hq bA sW0
  have K2 := Lib.hid k2; clear k2
  have D2 := Lib.hid d2; clear d2
  have S2 := Lib.hid s2; clear s2
  have HR2 := Lib.hid hr2; clear hr2
  have BA := Lib.hid bA2; clear bA2
  have SW := Lib.hid sW; clear sW
  go_wp2_with fail
  clear hW0 y0 y1 y2 y3
  go_loopw [7] (fun i wr => ∃ d : Nat, 1 ≤ d ∧ d ≤ n ∧ i = .int .i64 (d : Int) ∧ Below w2.heap.size w2 wr ∧ Blk wr w2.heap.size 28 [.bool (ineg (cv d)), .string (imag (cv d))]) (fun i _ => n - (intOf i).toNat)
  case atStart => exact ⟨1, Nat.le_refl _, by omega, rfl, SW.out, by rw [HCV1.out]; exact BA.out⟩
  case round =>
    obtain ⟨d, hd1, hdn, rfl, hbel, hblk⟩ := hrel
    obtain ⟨wo, rfl⟩ : ∃ wo : World, wo = wr := ⟨_, rfl⟩
    have hszo := hbel.size
    have hbl := hblk.lt
    by_cases hdl : d < n
    · have tj : decide ((d : Int) < (n : Int)) = true := by simp; omega
      have hdn0 : ¬ (d : Int) = 0 := by omega
      obtain ⟨z, hz⟩ : ∃ z, z = n % d := ⟨_, rfl⟩
      have htm : Int.tmod (n : Int) (d : Int) = (z : Int) := by rw [Int.tmod_eq_emod_of_nonneg (by omega), ← Int.natCast_emod, ← hz]
      by_cases hz0 : z = 0
      · subst hz0
        have hst := HCVY.out d hd1 hdl hz.symm
        obtain ⟨hXs, hYs⟩ := HQS.out d hd1 hdl hz.symm
        have hO := IHH.out d hd1 hdl
        have hMs := HCVS.out d (by omega)
        obtain ⟨X, hX⟩ : ∃ X : Int, X = ((P d / d : Nat) : Int) := ⟨_, rfl⟩
        rw [← hX] at hst hXs hYs hO
        obtain ⟨M, hM⟩ : ∃ M, M = cv d := ⟨_, rfl⟩
        rw [← hM] at hst hMs hblk
        have hsdd : sm 1 (d : Int) := by unfold sm; omega
        have hmul := fun w' => rmul_any X (d : Int) w' (Nat.le_trans hXs.size (by omega)) (Nat.le_trans hsdd.size (by omega))
        have hofd := fun w' => rof_any (d : Int) w' (by omega) (by omega)
        have hsub := fun w' => rsub_any M (X * (d : Int)) w' (Nat.le_trans hMs.size (by omega)) (Nat.le_trans hYs.size (by omega))
        obtain ⟨Y, hY⟩ : ∃ Y, Y = X * (d : Int) := ⟨_, rfl⟩
        rw [← hY] at hst hmul hsub
        have e0 := D2.out.below hbel (by have := D2.out.lt; omega)
        have x0 := e0.cell (j := 0) rfl
        have x1 := e0.cell (j := 1) rfl
        have x2 := e0.cell (j := 2) rfl
        have hro := HR2.out.below hbel (Nat.le_refl _)
        have HST := Lib.hid hst; clear hst
        have HMUL := Lib.hid hmul; clear hmul
        have HOFD := Lib.hid hofd; clear hofd
        have HSUB := Lib.hid hsub; clear hsub
        have HO := Lib.hid hO; clear hO
        have HRO := Lib.hid hro; clear hro
        have HB := Lib.hid hblk; clear hblk
        have HBEL := Lib.hid hbel; clear hbel
        clear hM hMs hXs hYs hX hsdd hY hz e0
        go_wp2_with fail
        go_at_call 17
        refine (HO.out _ HRO.out).mono ?_
        rintro e w4 ⟨hq, rfl⟩
        have bX := Blk.new w4 28 [.bool false, .string ⟨#[]⟩]
        have sX0 := hq.alloc hq.size (.cells #[.bool false, .string ⟨#[]⟩] 28)
        have hq4 := hq.size
        obtain ⟨V0, hV0⟩ : ∃ V0, w4.alloc (.cells #[.bool false, .string ⟨#[]⟩] 28) = V0 := ⟨_, rfl⟩
        rw [hV0] at bX sX0
        have u0 := bX.cell (j := 0) rfl
        have u1 := bX.cell (j := 1) rfl
        have u2 := bX.frozen 0
        have u3 := bX.frozen 1
        have bX2 := (bX.set 0 (.bool (ineg X))).set 1 (.string (imag X))
        have sX := (sX0.setCell (p := ⟨w4.heap.size, 0, none⟩) hq.size (.bool (ineg X))).setCell (p := ⟨w4.heap.size, 1, none⟩) hq.size (.string (imag X))
        clear hq sX0 bX x0 x1 x2
        go_wp2_with fail
        clear hV0 u0 u1 u2 u3
        obtain ⟨V, hV⟩ : ∃ V, (V0.setCell ⟨w4.heap.size, 0, none⟩ (.bool (ineg X))).setCell ⟨w4.heap.size, 1, none⟩ (.string (imag X)) = V := ⟨_, rfl⟩
        rw [hV] at bX2 sX
        (try rw [hV])
        obtain ⟨bx, hbx⟩ : ∃ bx, bx = w4.heap.size := ⟨_, rfl⟩
        rw [← hbx] at bX2 hV hq4
        (try rw [← hbx])
        have hxl := bX2.lt
        have c2 := HB.out.keep sX
        have cN0 := c2.cell (j := 0) rfl
        have cN1 := c2.cell (j := 1) rfl
        have fr0 := c2.frozen 0
        have fr1 := c2.frozen 1
        have y0 := bX2.cell (j := 0) rfl
        have y1 := bX2.cell (j := 1) rfl
        have sw := (Below.refl V.heap.size V).drew
        have nb := c2.drew
        have SX := Lib.hid sX; clear sX
        clear c2 bX2 hbx hV
        have hne1 : ¬ w2.heap.size = bx := by omega
        have hne2 : ¬ bx = w2.heap.size := by omega
        refine wp_region_held_drew (S := fun w' => w'.cell? ⟨bx, 0, none⟩ = some (.bool (ineg X)) ∧ w'.cell? ⟨bx, 1, none⟩ = some (.string (imag X))) (by kernel_rfl) ?_ (fun hHeld => ?_)
        · go_keep
        refine wpAnyH_take (i := 1) (v := ?_) rfl (by kernel_rfl) (by kernel_rfl) (by kernel_rfl) (fun _ _ _ h => h) (Or.inl ⟨by rfl, ?_⟩) (by assumption) ?_
        rotate_left
        · (intro wS hSw; (try dsimp only at hSw); go_simp; (try with_reducible rfl))
        (try simp only [Act.put, List.setIfInBounds_toArray, List.set_cons_zero, List.set_cons_succ])
        refine wpAnyH_take (i := 2) (v := ?_) rfl (by kernel_rfl) (by kernel_rfl) (by kernel_rfl) (fun _ _ _ h => h) (Or.inl ⟨by rfl, ?_⟩) (by assumption) ?_
        rotate_left
        · (intro wS hSw; (try dsimp only at hSw); go_simp; (try with_reducible rfl))
        (try simp only [Act.put, List.setIfInBounds_toArray, List.set_cons_zero, List.set_cons_succ])
        refine wpAnyH_ready (rs := [0, 3]) (by kernel_rfl) (by simp) ?_
        refine AllReadyH.cons rfl (fun K hK => ?_) (AllReadyH.cons rfl (fun K hK => ?_) (AllReadyH.nil))
        · go_simp
          refine hK.out _ _ ?_ (fun hH1 => ?_)
          · ((try dsimp only); go_keep)
          clear hK K
          (try simp only [Act.put, List.setIfInBounds_toArray, List.set_cons_zero, List.set_cons_succ])
          refine wpAnyH_ready (rs := [3]) (by kernel_rfl) (by simp) ?_
          refine AllReadyH.cons rfl (fun K hK => ?_) AllReadyH.nil
          go_simp
          go_at_call 49
          refine (HOFD.out _).mono ?_
          rintro e' wa2 ⟨hq, rfl⟩
          dsimp only
          have z0 := (hq.cell (p := ⟨bx, 0, none⟩) (show bx < V.heap.size by omega)).trans hH1.1
          have z1 := (hq.cell (p := ⟨bx, 1, none⟩) (show bx < V.heap.size by omega)).trans hH1.2
          refine hK.out _ _ ⟨z0, z1⟩ (fun hH3 => ?_)
          clear hK K z0  z1
          (try simp only [Act.put, List.setIfInBounds_toArray, List.set_cons_zero, List.set_cons_succ])
          have sa4 : Below V.heap.size V wa2 := sw.trans (hq.mono sw.size)
          have na5 := Blk.keep (w := V.drew) nb hq
          clear hq
          have hlwa2 : V.heap.size ≤ wa2.heap.size := sa4.size
          clear cN0 cN1
          have cN0 := na5.cell (j := 0) rfl
          have cN1 := na5.cell (j := 1) rfl
          have fr0 := na5.frozen 0
          have fr1 := na5.frozen 1
          refine wpAnyH_ready (rs := [4]) (by kernel_rfl) (by simp) ?_
          refine AllReadyH.cons rfl (fun K hK => ?_) AllReadyH.nil
          go_simp
          go_at_call 48
          refine (HMUL.out _).mono ?_
          rintro e' wa6 ⟨hq, rfl⟩
          dsimp only
          have z0 := (hq.cell (p := ⟨bx, 0, none⟩) (show bx < wa2.heap.size by omega)).trans hH3.1
          have z1 := (hq.cell (p := ⟨bx, 1, none⟩) (show bx < wa2.heap.size by omega)).trans hH3.2
          refine hK.out _ _ ⟨z0, z1⟩ (fun hH7 => ?_)
          clear hK K z0  z1
          (try simp only [Act.put, List.setIfInBounds_toArray, List.set_cons_zero, List.set_cons_succ])
          have sa8 : Below V.heap.size V wa6 := sa4.trans (hq.mono sa4.size)
          have na9 := Blk.keep (w := wa2) na5 hq
          clear hq
          have hlwa6 : V.heap.size ≤ wa6.heap.size := sa8.size
          clear cN0 cN1
          have cN0 := na9.cell (j := 0) rfl
          have cN1 := na9.cell (j := 1) rfl
          have fr0 := na9.frozen 0
          have fr1 := na9.frozen 1
          refine wpAnyH_ready (rs := [5]) (by kernel_rfl) (by simp) ?_
          refine AllReadyH.cons rfl (fun K hK => ?_) AllReadyH.nil
          go_simp
          go_at_call 47
          refine (HSUB.out _).mono ?_
          rintro e' wa10 ⟨hq, rfl⟩
          dsimp only
          have z0 := (hq.cell (p := ⟨bx, 0, none⟩) (show bx < wa6.heap.size by omega)).trans hH7.1
          have z1 := (hq.cell (p := ⟨bx, 1, none⟩) (show bx < wa6.heap.size by omega)).trans hH7.2
          refine hK.out _ _ ⟨z0, z1⟩ (fun hH11 => ?_)
          clear hK K z0  z1
          (try simp only [Act.put, List.setIfInBounds_toArray, List.set_cons_zero, List.set_cons_succ])
          have sa12 : Below V.heap.size V wa10 := sa8.trans (hq.mono sa8.size)
          have na13 := Blk.keep (w := wa6) na9 hq
          clear hq
          have hlwa10 : V.heap.size ≤ wa10.heap.size := sa12.size
          clear cN0 cN1
          have cN0 := na13.cell (j := 0) rfl
          have cN1 := na13.cell (j := 1) rfl
          have fr0 := na13.frozen 0
          have fr1 := na13.frozen 1
          refine wpAnyH_ready (rs := [6]) (by kernel_rfl) (by simp) ?_
          refine AllReadyH.cons rfl (fun K hK => ?_) AllReadyH.nil
          go_simp
          refine hK.out _ _ ?_ (fun hH14 => ?_)
          · ((try dsimp only); go_keep)
          clear hK K
          (try simp only [Act.put, List.setIfInBounds_toArray, List.set_cons_zero, List.set_cons_succ])
          have hfin := HBEL.out.trans ((SX.out.trans (sa12.mono SX.out.size)).mono HBEL.out.size)
          have nfin := (na13.set 0 (.bool (ineg (M - Y)))).set 1 (.string (imag (M - Y)))
          have HFIN := Lib.hid hfin; clear hfin
          have NFIN := Lib.hid nfin; clear nfin
          refine wpAnyH_done (by kernel_rfl) ?_ _
          (try simp only [List.getElem_toArray, List.getElem_cons_zero, List.getElem_cons_succ, Act.put, List.setIfInBounds_toArray, List.set_cons_zero, List.set_cons_succ])
          go_wp2_with fail
          go_roundw
          case rel => exact ⟨d + 1, by omega, by omega, by go_num, (HFIN.out.setCell (p := ⟨w2.heap.size, 0, none⟩) (Nat.le_refl _) _).setCell (p := ⟨w2.heap.size, 1, none⟩) (Nat.le_refl _) _, by rw [← HST.out]; exact NFIN.out⟩
          case measure => simp [intOf]; omega
        · go_simp
          go_at_call 49
          refine (HOFD.out _).mono ?_
          rintro e' wa15 ⟨hq, rfl⟩
          dsimp only
          have z0 := (hq.cell (p := ⟨bx, 0, none⟩) (show bx < V.heap.size by omega)).trans hHeld.1
          have z1 := (hq.cell (p := ⟨bx, 1, none⟩) (show bx < V.heap.size by omega)).trans hHeld.2
          refine hK.out _ _ ⟨z0, z1⟩ (fun hH16 => ?_)
          clear hK K z0  z1
          (try simp only [Act.put, List.setIfInBounds_toArray, List.set_cons_zero, List.set_cons_succ])
          have sa17 : Below V.heap.size V wa15 := sw.trans (hq.mono sw.size)
          have na18 := Blk.keep (w := V.drew) nb hq
          clear hq
          have hlwa15 : V.heap.size ≤ wa15.heap.size := sa17.size
          clear cN0 cN1
          have cN0 := na18.cell (j := 0) rfl
          have cN1 := na18.cell (j := 1) rfl
          have fr0 := na18.frozen 0
          have fr1 := na18.frozen 1
          refine wpAnyH_ready (rs := [0, 4]) (by kernel_rfl) (by simp) ?_
          refine AllReadyH.cons rfl (fun K hK => ?_) (AllReadyH.cons rfl (fun K hK => ?_) (AllReadyH.nil))
          · go_simp
            refine hK.out _ _ ?_ (fun hH19 => ?_)
            · ((try dsimp only); go_keep)
            clear hK K
            (try simp only [Act.put, List.setIfInBounds_toArray, List.set_cons_zero, List.set_cons_succ])
            refine wpAnyH_ready (rs := [4]) (by kernel_rfl) (by simp) ?_
            refine AllReadyH.cons rfl (fun K hK => ?_) AllReadyH.nil
            go_simp
            go_at_call 48
            refine (HMUL.out _).mono ?_
            rintro e' wa20 ⟨hq, rfl⟩
            dsimp only
            have z0 := (hq.cell (p := ⟨bx, 0, none⟩) (show bx < wa15.heap.size by omega)).trans hH19.1
            have z1 := (hq.cell (p := ⟨bx, 1, none⟩) (show bx < wa15.heap.size by omega)).trans hH19.2
            refine hK.out _ _ ⟨z0, z1⟩ (fun hH21 => ?_)
            clear hK K z0  z1
            (try simp only [Act.put, List.setIfInBounds_toArray, List.set_cons_zero, List.set_cons_succ])
            have sa22 : Below V.heap.size V wa20 := sa17.trans (hq.mono sa17.size)
            have na23 := Blk.keep (w := wa15) na18 hq
            clear hq
            have hlwa20 : V.heap.size ≤ wa20.heap.size := sa22.size
            clear cN0 cN1
            have cN0 := na23.cell (j := 0) rfl
            have cN1 := na23.cell (j := 1) rfl
            have fr0 := na23.frozen 0
            have fr1 := na23.frozen 1
            refine wpAnyH_ready (rs := [5]) (by kernel_rfl) (by simp) ?_
            refine AllReadyH.cons rfl (fun K hK => ?_) AllReadyH.nil
            go_simp
            go_at_call 47
            refine (HSUB.out _).mono ?_
            rintro e' wa24 ⟨hq, rfl⟩
            dsimp only
            have z0 := (hq.cell (p := ⟨bx, 0, none⟩) (show bx < wa20.heap.size by omega)).trans hH21.1
            have z1 := (hq.cell (p := ⟨bx, 1, none⟩) (show bx < wa20.heap.size by omega)).trans hH21.2
            refine hK.out _ _ ⟨z0, z1⟩ (fun hH25 => ?_)
            clear hK K z0  z1
            (try simp only [Act.put, List.setIfInBounds_toArray, List.set_cons_zero, List.set_cons_succ])
            have sa26 : Below V.heap.size V wa24 := sa22.trans (hq.mono sa22.size)
            have na27 := Blk.keep (w := wa20) na23 hq
            clear hq
            have hlwa24 : V.heap.size ≤ wa24.heap.size := sa26.size
            clear cN0 cN1
            have cN0 := na27.cell (j := 0) rfl
            have cN1 := na27.cell (j := 1) rfl
            have fr0 := na27.frozen 0
            have fr1 := na27.frozen 1
            refine wpAnyH_ready (rs := [6]) (by kernel_rfl) (by simp) ?_
            refine AllReadyH.cons rfl (fun K hK => ?_) AllReadyH.nil
            go_simp
            refine hK.out _ _ ?_ (fun hH28 => ?_)
            · ((try dsimp only); go_keep)
            clear hK K
            (try simp only [Act.put, List.setIfInBounds_toArray, List.set_cons_zero, List.set_cons_succ])
            have hfin := HBEL.out.trans ((SX.out.trans (sa26.mono SX.out.size)).mono HBEL.out.size)
            have nfin := (na27.set 0 (.bool (ineg (M - Y)))).set 1 (.string (imag (M - Y)))
            have HFIN := Lib.hid hfin; clear hfin
            have NFIN := Lib.hid nfin; clear nfin
            refine wpAnyH_done (by kernel_rfl) ?_ _
            (try simp only [List.getElem_toArray, List.getElem_cons_zero, List.getElem_cons_succ, Act.put, List.setIfInBounds_toArray, List.set_cons_zero, List.set_cons_succ])
            go_wp2_with fail
            go_roundw
            case rel => exact ⟨d + 1, by omega, by omega, by go_num, (HFIN.out.setCell (p := ⟨w2.heap.size, 0, none⟩) (Nat.le_refl _) _).setCell (p := ⟨w2.heap.size, 1, none⟩) (Nat.le_refl _) _, by rw [← HST.out]; exact NFIN.out⟩
            case measure => simp [intOf]; omega
          · go_simp
            go_at_call 48
            refine (HMUL.out _).mono ?_
            rintro e' wa29 ⟨hq, rfl⟩
            dsimp only
            have z0 := (hq.cell (p := ⟨bx, 0, none⟩) (show bx < wa15.heap.size by omega)).trans hH16.1
            have z1 := (hq.cell (p := ⟨bx, 1, none⟩) (show bx < wa15.heap.size by omega)).trans hH16.2
            refine hK.out _ _ ⟨z0, z1⟩ (fun hH30 => ?_)
            clear hK K z0  z1
            (try simp only [Act.put, List.setIfInBounds_toArray, List.set_cons_zero, List.set_cons_succ])
            have sa31 : Below V.heap.size V wa29 := sa17.trans (hq.mono sa17.size)
            have na32 := Blk.keep (w := wa15) na18 hq
            clear hq
            have hlwa29 : V.heap.size ≤ wa29.heap.size := sa31.size
            clear cN0 cN1
            have cN0 := na32.cell (j := 0) rfl
            have cN1 := na32.cell (j := 1) rfl
            have fr0 := na32.frozen 0
            have fr1 := na32.frozen 1
            refine wpAnyH_ready (rs := [0]) (by kernel_rfl) (by simp) ?_
            refine AllReadyH.cons rfl (fun K hK => ?_) AllReadyH.nil
            go_simp
            refine hK.out _ _ ?_ (fun hH33 => ?_)
            · ((try dsimp only); go_keep)
            clear hK K
            (try simp only [Act.put, List.setIfInBounds_toArray, List.set_cons_zero, List.set_cons_succ])
            refine wpAnyH_ready (rs := [5]) (by kernel_rfl) (by simp) ?_
            refine AllReadyH.cons rfl (fun K hK => ?_) AllReadyH.nil
            go_simp
            go_at_call 47
            refine (HSUB.out _).mono ?_
            rintro e' wa34 ⟨hq, rfl⟩
            dsimp only
            have z0 := (hq.cell (p := ⟨bx, 0, none⟩) (show bx < wa29.heap.size by omega)).trans hH33.1
            have z1 := (hq.cell (p := ⟨bx, 1, none⟩) (show bx < wa29.heap.size by omega)).trans hH33.2
            refine hK.out _ _ ⟨z0, z1⟩ (fun hH35 => ?_)
            clear hK K z0  z1
            (try simp only [Act.put, List.setIfInBounds_toArray, List.set_cons_zero, List.set_cons_succ])
            have sa36 : Below V.heap.size V wa34 := sa31.trans (hq.mono sa31.size)
            have na37 := Blk.keep (w := wa29) na32 hq
            clear hq
            have hlwa34 : V.heap.size ≤ wa34.heap.size := sa36.size
            clear cN0 cN1
            have cN0 := na37.cell (j := 0) rfl
            have cN1 := na37.cell (j := 1) rfl
            have fr0 := na37.frozen 0
            have fr1 := na37.frozen 1
            refine wpAnyH_ready (rs := [6]) (by kernel_rfl) (by simp) ?_
            refine AllReadyH.cons rfl (fun K hK => ?_) AllReadyH.nil
            go_simp
            refine hK.out _ _ ?_ (fun hH38 => ?_)
            · ((try dsimp only); go_keep)
            clear hK K
            (try simp only [Act.put, List.setIfInBounds_toArray, List.set_cons_zero, List.set_cons_succ])
            have hfin := HBEL.out.trans ((SX.out.trans (sa36.mono SX.out.size)).mono HBEL.out.size)
            have nfin := (na37.set 0 (.bool (ineg (M - Y)))).set 1 (.string (imag (M - Y)))
            have HFIN := Lib.hid hfin; clear hfin
            have NFIN := Lib.hid nfin; clear nfin
            refine wpAnyH_done (by kernel_rfl) ?_ _
            (try simp only [List.getElem_toArray, List.getElem_cons_zero, List.getElem_cons_succ, Act.put, List.setIfInBounds_toArray, List.set_cons_zero, List.set_cons_succ])
            go_wp2_with fail
            go_roundw
            case rel => exact ⟨d + 1, by omega, by omega, by go_num, (HFIN.out.setCell (p := ⟨w2.heap.size, 0, none⟩) (Nat.le_refl _) _).setCell (p := ⟨w2.heap.size, 1, none⟩) (Nat.le_refl _) _, by rw [← HST.out]; exact NFIN.out⟩
            case measure => simp [intOf]; omega
      · have tz : ((z : Int) == 0) = false := by simp [hz0]
        have hst := HCVN.out d hd1 (by omega)
        rw [hst] at hblk
        have HBEL := Lib.hid hbel; clear hbel
        have HB := Lib.hid hblk; clear hblk
        clear hst hz
        go_wp2_with fail
        go_roundw
        case rel => exact ⟨d + 1, by omega, by omega, by go_num, HBEL.out, HB.out⟩
        case measure => simp [intOf]; omega
    · have hdn2 : d = n := by omega
      have tj : decide ((d : Int) < (n : Int)) = false := by simp; omega
      rw [hdn2] at hblk
      obtain ⟨Z, hZ⟩ : ∃ Z, Z = cv n := ⟨_, rfl⟩
      have hDV := HDV.out
      rw [← hZ] at hblk hDV
      have c0 := hblk.cell (j := 0) rfl
      have c1 := hblk.cell (j := 1) rfl
      have hK2 := K2.out.below hbel (by omega)
      have sfin0 := S2.out.trans (hbel.mono S2.out.size)
      obtain ⟨tb, htb⟩ : ∃ tb, tb = w2.heap.size := ⟨_, rfl⟩
      rw [← htb] at c0 c1 hbl
      have hbl1 : w.heap.size + 1 < wo.heap.size := by omega
      have HDVN := Lib.hid hDV; clear hDV
      have I3 := Lib.hid hK2; clear hK2
      have I4 := Lib.hid sfin0; clear sfin0
      clear hblk hbel hdn2 hZ
      go_wp2_with fail
      (try rw [← htb])
      clear htb
      refine wp_region_held_drew (S := fun w' => w'.cell? ⟨tb, 0, none⟩ = some (.bool (ineg Z)) ∧ w'.cell? ⟨tb, 1, none⟩ = some (.string (imag Z))) (by kernel_rfl) ?_ (fun hHeld => ?_)
      · go_keep
      refine wpAnyH_take (i := 0) (v := ?_) rfl (by kernel_rfl) (by kernel_rfl) (by kernel_rfl) (fun _ _ _ h => h) (Or.inl ⟨by rfl, ?_⟩) (by assumption) ?_
      rotate_left
      · (intro wS hSw; (try dsimp only at hSw); go_simp; (try with_reducible rfl))
      (try simp only [Act.put, List.setIfInBounds_toArray, List.set_cons_zero, List.set_cons_succ])
      refine wpAnyH_take (i := 1) (v := ?_) rfl (by kernel_rfl) (by kernel_rfl) (by kernel_rfl) (fun _ _ _ h => h) (Or.inl ⟨by rfl, ?_⟩) (by assumption) ?_
      rotate_left
      · (intro wS hSw; (try dsimp only at hSw); go_simp; (try with_reducible rfl))
      (try simp only [Act.put, List.setIfInBounds_toArray, List.set_cons_zero, List.set_cons_succ])
      have sW : Below wo.heap.size wo wo.drew := (Below.refl wo.heap.size wo).drew
      refine wpAnyH_ready (rs := [2, 8, 9]) (by kernel_rfl) (by simp) ?_
      refine AllReadyH.cons rfl (fun K hK => ?_) (AllReadyH.cons rfl (fun K hK => ?_) (AllReadyH.cons rfl (fun K hK => ?_) (AllReadyH.nil)))
      · go_simp
        go_at_call 49
        refine (HOFN.out _).mono ?_
        rintro e' wd1 ⟨hq, rfl⟩
        dsimp only
        have z0 := (hq.cell (p := ⟨tb, 0, none⟩) (show tb < wo.heap.size by omega)).trans hHeld.1
        have z1 := (hq.cell (p := ⟨tb, 1, none⟩) (show tb < wo.heap.size by omega)).trans hHeld.2
        refine hK.out _ _ ⟨z0, z1⟩ (fun hG2 => ?_)
        clear hK K z0 z1
        (try simp only [Act.put, List.setIfInBounds_toArray, List.set_cons_zero, List.set_cons_succ])
        have sd3 : Below wo.heap.size wo wd1 := sW.trans (hq.mono sW.size)
        clear hq
        have hlwd1 : wo.heap.size ≤ wd1.heap.size := sd3.size
        refine wpAnyH_ready (rs := [3, 8, 9]) (by kernel_rfl) (by simp) ?_
        refine AllReadyH.cons rfl (fun K hK => ?_) (AllReadyH.cons rfl (fun K hK => ?_) (AllReadyH.cons rfl (fun K hK => ?_) (AllReadyH.nil)))
        · go_simp
          go_at_call 50
          refine (HDVN.out _).mono ?_
          rintro e' wd4 ⟨hq, rfl⟩
          dsimp only
          have z0 := (hq.cell (p := ⟨tb, 0, none⟩) (show tb < wd1.heap.size by omega)).trans hG2.1
          have z1 := (hq.cell (p := ⟨tb, 1, none⟩) (show tb < wd1.heap.size by omega)).trans hG2.2
          refine hK.out _ _ ⟨z0, z1⟩ (fun hG5 => ?_)
          clear hK K z0 z1
          (try simp only [Act.put, List.setIfInBounds_toArray, List.set_cons_zero, List.set_cons_succ])
          have sd6 : Below wo.heap.size wo wd4 := sd3.trans (hq.mono sd3.size)
          clear hq
          have hlwd4 : wo.heap.size ≤ wd4.heap.size := sd6.size
          refine wpAnyH_take (i := 4) (v := ?_) rfl (by kernel_rfl) (by kernel_rfl) (by kernel_rfl) (fun _ _ _ h => h) (Or.inl ⟨by rfl, ?_⟩) (by assumption) ?_
          rotate_left
          · (intro wS hSw; (try dsimp only at hSw); go_simp; (try with_reducible rfl))
          (try simp only [Act.put, List.setIfInBounds_toArray, List.set_cons_zero, List.set_cons_succ])
          refine wpAnyH_take (i := 5) (v := ?_) rfl (by kernel_rfl) (by kernel_rfl) (by kernel_rfl) (fun _ _ _ h => h) (Or.inl ⟨by rfl, ?_⟩) (by assumption) ?_
          rotate_left
          · (intro wS hSw; (try dsimp only at hSw); go_simp; (try with_reducible rfl))
          (try simp only [Act.put, List.setIfInBounds_toArray, List.set_cons_zero, List.set_cons_succ])
          refine wpAnyH_take (i := 6) (v := ?_) rfl (by kernel_rfl) (by kernel_rfl) (by kernel_rfl) (fun _ _ _ h => h) (Or.inl ⟨by rfl, ?_⟩) (by assumption) ?_
          rotate_left
          · (intro wS hSw; (try dsimp only at hSw); go_simp; (try with_reducible rfl))
          (try simp only [Act.put, List.setIfInBounds_toArray, List.set_cons_zero, List.set_cons_succ])
          refine wpAnyH_take (i := 7) (v := ?_) rfl (by kernel_rfl) (by kernel_rfl) (by kernel_rfl) (fun _ _ _ h => h) (Or.inl ⟨by rfl, ?_⟩) (by assumption) ?_
          rotate_left
          · (intro wS hSw; (try dsimp only at hSw); go_simp; (try with_reducible rfl))
          (try simp only [Act.put, List.setIfInBounds_toArray, List.set_cons_zero, List.set_cons_succ])
          refine wpAnyH_ready (rs := [8, 9]) (by kernel_rfl) (by simp) ?_
          refine AllReadyH.cons rfl (fun K hK => ?_) (AllReadyH.cons rfl (fun K hK => ?_) (AllReadyH.nil))
          · go_simp
            have ne10 : Blk (wd4.alloc (.cells #[.bool false, .string ⟨#[]⟩] 28)) wd4.heap.size 28 [.bool false, .string ⟨#[]⟩] := Blk.new wd4 _ _
            have sd9 : Below wo.heap.size wo (wd4.alloc (.cells #[.bool false, .string ⟨#[]⟩] 28)) := sd6.alloc sd6.size _
            refine hK.out _ _ ?_ (fun hG8 => ?_)
            · ((try dsimp only); go_keep)
            clear hK K
            (try simp only [Act.put, List.setIfInBounds_toArray, List.set_cons_zero, List.set_cons_succ])
            obtain ⟨wx7, hwx11⟩ : ∃ wx7, (wd4.alloc (.cells #[.bool false, .string ⟨#[]⟩] 28)) = wx7 := ⟨_, rfl⟩
            rw [hwx11] at ne10 sd9
            (try rw [hwx11])
            (try rw [hwx11] at hG8)
            obtain ⟨b8, hbx12⟩ : ∃ b8, b8 = wd4.heap.size := ⟨_, rfl⟩
            have hge13 : wo.heap.size ≤ b8 := by rw [hbx12]; exact sd6.size
            rw [← hbx12] at ne10 
            (try rw [← hbx12])
            clear hbx12 hwx11
            have hlwx7 : wo.heap.size ≤ wx7.heap.size := sd9.size
            refine wpAnyH_ready (rs := [9]) (by kernel_rfl) (by simp) ?_
            refine AllReadyH.cons rfl (fun K hK => ?_) AllReadyH.nil
            go_simp
            have ne17 : Blk (wx7.alloc (.cells #[.bool false, .string ⟨#[]⟩] 28)) wx7.heap.size 28 [.bool false, .string ⟨#[]⟩] := Blk.new wx7 _ _
            have sd16 : Below wo.heap.size wo (wx7.alloc (.cells #[.bool false, .string ⟨#[]⟩] 28)) := sd9.alloc sd9.size _
            have hlt22 : b8 < wx7.heap.size := ne10.lt
            have ne21 := Blk.alloc ne10 (.cells #[.bool false, .string ⟨#[]⟩] 28)
            refine hK.out _ _ ?_ (fun hG15 => ?_)
            · ((try dsimp only); go_keep)
            clear hK K
            (try simp only [Act.put, List.setIfInBounds_toArray, List.set_cons_zero, List.set_cons_succ])
            obtain ⟨wx14, hwx18⟩ : ∃ wx14, (wx7.alloc (.cells #[.bool false, .string ⟨#[]⟩] 28)) = wx14 := ⟨_, rfl⟩
            rw [hwx18] at ne17 sd16 ne21
            (try rw [hwx18])
            (try rw [hwx18] at hG15)
            obtain ⟨b9, hbx19⟩ : ∃ b9, b9 = wx7.heap.size := ⟨_, rfl⟩
            have hge20 : wo.heap.size ≤ b9 := by rw [hbx19]; exact sd9.size
            rw [← hbx19] at ne17 hlt22
            (try rw [← hbx19])
            clear hbx19 hwx18
            have hlwx14 : wo.heap.size ≤ wx14.heap.size := sd16.size
            have h8l := ne21.lt
            have h9l := ne17.lt
            have u0 := ne21.cell (j := 0) rfl
            have u1 := ne21.cell (j := 1) rfl
            have u2 := ne17.cell (j := 0) rfl
            have u3 := ne17.cell (j := 1) rfl
            have v0 := ne21.frozen 0
            have v1 := ne21.frozen 1
            have v2 := ne17.frozen 0
            have v3 := ne17.frozen 1
            have m0 : ¬ b8 = tb := by omega
            have m1 : ¬ b9 = tb := by omega
            have m2 : ¬ tb = b8 := by omega
            have m3 : ¬ tb = b9 := by omega
            have m4 : ¬ b8 = b9 := by omega
            have m5 : ¬ b9 = b8 := by omega
            have m6 : ¬ w.heap.size + 1 = b8 := by omega
            have m7 : ¬ w.heap.size + 1 = b9 := by omega
            have m8 : ¬ b8 = w.heap.size + 1 := by omega
            refine wpAnyH_ready (rs := [10]) (by kernel_rfl) (by simp) ?_
            refine AllReadyH.cons rfl (fun K hK => ?_) AllReadyH.nil
            go_simp
            refine hK.out _ _ ?_ (fun hT1 => ?_)
            · ((try dsimp only); go_keep)
            clear hK K
            (try simp only [Act.put, List.setIfInBounds_toArray, List.set_cons_zero, List.set_cons_succ])
            refine wpAnyH_ready (rs := [11]) (by kernel_rfl) (by simp) ?_
            refine AllReadyH.cons rfl (fun K hK => ?_) AllReadyH.nil
            go_simp
            refine hK.out _ _ ?_ (fun hT2 => ?_)
            · ((try dsimp only); go_keep)
            clear hK K
            (try simp only [Act.put, List.setIfInBounds_toArray, List.set_cons_zero, List.set_cons_succ])
            refine wpAnyH_take (i := 12) (v := ?_) rfl (by kernel_rfl) (by kernel_rfl) (by kernel_rfl) (fun _ _ _ h => h) (Or.inl ⟨by rfl, ?_⟩) (by assumption) ?_
            rotate_left
            · (intro wS hSw; (try dsimp only at hSw); go_simp; (try with_reducible rfl))
            (try simp only [Act.put, List.setIfInBounds_toArray, List.set_cons_zero, List.set_cons_succ])
            refine wpAnyH_done (by kernel_rfl) ?_ _
            (try simp only [List.getElem_toArray, List.getElem_cons_zero, List.getElem_cons_succ, Act.put, List.setIfInBounds_toArray, List.set_cons_zero, List.set_cons_succ])
            have n8s := (((ne21.set 0 (.bool (ineg Q))).set 1 (.string (imag Q))).setOther (a := ⟨b9, 0, none⟩) m5 (.bool (ineg r))).setOther (a := ⟨b9, 1, none⟩) m5 (.string (imag r))
            have sfin := (((sd16.setCell (p := ⟨b8, 0, none⟩) (show wo.heap.size ≤ b8 by omega) (.bool (ineg Q))).setCell (p := ⟨b8, 1, none⟩) (show wo.heap.size ≤ b8 by omega) (.string (imag Q))).setCell (p := ⟨b9, 0, none⟩) (show wo.heap.size ≤ b9 by omega) (.bool (ineg r))).setCell (p := ⟨b9, 1, none⟩) (show wo.heap.size ≤ b9 by omega) (.string (imag r))
            obtain ⟨wz, hwz⟩ : ∃ wz, (((wx14.setCell ⟨b8, 0, none⟩ (.bool (ineg Q))).setCell ⟨b8, 1, none⟩ (.string (imag Q))).setCell ⟨b9, 0, none⟩ (.bool (ineg r))).setCell ⟨b9, 1, none⟩ (.string (imag r)) = wz := ⟨_, rfl⟩
            rw [hwz] at n8s sfin
            (try rw [hwz])
            clear hwz u0 u1 u2 u3 v0 v1 v2 v3
            have g0 := n8s.cell (j := 0) rfl
            have g1 := n8s.cell (j := 1) rfl
            have i3z := I3.out.keep sfin
            have k0 := i3z.frozen 0
            have k1 := i3z.frozen 1
            have k2 := i3z.cell (j := 0) rfl
            have k3 := i3z.cell (j := 1) rfl
            have hb5 := ((I4.out.trans (sfin.mono I4.out.size)).setCell (p := ⟨w.heap.size + 1, 0, none⟩) (show w.heap.size ≤ w.heap.size + 1 by omega) (.bool (ineg Q))).setCell (p := ⟨w.heap.size + 1, 1, none⟩) (show w.heap.size ≤ w.heap.size + 1 by omega) (.string (imag Q))
            have i3f := (i3z.set 0 (.bool (ineg Q))).set 1 (.string (imag Q))
            have e0 := i3f.cell (j := 0) rfl
            have e1 := i3f.cell (j := 1) rfl
            have HB5 := Lib.hid hb5; clear hb5
            clear i3z i3f n8s sfin
            go_wp2_with fail
            refine bodyPost_ret (v := .tuple #[IntV Q, .int .i64 0]) (by simp [results, Tryz.results17, go_sem, e0, e1, IntV]) rfl ⟨HB5.out, rfl⟩
          · go_simp
            have ne26 : Blk (wd4.alloc (.cells #[.bool false, .string ⟨#[]⟩] 28)) wd4.heap.size 28 [.bool false, .string ⟨#[]⟩] := Blk.new wd4 _ _
            have sd25 : Below wo.heap.size wo (wd4.alloc (.cells #[.bool false, .string ⟨#[]⟩] 28)) := sd6.alloc sd6.size _
            refine hK.out _ _ ?_ (fun hG24 => ?_)
            · ((try dsimp only); go_keep)
            clear hK K
            (try simp only [Act.put, List.setIfInBounds_toArray, List.set_cons_zero, List.set_cons_succ])
            obtain ⟨wx23, hwx27⟩ : ∃ wx23, (wd4.alloc (.cells #[.bool false, .string ⟨#[]⟩] 28)) = wx23 := ⟨_, rfl⟩
            rw [hwx27] at ne26 sd25
            (try rw [hwx27])
            (try rw [hwx27] at hG24)
            obtain ⟨b9, hbx28⟩ : ∃ b9, b9 = wd4.heap.size := ⟨_, rfl⟩
            have hge29 : wo.heap.size ≤ b9 := by rw [hbx28]; exact sd6.size
            rw [← hbx28] at ne26 
            (try rw [← hbx28])
            clear hbx28 hwx27
            have hlwx23 : wo.heap.size ≤ wx23.heap.size := sd25.size
            refine wpAnyH_ready (rs := [8]) (by kernel_rfl) (by simp) ?_
            refine AllReadyH.cons rfl (fun K hK => ?_) AllReadyH.nil
            go_simp
            have ne33 : Blk (wx23.alloc (.cells #[.bool false, .string ⟨#[]⟩] 28)) wx23.heap.size 28 [.bool false, .string ⟨#[]⟩] := Blk.new wx23 _ _
            have sd32 : Below wo.heap.size wo (wx23.alloc (.cells #[.bool false, .string ⟨#[]⟩] 28)) := sd25.alloc sd25.size _
            have hlt38 : b9 < wx23.heap.size := ne26.lt
            have ne37 := Blk.alloc ne26 (.cells #[.bool false, .string ⟨#[]⟩] 28)
            refine hK.out _ _ ?_ (fun hG31 => ?_)
            · ((try dsimp only); go_keep)
            clear hK K
            (try simp only [Act.put, List.setIfInBounds_toArray, List.set_cons_zero, List.set_cons_succ])
            obtain ⟨wx30, hwx34⟩ : ∃ wx30, (wx23.alloc (.cells #[.bool false, .string ⟨#[]⟩] 28)) = wx30 := ⟨_, rfl⟩
            rw [hwx34] at ne33 sd32 ne37
            (try rw [hwx34])
            (try rw [hwx34] at hG31)
            obtain ⟨b8, hbx35⟩ : ∃ b8, b8 = wx23.heap.size := ⟨_, rfl⟩
            have hge36 : wo.heap.size ≤ b8 := by rw [hbx35]; exact sd25.size
            rw [← hbx35] at ne33 hlt38
            (try rw [← hbx35])
            clear hbx35 hwx34
            have hlwx30 : wo.heap.size ≤ wx30.heap.size := sd32.size
            have h8l := ne33.lt
            have h9l := ne37.lt
            have u0 := ne33.cell (j := 0) rfl
            have u1 := ne33.cell (j := 1) rfl
            have u2 := ne37.cell (j := 0) rfl
            have u3 := ne37.cell (j := 1) rfl
            have v0 := ne33.frozen 0
            have v1 := ne33.frozen 1
            have v2 := ne37.frozen 0
            have v3 := ne37.frozen 1
            have m0 : ¬ b8 = tb := by omega
            have m1 : ¬ b9 = tb := by omega
            have m2 : ¬ tb = b8 := by omega
            have m3 : ¬ tb = b9 := by omega
            have m4 : ¬ b8 = b9 := by omega
            have m5 : ¬ b9 = b8 := by omega
            have m6 : ¬ w.heap.size + 1 = b8 := by omega
            have m7 : ¬ w.heap.size + 1 = b9 := by omega
            have m8 : ¬ b8 = w.heap.size + 1 := by omega
            refine wpAnyH_ready (rs := [10]) (by kernel_rfl) (by simp) ?_
            refine AllReadyH.cons rfl (fun K hK => ?_) AllReadyH.nil
            go_simp
            refine hK.out _ _ ?_ (fun hT1 => ?_)
            · ((try dsimp only); go_keep)
            clear hK K
            (try simp only [Act.put, List.setIfInBounds_toArray, List.set_cons_zero, List.set_cons_succ])
            refine wpAnyH_ready (rs := [11]) (by kernel_rfl) (by simp) ?_
            refine AllReadyH.cons rfl (fun K hK => ?_) AllReadyH.nil
            go_simp
            refine hK.out _ _ ?_ (fun hT2 => ?_)
            · ((try dsimp only); go_keep)
            clear hK K
            (try simp only [Act.put, List.setIfInBounds_toArray, List.set_cons_zero, List.set_cons_succ])
            refine wpAnyH_take (i := 12) (v := ?_) rfl (by kernel_rfl) (by kernel_rfl) (by kernel_rfl) (fun _ _ _ h => h) (Or.inl ⟨by rfl, ?_⟩) (by assumption) ?_
            rotate_left
            · (intro wS hSw; (try dsimp only at hSw); go_simp; (try with_reducible rfl))
            (try simp only [Act.put, List.setIfInBounds_toArray, List.set_cons_zero, List.set_cons_succ])
            refine wpAnyH_done (by kernel_rfl) ?_ _
            (try simp only [List.getElem_toArray, List.getElem_cons_zero, List.getElem_cons_succ, Act.put, List.setIfInBounds_toArray, List.set_cons_zero, List.set_cons_succ])
            have n8s := (((ne33.set 0 (.bool (ineg Q))).set 1 (.string (imag Q))).setOther (a := ⟨b9, 0, none⟩) m5 (.bool (ineg r))).setOther (a := ⟨b9, 1, none⟩) m5 (.string (imag r))
            have sfin := (((sd32.setCell (p := ⟨b8, 0, none⟩) (show wo.heap.size ≤ b8 by omega) (.bool (ineg Q))).setCell (p := ⟨b8, 1, none⟩) (show wo.heap.size ≤ b8 by omega) (.string (imag Q))).setCell (p := ⟨b9, 0, none⟩) (show wo.heap.size ≤ b9 by omega) (.bool (ineg r))).setCell (p := ⟨b9, 1, none⟩) (show wo.heap.size ≤ b9 by omega) (.string (imag r))
            obtain ⟨wz, hwz⟩ : ∃ wz, (((wx30.setCell ⟨b8, 0, none⟩ (.bool (ineg Q))).setCell ⟨b8, 1, none⟩ (.string (imag Q))).setCell ⟨b9, 0, none⟩ (.bool (ineg r))).setCell ⟨b9, 1, none⟩ (.string (imag r)) = wz := ⟨_, rfl⟩
            rw [hwz] at n8s sfin
            (try rw [hwz])
            clear hwz u0 u1 u2 u3 v0 v1 v2 v3
            have g0 := n8s.cell (j := 0) rfl
            have g1 := n8s.cell (j := 1) rfl
            have i3z := I3.out.keep sfin
            have k0 := i3z.frozen 0
            have k1 := i3z.frozen 1
            have k2 := i3z.cell (j := 0) rfl
            have k3 := i3z.cell (j := 1) rfl
            have hb5 := ((I4.out.trans (sfin.mono I4.out.size)).setCell (p := ⟨w.heap.size + 1, 0, none⟩) (show w.heap.size ≤ w.heap.size + 1 by omega) (.bool (ineg Q))).setCell (p := ⟨w.heap.size + 1, 1, none⟩) (show w.heap.size ≤ w.heap.size + 1 by omega) (.string (imag Q))
            have i3f := (i3z.set 0 (.bool (ineg Q))).set 1 (.string (imag Q))
            have e0 := i3f.cell (j := 0) rfl
            have e1 := i3f.cell (j := 1) rfl
            have HB5 := Lib.hid hb5; clear hb5
            clear i3z i3f n8s sfin
            go_wp2_with fail
            refine bodyPost_ret (v := .tuple #[IntV Q, .int .i64 0]) (by simp [results, Tryz.results17, go_sem, e0, e1, IntV]) rfl ⟨HB5.out, rfl⟩
        · go_simp
          have ne42 : Blk (wd1.alloc (.cells #[.bool false, .string ⟨#[]⟩] 28)) wd1.heap.size 28 [.bool false, .string ⟨#[]⟩] := Blk.new wd1 _ _
          have sd41 : Below wo.heap.size wo (wd1.alloc (.cells #[.bool false, .string ⟨#[]⟩] 28)) := sd3.alloc sd3.size _
          refine hK.out _ _ ?_ (fun hG40 => ?_)
          · ((try dsimp only); go_keep)
          clear hK K
          (try simp only [Act.put, List.setIfInBounds_toArray, List.set_cons_zero, List.set_cons_succ])
          obtain ⟨wx39, hwx43⟩ : ∃ wx39, (wd1.alloc (.cells #[.bool false, .string ⟨#[]⟩] 28)) = wx39 := ⟨_, rfl⟩
          rw [hwx43] at ne42 sd41
          (try rw [hwx43])
          (try rw [hwx43] at hG40)
          obtain ⟨b8, hbx44⟩ : ∃ b8, b8 = wd1.heap.size := ⟨_, rfl⟩
          have hge45 : wo.heap.size ≤ b8 := by rw [hbx44]; exact sd3.size
          rw [← hbx44] at ne42 
          (try rw [← hbx44])
          clear hbx44 hwx43
          have hlwx39 : wo.heap.size ≤ wx39.heap.size := sd41.size
          refine wpAnyH_ready (rs := [3, 9]) (by kernel_rfl) (by simp) ?_
          refine AllReadyH.cons rfl (fun K hK => ?_) (AllReadyH.cons rfl (fun K hK => ?_) (AllReadyH.nil))
          · go_simp
            go_at_call 50
            refine (HDVN.out _).mono ?_
            rintro e' wd46 ⟨hq, rfl⟩
            dsimp only
            have z0 := (hq.cell (p := ⟨tb, 0, none⟩) (show tb < wx39.heap.size by omega)).trans hG40.1
            have z1 := (hq.cell (p := ⟨tb, 1, none⟩) (show tb < wx39.heap.size by omega)).trans hG40.2
            refine hK.out _ _ ⟨z0, z1⟩ (fun hG47 => ?_)
            clear hK K z0 z1
            (try simp only [Act.put, List.setIfInBounds_toArray, List.set_cons_zero, List.set_cons_succ])
            have sd48 : Below wo.heap.size wo wd46 := sd41.trans (hq.mono sd41.size)
            have ne49 := Blk.keep (w := wx39) ne42 hq
            clear hq
            have hlwd46 : wo.heap.size ≤ wd46.heap.size := sd48.size
            refine wpAnyH_take (i := 4) (v := ?_) rfl (by kernel_rfl) (by kernel_rfl) (by kernel_rfl) (fun _ _ _ h => h) (Or.inl ⟨by rfl, ?_⟩) (by assumption) ?_
            rotate_left
            · (intro wS hSw; (try dsimp only at hSw); go_simp; (try with_reducible rfl))
            (try simp only [Act.put, List.setIfInBounds_toArray, List.set_cons_zero, List.set_cons_succ])
            refine wpAnyH_take (i := 5) (v := ?_) rfl (by kernel_rfl) (by kernel_rfl) (by kernel_rfl) (fun _ _ _ h => h) (Or.inl ⟨by rfl, ?_⟩) (by assumption) ?_
            rotate_left
            · (intro wS hSw; (try dsimp only at hSw); go_simp; (try with_reducible rfl))
            (try simp only [Act.put, List.setIfInBounds_toArray, List.set_cons_zero, List.set_cons_succ])
            refine wpAnyH_take (i := 6) (v := ?_) rfl (by kernel_rfl) (by kernel_rfl) (by kernel_rfl) (fun _ _ _ h => h) (Or.inl ⟨by rfl, ?_⟩) (by assumption) ?_
            rotate_left
            · (intro wS hSw; (try dsimp only at hSw); go_simp; (try with_reducible rfl))
            (try simp only [Act.put, List.setIfInBounds_toArray, List.set_cons_zero, List.set_cons_succ])
            refine wpAnyH_take (i := 7) (v := ?_) rfl (by kernel_rfl) (by kernel_rfl) (by kernel_rfl) (fun _ _ _ h => h) (Or.inl ⟨by rfl, ?_⟩) (by assumption) ?_
            rotate_left
            · (intro wS hSw; (try dsimp only at hSw); go_simp; (try with_reducible rfl))
            (try simp only [Act.put, List.setIfInBounds_toArray, List.set_cons_zero, List.set_cons_succ])
            refine wpAnyH_ready (rs := [9]) (by kernel_rfl) (by simp) ?_
            refine AllReadyH.cons rfl (fun K hK => ?_) AllReadyH.nil
            go_simp
            have ne53 : Blk (wd46.alloc (.cells #[.bool false, .string ⟨#[]⟩] 28)) wd46.heap.size 28 [.bool false, .string ⟨#[]⟩] := Blk.new wd46 _ _
            have sd52 : Below wo.heap.size wo (wd46.alloc (.cells #[.bool false, .string ⟨#[]⟩] 28)) := sd48.alloc sd48.size _
            have hlt58 : b8 < wd46.heap.size := ne49.lt
            have ne57 := Blk.alloc ne49 (.cells #[.bool false, .string ⟨#[]⟩] 28)
            refine hK.out _ _ ?_ (fun hG51 => ?_)
            · ((try dsimp only); go_keep)
            clear hK K
            (try simp only [Act.put, List.setIfInBounds_toArray, List.set_cons_zero, List.set_cons_succ])
            obtain ⟨wx50, hwx54⟩ : ∃ wx50, (wd46.alloc (.cells #[.bool false, .string ⟨#[]⟩] 28)) = wx50 := ⟨_, rfl⟩
            rw [hwx54] at ne53 sd52 ne57
            (try rw [hwx54])
            (try rw [hwx54] at hG51)
            obtain ⟨b9, hbx55⟩ : ∃ b9, b9 = wd46.heap.size := ⟨_, rfl⟩
            have hge56 : wo.heap.size ≤ b9 := by rw [hbx55]; exact sd48.size
            rw [← hbx55] at ne53 hlt58
            (try rw [← hbx55])
            clear hbx55 hwx54
            have hlwx50 : wo.heap.size ≤ wx50.heap.size := sd52.size
            have h8l := ne57.lt
            have h9l := ne53.lt
            have u0 := ne57.cell (j := 0) rfl
            have u1 := ne57.cell (j := 1) rfl
            have u2 := ne53.cell (j := 0) rfl
            have u3 := ne53.cell (j := 1) rfl
            have v0 := ne57.frozen 0
            have v1 := ne57.frozen 1
            have v2 := ne53.frozen 0
            have v3 := ne53.frozen 1
            have m0 : ¬ b8 = tb := by omega
            have m1 : ¬ b9 = tb := by omega
            have m2 : ¬ tb = b8 := by omega
            have m3 : ¬ tb = b9 := by omega
            have m4 : ¬ b8 = b9 := by omega
            have m5 : ¬ b9 = b8 := by omega
            have m6 : ¬ w.heap.size + 1 = b8 := by omega
            have m7 : ¬ w.heap.size + 1 = b9 := by omega
            have m8 : ¬ b8 = w.heap.size + 1 := by omega
            refine wpAnyH_ready (rs := [10]) (by kernel_rfl) (by simp) ?_
            refine AllReadyH.cons rfl (fun K hK => ?_) AllReadyH.nil
            go_simp
            refine hK.out _ _ ?_ (fun hT1 => ?_)
            · ((try dsimp only); go_keep)
            clear hK K
            (try simp only [Act.put, List.setIfInBounds_toArray, List.set_cons_zero, List.set_cons_succ])
            refine wpAnyH_ready (rs := [11]) (by kernel_rfl) (by simp) ?_
            refine AllReadyH.cons rfl (fun K hK => ?_) AllReadyH.nil
            go_simp
            refine hK.out _ _ ?_ (fun hT2 => ?_)
            · ((try dsimp only); go_keep)
            clear hK K
            (try simp only [Act.put, List.setIfInBounds_toArray, List.set_cons_zero, List.set_cons_succ])
            refine wpAnyH_take (i := 12) (v := ?_) rfl (by kernel_rfl) (by kernel_rfl) (by kernel_rfl) (fun _ _ _ h => h) (Or.inl ⟨by rfl, ?_⟩) (by assumption) ?_
            rotate_left
            · (intro wS hSw; (try dsimp only at hSw); go_simp; (try with_reducible rfl))
            (try simp only [Act.put, List.setIfInBounds_toArray, List.set_cons_zero, List.set_cons_succ])
            refine wpAnyH_done (by kernel_rfl) ?_ _
            (try simp only [List.getElem_toArray, List.getElem_cons_zero, List.getElem_cons_succ, Act.put, List.setIfInBounds_toArray, List.set_cons_zero, List.set_cons_succ])
            have n8s := (((ne57.set 0 (.bool (ineg Q))).set 1 (.string (imag Q))).setOther (a := ⟨b9, 0, none⟩) m5 (.bool (ineg r))).setOther (a := ⟨b9, 1, none⟩) m5 (.string (imag r))
            have sfin := (((sd52.setCell (p := ⟨b8, 0, none⟩) (show wo.heap.size ≤ b8 by omega) (.bool (ineg Q))).setCell (p := ⟨b8, 1, none⟩) (show wo.heap.size ≤ b8 by omega) (.string (imag Q))).setCell (p := ⟨b9, 0, none⟩) (show wo.heap.size ≤ b9 by omega) (.bool (ineg r))).setCell (p := ⟨b9, 1, none⟩) (show wo.heap.size ≤ b9 by omega) (.string (imag r))
            obtain ⟨wz, hwz⟩ : ∃ wz, (((wx50.setCell ⟨b8, 0, none⟩ (.bool (ineg Q))).setCell ⟨b8, 1, none⟩ (.string (imag Q))).setCell ⟨b9, 0, none⟩ (.bool (ineg r))).setCell ⟨b9, 1, none⟩ (.string (imag r)) = wz := ⟨_, rfl⟩
            rw [hwz] at n8s sfin
            (try rw [hwz])
            clear hwz u0 u1 u2 u3 v0 v1 v2 v3
            have g0 := n8s.cell (j := 0) rfl
            have g1 := n8s.cell (j := 1) rfl
            have i3z := I3.out.keep sfin
            have k0 := i3z.frozen 0
            have k1 := i3z.frozen 1
            have k2 := i3z.cell (j := 0) rfl
            have k3 := i3z.cell (j := 1) rfl
            have hb5 := ((I4.out.trans (sfin.mono I4.out.size)).setCell (p := ⟨w.heap.size + 1, 0, none⟩) (show w.heap.size ≤ w.heap.size + 1 by omega) (.bool (ineg Q))).setCell (p := ⟨w.heap.size + 1, 1, none⟩) (show w.heap.size ≤ w.heap.size + 1 by omega) (.string (imag Q))
            have i3f := (i3z.set 0 (.bool (ineg Q))).set 1 (.string (imag Q))
            have e0 := i3f.cell (j := 0) rfl
            have e1 := i3f.cell (j := 1) rfl
            have HB5 := Lib.hid hb5; clear hb5
            clear i3z i3f n8s sfin
            go_wp2_with fail
            refine bodyPost_ret (v := .tuple #[IntV Q, .int .i64 0]) (by simp [results, Tryz.results17, go_sem, e0, e1, IntV]) rfl ⟨HB5.out, rfl⟩
          · go_simp
            have ne62 : Blk (wx39.alloc (.cells #[.bool false, .string ⟨#[]⟩] 28)) wx39.heap.size 28 [.bool false, .string ⟨#[]⟩] := Blk.new wx39 _ _
            have sd61 : Below wo.heap.size wo (wx39.alloc (.cells #[.bool false, .string ⟨#[]⟩] 28)) := sd41.alloc sd41.size _
            have hlt67 : b8 < wx39.heap.size := ne42.lt
            have ne66 := Blk.alloc ne42 (.cells #[.bool false, .string ⟨#[]⟩] 28)
            refine hK.out _ _ ?_ (fun hG60 => ?_)
            · ((try dsimp only); go_keep)
            clear hK K
            (try simp only [Act.put, List.setIfInBounds_toArray, List.set_cons_zero, List.set_cons_succ])
            obtain ⟨wx59, hwx63⟩ : ∃ wx59, (wx39.alloc (.cells #[.bool false, .string ⟨#[]⟩] 28)) = wx59 := ⟨_, rfl⟩
            rw [hwx63] at ne62 sd61 ne66
            (try rw [hwx63])
            (try rw [hwx63] at hG60)
            obtain ⟨b9, hbx64⟩ : ∃ b9, b9 = wx39.heap.size := ⟨_, rfl⟩
            have hge65 : wo.heap.size ≤ b9 := by rw [hbx64]; exact sd41.size
            rw [← hbx64] at ne62 hlt67
            (try rw [← hbx64])
            clear hbx64 hwx63
            have hlwx59 : wo.heap.size ≤ wx59.heap.size := sd61.size
            refine wpAnyH_ready (rs := [3]) (by kernel_rfl) (by simp) ?_
            refine AllReadyH.cons rfl (fun K hK => ?_) AllReadyH.nil
            go_simp
            go_at_call 50
            refine (HDVN.out _).mono ?_
            rintro e' wd68 ⟨hq, rfl⟩
            dsimp only
            have z0 := (hq.cell (p := ⟨tb, 0, none⟩) (show tb < wx59.heap.size by omega)).trans hG60.1
            have z1 := (hq.cell (p := ⟨tb, 1, none⟩) (show tb < wx59.heap.size by omega)).trans hG60.2
            refine hK.out _ _ ⟨z0, z1⟩ (fun hG69 => ?_)
            clear hK K z0 z1
            (try simp only [Act.put, List.setIfInBounds_toArray, List.set_cons_zero, List.set_cons_succ])
            have sd70 : Below wo.heap.size wo wd68 := sd61.trans (hq.mono sd61.size)
            have ne71 := Blk.keep (w := wx59) ne66 hq
            have ne72 := Blk.keep (w := wx59) ne62 hq
            clear hq
            have hlwd68 : wo.heap.size ≤ wd68.heap.size := sd70.size
            refine wpAnyH_take (i := 4) (v := ?_) rfl (by kernel_rfl) (by kernel_rfl) (by kernel_rfl) (fun _ _ _ h => h) (Or.inl ⟨by rfl, ?_⟩) (by assumption) ?_
            rotate_left
            · (intro wS hSw; (try dsimp only at hSw); go_simp; (try with_reducible rfl))
            (try simp only [Act.put, List.setIfInBounds_toArray, List.set_cons_zero, List.set_cons_succ])
            refine wpAnyH_take (i := 5) (v := ?_) rfl (by kernel_rfl) (by kernel_rfl) (by kernel_rfl) (fun _ _ _ h => h) (Or.inl ⟨by rfl, ?_⟩) (by assumption) ?_
            rotate_left
            · (intro wS hSw; (try dsimp only at hSw); go_simp; (try with_reducible rfl))
            (try simp only [Act.put, List.setIfInBounds_toArray, List.set_cons_zero, List.set_cons_succ])
            refine wpAnyH_take (i := 6) (v := ?_) rfl (by kernel_rfl) (by kernel_rfl) (by kernel_rfl) (fun _ _ _ h => h) (Or.inl ⟨by rfl, ?_⟩) (by assumption) ?_
            rotate_left
            · (intro wS hSw; (try dsimp only at hSw); go_simp; (try with_reducible rfl))
            (try simp only [Act.put, List.setIfInBounds_toArray, List.set_cons_zero, List.set_cons_succ])
            refine wpAnyH_take (i := 7) (v := ?_) rfl (by kernel_rfl) (by kernel_rfl) (by kernel_rfl) (fun _ _ _ h => h) (Or.inl ⟨by rfl, ?_⟩) (by assumption) ?_
            rotate_left
            · (intro wS hSw; (try dsimp only at hSw); go_simp; (try with_reducible rfl))
            (try simp only [Act.put, List.setIfInBounds_toArray, List.set_cons_zero, List.set_cons_succ])
            have h8l := ne71.lt
            have h9l := ne72.lt
            have u0 := ne71.cell (j := 0) rfl
            have u1 := ne71.cell (j := 1) rfl
            have u2 := ne72.cell (j := 0) rfl
            have u3 := ne72.cell (j := 1) rfl
            have v0 := ne71.frozen 0
            have v1 := ne71.frozen 1
            have v2 := ne72.frozen 0
            have v3 := ne72.frozen 1
            have m0 : ¬ b8 = tb := by omega
            have m1 : ¬ b9 = tb := by omega
            have m2 : ¬ tb = b8 := by omega
            have m3 : ¬ tb = b9 := by omega
            have m4 : ¬ b8 = b9 := by omega
            have m5 : ¬ b9 = b8 := by omega
            have m6 : ¬ w.heap.size + 1 = b8 := by omega
            have m7 : ¬ w.heap.size + 1 = b9 := by omega
            have m8 : ¬ b8 = w.heap.size + 1 := by omega
            refine wpAnyH_ready (rs := [10]) (by kernel_rfl) (by simp) ?_
            refine AllReadyH.cons rfl (fun K hK => ?_) AllReadyH.nil
            go_simp
            refine hK.out _ _ ?_ (fun hT1 => ?_)
            · ((try dsimp only); go_keep)
            clear hK K
            (try simp only [Act.put, List.setIfInBounds_toArray, List.set_cons_zero, List.set_cons_succ])
            refine wpAnyH_ready (rs := [11]) (by kernel_rfl) (by simp) ?_
            refine AllReadyH.cons rfl (fun K hK => ?_) AllReadyH.nil
            go_simp
            refine hK.out _ _ ?_ (fun hT2 => ?_)
            · ((try dsimp only); go_keep)
            clear hK K
            (try simp only [Act.put, List.setIfInBounds_toArray, List.set_cons_zero, List.set_cons_succ])
            refine wpAnyH_take (i := 12) (v := ?_) rfl (by kernel_rfl) (by kernel_rfl) (by kernel_rfl) (fun _ _ _ h => h) (Or.inl ⟨by rfl, ?_⟩) (by assumption) ?_
            rotate_left
            · (intro wS hSw; (try dsimp only at hSw); go_simp; (try with_reducible rfl))
            (try simp only [Act.put, List.setIfInBounds_toArray, List.set_cons_zero, List.set_cons_succ])
            refine wpAnyH_done (by kernel_rfl) ?_ _
            (try simp only [List.getElem_toArray, List.getElem_cons_zero, List.getElem_cons_succ, Act.put, List.setIfInBounds_toArray, List.set_cons_zero, List.set_cons_succ])
            have n8s := (((ne71.set 0 (.bool (ineg Q))).set 1 (.string (imag Q))).setOther (a := ⟨b9, 0, none⟩) m5 (.bool (ineg r))).setOther (a := ⟨b9, 1, none⟩) m5 (.string (imag r))
            have sfin := (((sd70.setCell (p := ⟨b8, 0, none⟩) (show wo.heap.size ≤ b8 by omega) (.bool (ineg Q))).setCell (p := ⟨b8, 1, none⟩) (show wo.heap.size ≤ b8 by omega) (.string (imag Q))).setCell (p := ⟨b9, 0, none⟩) (show wo.heap.size ≤ b9 by omega) (.bool (ineg r))).setCell (p := ⟨b9, 1, none⟩) (show wo.heap.size ≤ b9 by omega) (.string (imag r))
            obtain ⟨wz, hwz⟩ : ∃ wz, (((wd68.setCell ⟨b8, 0, none⟩ (.bool (ineg Q))).setCell ⟨b8, 1, none⟩ (.string (imag Q))).setCell ⟨b9, 0, none⟩ (.bool (ineg r))).setCell ⟨b9, 1, none⟩ (.string (imag r)) = wz := ⟨_, rfl⟩
            rw [hwz] at n8s sfin
            (try rw [hwz])
            clear hwz u0 u1 u2 u3 v0 v1 v2 v3
            have g0 := n8s.cell (j := 0) rfl
            have g1 := n8s.cell (j := 1) rfl
            have i3z := I3.out.keep sfin
            have k0 := i3z.frozen 0
            have k1 := i3z.frozen 1
            have k2 := i3z.cell (j := 0) rfl
            have k3 := i3z.cell (j := 1) rfl
            have hb5 := ((I4.out.trans (sfin.mono I4.out.size)).setCell (p := ⟨w.heap.size + 1, 0, none⟩) (show w.heap.size ≤ w.heap.size + 1 by omega) (.bool (ineg Q))).setCell (p := ⟨w.heap.size + 1, 1, none⟩) (show w.heap.size ≤ w.heap.size + 1 by omega) (.string (imag Q))
            have i3f := (i3z.set 0 (.bool (ineg Q))).set 1 (.string (imag Q))
            have e0 := i3f.cell (j := 0) rfl
            have e1 := i3f.cell (j := 1) rfl
            have HB5 := Lib.hid hb5; clear hb5
            clear i3z i3f n8s sfin
            go_wp2_with fail
            refine bodyPost_ret (v := .tuple #[IntV Q, .int .i64 0]) (by simp [results, Tryz.results17, go_sem, e0, e1, IntV]) rfl ⟨HB5.out, rfl⟩
        · go_simp
          have ne76 : Blk (wd1.alloc (.cells #[.bool false, .string ⟨#[]⟩] 28)) wd1.heap.size 28 [.bool false, .string ⟨#[]⟩] := Blk.new wd1 _ _
          have sd75 : Below wo.heap.size wo (wd1.alloc (.cells #[.bool false, .string ⟨#[]⟩] 28)) := sd3.alloc sd3.size _
          refine hK.out _ _ ?_ (fun hG74 => ?_)
          · ((try dsimp only); go_keep)
          clear hK K
          (try simp only [Act.put, List.setIfInBounds_toArray, List.set_cons_zero, List.set_cons_succ])
          obtain ⟨wx73, hwx77⟩ : ∃ wx73, (wd1.alloc (.cells #[.bool false, .string ⟨#[]⟩] 28)) = wx73 := ⟨_, rfl⟩
          rw [hwx77] at ne76 sd75
          (try rw [hwx77])
          (try rw [hwx77] at hG74)
          obtain ⟨b9, hbx78⟩ : ∃ b9, b9 = wd1.heap.size := ⟨_, rfl⟩
          have hge79 : wo.heap.size ≤ b9 := by rw [hbx78]; exact sd3.size
          rw [← hbx78] at ne76 
          (try rw [← hbx78])
          clear hbx78 hwx77
          have hlwx73 : wo.heap.size ≤ wx73.heap.size := sd75.size
          refine wpAnyH_ready (rs := [3, 8]) (by kernel_rfl) (by simp) ?_
          refine AllReadyH.cons rfl (fun K hK => ?_) (AllReadyH.cons rfl (fun K hK => ?_) (AllReadyH.nil))
          · go_simp
            go_at_call 50
            refine (HDVN.out _).mono ?_
            rintro e' wd80 ⟨hq, rfl⟩
            dsimp only
            have z0 := (hq.cell (p := ⟨tb, 0, none⟩) (show tb < wx73.heap.size by omega)).trans hG74.1
            have z1 := (hq.cell (p := ⟨tb, 1, none⟩) (show tb < wx73.heap.size by omega)).trans hG74.2
            refine hK.out _ _ ⟨z0, z1⟩ (fun hG81 => ?_)
            clear hK K z0 z1
            (try simp only [Act.put, List.setIfInBounds_toArray, List.set_cons_zero, List.set_cons_succ])
            have sd82 : Below wo.heap.size wo wd80 := sd75.trans (hq.mono sd75.size)
            have ne83 := Blk.keep (w := wx73) ne76 hq
            clear hq
            have hlwd80 : wo.heap.size ≤ wd80.heap.size := sd82.size
            refine wpAnyH_take (i := 4) (v := ?_) rfl (by kernel_rfl) (by kernel_rfl) (by kernel_rfl) (fun _ _ _ h => h) (Or.inl ⟨by rfl, ?_⟩) (by assumption) ?_
            rotate_left
            · (intro wS hSw; (try dsimp only at hSw); go_simp; (try with_reducible rfl))
            (try simp only [Act.put, List.setIfInBounds_toArray, List.set_cons_zero, List.set_cons_succ])
            refine wpAnyH_take (i := 5) (v := ?_) rfl (by kernel_rfl) (by kernel_rfl) (by kernel_rfl) (fun _ _ _ h => h) (Or.inl ⟨by rfl, ?_⟩) (by assumption) ?_
            rotate_left
            · (intro wS hSw; (try dsimp only at hSw); go_simp; (try with_reducible rfl))
            (try simp only [Act.put, List.setIfInBounds_toArray, List.set_cons_zero, List.set_cons_succ])
            refine wpAnyH_take (i := 6) (v := ?_) rfl (by kernel_rfl) (by kernel_rfl) (by kernel_rfl) (fun _ _ _ h => h) (Or.inl ⟨by rfl, ?_⟩) (by assumption) ?_
            rotate_left
            · (intro wS hSw; (try dsimp only at hSw); go_simp; (try with_reducible rfl))
            (try simp only [Act.put, List.setIfInBounds_toArray, List.set_cons_zero, List.set_cons_succ])
            refine wpAnyH_take (i := 7) (v := ?_) rfl (by kernel_rfl) (by kernel_rfl) (by kernel_rfl) (fun _ _ _ h => h) (Or.inl ⟨by rfl, ?_⟩) (by assumption) ?_
            rotate_left
            · (intro wS hSw; (try dsimp only at hSw); go_simp; (try with_reducible rfl))
            (try simp only [Act.put, List.setIfInBounds_toArray, List.set_cons_zero, List.set_cons_succ])
            refine wpAnyH_ready (rs := [8]) (by kernel_rfl) (by simp) ?_
            refine AllReadyH.cons rfl (fun K hK => ?_) AllReadyH.nil
            go_simp
            have ne87 : Blk (wd80.alloc (.cells #[.bool false, .string ⟨#[]⟩] 28)) wd80.heap.size 28 [.bool false, .string ⟨#[]⟩] := Blk.new wd80 _ _
            have sd86 : Below wo.heap.size wo (wd80.alloc (.cells #[.bool false, .string ⟨#[]⟩] 28)) := sd82.alloc sd82.size _
            have hlt92 : b9 < wd80.heap.size := ne83.lt
            have ne91 := Blk.alloc ne83 (.cells #[.bool false, .string ⟨#[]⟩] 28)
            refine hK.out _ _ ?_ (fun hG85 => ?_)
            · ((try dsimp only); go_keep)
            clear hK K
            (try simp only [Act.put, List.setIfInBounds_toArray, List.set_cons_zero, List.set_cons_succ])
            obtain ⟨wx84, hwx88⟩ : ∃ wx84, (wd80.alloc (.cells #[.bool false, .string ⟨#[]⟩] 28)) = wx84 := ⟨_, rfl⟩
            rw [hwx88] at ne87 sd86 ne91
            (try rw [hwx88])
            (try rw [hwx88] at hG85)
            obtain ⟨b8, hbx89⟩ : ∃ b8, b8 = wd80.heap.size := ⟨_, rfl⟩
            have hge90 : wo.heap.size ≤ b8 := by rw [hbx89]; exact sd82.size
            rw [← hbx89] at ne87 hlt92
            (try rw [← hbx89])
            clear hbx89 hwx88
            have hlwx84 : wo.heap.size ≤ wx84.heap.size := sd86.size
            have h8l := ne87.lt
            have h9l := ne91.lt
            have u0 := ne87.cell (j := 0) rfl
            have u1 := ne87.cell (j := 1) rfl
            have u2 := ne91.cell (j := 0) rfl
            have u3 := ne91.cell (j := 1) rfl
            have v0 := ne87.frozen 0
            have v1 := ne87.frozen 1
            have v2 := ne91.frozen 0
            have v3 := ne91.frozen 1
            have m0 : ¬ b8 = tb := by omega
            have m1 : ¬ b9 = tb := by omega
            have m2 : ¬ tb = b8 := by omega
            have m3 : ¬ tb = b9 := by omega
            have m4 : ¬ b8 = b9 := by omega
            have m5 : ¬ b9 = b8 := by omega
            have m6 : ¬ w.heap.size + 1 = b8 := by omega
            have m7 : ¬ w.heap.size + 1 = b9 := by omega
            have m8 : ¬ b8 = w.heap.size + 1 := by omega
            refine wpAnyH_ready (rs := [10]) (by kernel_rfl) (by simp) ?_
            refine AllReadyH.cons rfl (fun K hK => ?_) AllReadyH.nil
            go_simp
            refine hK.out _ _ ?_ (fun hT1 => ?_)
            · ((try dsimp only); go_keep)
            clear hK K
            (try simp only [Act.put, List.setIfInBounds_toArray, List.set_cons_zero, List.set_cons_succ])
            refine wpAnyH_ready (rs := [11]) (by kernel_rfl) (by simp) ?_
            refine AllReadyH.cons rfl (fun K hK => ?_) AllReadyH.nil
            go_simp
            refine hK.out _ _ ?_ (fun hT2 => ?_)
            · ((try dsimp only); go_keep)
            clear hK K
            (try simp only [Act.put, List.setIfInBounds_toArray, List.set_cons_zero, List.set_cons_succ])
            refine wpAnyH_take (i := 12) (v := ?_) rfl (by kernel_rfl) (by kernel_rfl) (by kernel_rfl) (fun _ _ _ h => h) (Or.inl ⟨by rfl, ?_⟩) (by assumption) ?_
            rotate_left
            · (intro wS hSw; (try dsimp only at hSw); go_simp; (try with_reducible rfl))
            (try simp only [Act.put, List.setIfInBounds_toArray, List.set_cons_zero, List.set_cons_succ])
            refine wpAnyH_done (by kernel_rfl) ?_ _
            (try simp only [List.getElem_toArray, List.getElem_cons_zero, List.getElem_cons_succ, Act.put, List.setIfInBounds_toArray, List.set_cons_zero, List.set_cons_succ])
            have n8s := (((ne87.set 0 (.bool (ineg Q))).set 1 (.string (imag Q))).setOther (a := ⟨b9, 0, none⟩) m5 (.bool (ineg r))).setOther (a := ⟨b9, 1, none⟩) m5 (.string (imag r))
            have sfin := (((sd86.setCell (p := ⟨b8, 0, none⟩) (show wo.heap.size ≤ b8 by omega) (.bool (ineg Q))).setCell (p := ⟨b8, 1, none⟩) (show wo.heap.size ≤ b8 by omega) (.string (imag Q))).setCell (p := ⟨b9, 0, none⟩) (show wo.heap.size ≤ b9 by omega) (.bool (ineg r))).setCell (p := ⟨b9, 1, none⟩) (show wo.heap.size ≤ b9 by omega) (.string (imag r))
            obtain ⟨wz, hwz⟩ : ∃ wz, (((wx84.setCell ⟨b8, 0, none⟩ (.bool (ineg Q))).setCell ⟨b8, 1, none⟩ (.string (imag Q))).setCell ⟨b9, 0, none⟩ (.bool (ineg r))).setCell ⟨b9, 1, none⟩ (.string (imag r)) = wz := ⟨_, rfl⟩
            rw [hwz] at n8s sfin
            (try rw [hwz])
            clear hwz u0 u1 u2 u3 v0 v1 v2 v3
            have g0 := n8s.cell (j := 0) rfl
            have g1 := n8s.cell (j := 1) rfl
            have i3z := I3.out.keep sfin
            have k0 := i3z.frozen 0
            have k1 := i3z.frozen 1
            have k2 := i3z.cell (j := 0) rfl
            have k3 := i3z.cell (j := 1) rfl
            have hb5 := ((I4.out.trans (sfin.mono I4.out.size)).setCell (p := ⟨w.heap.size + 1, 0, none⟩) (show w.heap.size ≤ w.heap.size + 1 by omega) (.bool (ineg Q))).setCell (p := ⟨w.heap.size + 1, 1, none⟩) (show w.heap.size ≤ w.heap.size + 1 by omega) (.string (imag Q))
            have i3f := (i3z.set 0 (.bool (ineg Q))).set 1 (.string (imag Q))
            have e0 := i3f.cell (j := 0) rfl
            have e1 := i3f.cell (j := 1) rfl
            have HB5 := Lib.hid hb5; clear hb5
            clear i3z i3f n8s sfin
            go_wp2_with fail
            refine bodyPost_ret (v := .tuple #[IntV Q, .int .i64 0]) (by simp [results, Tryz.results17, go_sem, e0, e1, IntV]) rfl ⟨HB5.out, rfl⟩
          · go_simp
            have ne96 : Blk (wx73.alloc (.cells #[.bool false, .string ⟨#[]⟩] 28)) wx73.heap.size 28 [.bool false, .string ⟨#[]⟩] := Blk.new wx73 _ _
            have sd95 : Below wo.heap.size wo (wx73.alloc (.cells #[.bool false, .string ⟨#[]⟩] 28)) := sd75.alloc sd75.size _
            have hlt101 : b9 < wx73.heap.size := ne76.lt
            have ne100 := Blk.alloc ne76 (.cells #[.bool false, .string ⟨#[]⟩] 28)
            refine hK.out _ _ ?_ (fun hG94 => ?_)
            · ((try dsimp only); go_keep)
            clear hK K
            (try simp only [Act.put, List.setIfInBounds_toArray, List.set_cons_zero, List.set_cons_succ])
            obtain ⟨wx93, hwx97⟩ : ∃ wx93, (wx73.alloc (.cells #[.bool false, .string ⟨#[]⟩] 28)) = wx93 := ⟨_, rfl⟩
            rw [hwx97] at ne96 sd95 ne100
            (try rw [hwx97])
            (try rw [hwx97] at hG94)
            obtain ⟨b8, hbx98⟩ : ∃ b8, b8 = wx73.heap.size := ⟨_, rfl⟩
            have hge99 : wo.heap.size ≤ b8 := by rw [hbx98]; exact sd75.size
            rw [← hbx98] at ne96 hlt101
            (try rw [← hbx98])
            clear hbx98 hwx97
            have hlwx93 : wo.heap.size ≤ wx93.heap.size := sd95.size
            refine wpAnyH_ready (rs := [3]) (by kernel_rfl) (by simp) ?_
            refine AllReadyH.cons rfl (fun K hK => ?_) AllReadyH.nil
            go_simp
            go_at_call 50
            refine (HDVN.out _).mono ?_
            rintro e' wd102 ⟨hq, rfl⟩
            dsimp only
            have z0 := (hq.cell (p := ⟨tb, 0, none⟩) (show tb < wx93.heap.size by omega)).trans hG94.1
            have z1 := (hq.cell (p := ⟨tb, 1, none⟩) (show tb < wx93.heap.size by omega)).trans hG94.2
            refine hK.out _ _ ⟨z0, z1⟩ (fun hG103 => ?_)
            clear hK K z0 z1
            (try simp only [Act.put, List.setIfInBounds_toArray, List.set_cons_zero, List.set_cons_succ])
            have sd104 : Below wo.heap.size wo wd102 := sd95.trans (hq.mono sd95.size)
            have ne105 := Blk.keep (w := wx93) ne96 hq
            have ne106 := Blk.keep (w := wx93) ne100 hq
            clear hq
            have hlwd102 : wo.heap.size ≤ wd102.heap.size := sd104.size
            refine wpAnyH_take (i := 4) (v := ?_) rfl (by kernel_rfl) (by kernel_rfl) (by kernel_rfl) (fun _ _ _ h => h) (Or.inl ⟨by rfl, ?_⟩) (by assumption) ?_
            rotate_left
            · (intro wS hSw; (try dsimp only at hSw); go_simp; (try with_reducible rfl))
            (try simp only [Act.put, List.setIfInBounds_toArray, List.set_cons_zero, List.set_cons_succ])
            refine wpAnyH_take (i := 5) (v := ?_) rfl (by kernel_rfl) (by kernel_rfl) (by kernel_rfl) (fun _ _ _ h => h) (Or.inl ⟨by rfl, ?_⟩) (by assumption) ?_
            rotate_left
            · (intro wS hSw; (try dsimp only at hSw); go_simp; (try with_reducible rfl))
            (try simp only [Act.put, List.setIfInBounds_toArray, List.set_cons_zero, List.set_cons_succ])
            refine wpAnyH_take (i := 6) (v := ?_) rfl (by kernel_rfl) (by kernel_rfl) (by kernel_rfl) (fun _ _ _ h => h) (Or.inl ⟨by rfl, ?_⟩) (by assumption) ?_
            rotate_left
            · (intro wS hSw; (try dsimp only at hSw); go_simp; (try with_reducible rfl))
            (try simp only [Act.put, List.setIfInBounds_toArray, List.set_cons_zero, List.set_cons_succ])
            refine wpAnyH_take (i := 7) (v := ?_) rfl (by kernel_rfl) (by kernel_rfl) (by kernel_rfl) (fun _ _ _ h => h) (Or.inl ⟨by rfl, ?_⟩) (by assumption) ?_
            rotate_left
            · (intro wS hSw; (try dsimp only at hSw); go_simp; (try with_reducible rfl))
            (try simp only [Act.put, List.setIfInBounds_toArray, List.set_cons_zero, List.set_cons_succ])
            have h8l := ne105.lt
            have h9l := ne106.lt
            have u0 := ne105.cell (j := 0) rfl
            have u1 := ne105.cell (j := 1) rfl
            have u2 := ne106.cell (j := 0) rfl
            have u3 := ne106.cell (j := 1) rfl
            have v0 := ne105.frozen 0
            have v1 := ne105.frozen 1
            have v2 := ne106.frozen 0
            have v3 := ne106.frozen 1
            have m0 : ¬ b8 = tb := by omega
            have m1 : ¬ b9 = tb := by omega
            have m2 : ¬ tb = b8 := by omega
            have m3 : ¬ tb = b9 := by omega
            have m4 : ¬ b8 = b9 := by omega
            have m5 : ¬ b9 = b8 := by omega
            have m6 : ¬ w.heap.size + 1 = b8 := by omega
            have m7 : ¬ w.heap.size + 1 = b9 := by omega
            have m8 : ¬ b8 = w.heap.size + 1 := by omega
            refine wpAnyH_ready (rs := [10]) (by kernel_rfl) (by simp) ?_
            refine AllReadyH.cons rfl (fun K hK => ?_) AllReadyH.nil
            go_simp
            refine hK.out _ _ ?_ (fun hT1 => ?_)
            · ((try dsimp only); go_keep)
            clear hK K
            (try simp only [Act.put, List.setIfInBounds_toArray, List.set_cons_zero, List.set_cons_succ])
            refine wpAnyH_ready (rs := [11]) (by kernel_rfl) (by simp) ?_
            refine AllReadyH.cons rfl (fun K hK => ?_) AllReadyH.nil
            go_simp
            refine hK.out _ _ ?_ (fun hT2 => ?_)
            · ((try dsimp only); go_keep)
            clear hK K
            (try simp only [Act.put, List.setIfInBounds_toArray, List.set_cons_zero, List.set_cons_succ])
            refine wpAnyH_take (i := 12) (v := ?_) rfl (by kernel_rfl) (by kernel_rfl) (by kernel_rfl) (fun _ _ _ h => h) (Or.inl ⟨by rfl, ?_⟩) (by assumption) ?_
            rotate_left
            · (intro wS hSw; (try dsimp only at hSw); go_simp; (try with_reducible rfl))
            (try simp only [Act.put, List.setIfInBounds_toArray, List.set_cons_zero, List.set_cons_succ])
            refine wpAnyH_done (by kernel_rfl) ?_ _
            (try simp only [List.getElem_toArray, List.getElem_cons_zero, List.getElem_cons_succ, Act.put, List.setIfInBounds_toArray, List.set_cons_zero, List.set_cons_succ])
            have n8s := (((ne105.set 0 (.bool (ineg Q))).set 1 (.string (imag Q))).setOther (a := ⟨b9, 0, none⟩) m5 (.bool (ineg r))).setOther (a := ⟨b9, 1, none⟩) m5 (.string (imag r))
            have sfin := (((sd104.setCell (p := ⟨b8, 0, none⟩) (show wo.heap.size ≤ b8 by omega) (.bool (ineg Q))).setCell (p := ⟨b8, 1, none⟩) (show wo.heap.size ≤ b8 by omega) (.string (imag Q))).setCell (p := ⟨b9, 0, none⟩) (show wo.heap.size ≤ b9 by omega) (.bool (ineg r))).setCell (p := ⟨b9, 1, none⟩) (show wo.heap.size ≤ b9 by omega) (.string (imag r))
            obtain ⟨wz, hwz⟩ : ∃ wz, (((wd102.setCell ⟨b8, 0, none⟩ (.bool (ineg Q))).setCell ⟨b8, 1, none⟩ (.string (imag Q))).setCell ⟨b9, 0, none⟩ (.bool (ineg r))).setCell ⟨b9, 1, none⟩ (.string (imag r)) = wz := ⟨_, rfl⟩
            rw [hwz] at n8s sfin
            (try rw [hwz])
            clear hwz u0 u1 u2 u3 v0 v1 v2 v3
            have g0 := n8s.cell (j := 0) rfl
            have g1 := n8s.cell (j := 1) rfl
            have i3z := I3.out.keep sfin
            have k0 := i3z.frozen 0
            have k1 := i3z.frozen 1
            have k2 := i3z.cell (j := 0) rfl
            have k3 := i3z.cell (j := 1) rfl
            have hb5 := ((I4.out.trans (sfin.mono I4.out.size)).setCell (p := ⟨w.heap.size + 1, 0, none⟩) (show w.heap.size ≤ w.heap.size + 1 by omega) (.bool (ineg Q))).setCell (p := ⟨w.heap.size + 1, 1, none⟩) (show w.heap.size ≤ w.heap.size + 1 by omega) (.string (imag Q))
            have i3f := (i3z.set 0 (.bool (ineg Q))).set 1 (.string (imag Q))
            have e0 := i3f.cell (j := 0) rfl
            have e1 := i3f.cell (j := 1) rfl
            have HB5 := Lib.hid hb5; clear hb5
            clear i3z i3f n8s sfin
            go_wp2_with fail
            refine bodyPost_ret (v := .tuple #[IntV Q, .int .i64 0]) (by simp [results, Tryz.results17, go_sem, e0, e1, IntV]) rfl ⟨HB5.out, rfl⟩
      · go_simp
        have ne110 : Blk ((wo.alloc (.cells #[.bool false, .string ⟨#[]⟩] 28)).drew) wo.heap.size 28 [.bool false, .string ⟨#[]⟩] := Blk.new wo _ _
        have sd109 : Below wo.heap.size wo ((wo.alloc (.cells #[.bool false, .string ⟨#[]⟩] 28)).drew) := ((Below.refl wo.heap.size wo).alloc (Nat.le_refl _) _).drew
        refine hK.out _ _ ?_ (fun hG108 => ?_)
        · ((try dsimp only); go_keep)
        clear hK K
        (try simp only [Act.put, List.setIfInBounds_toArray, List.set_cons_zero, List.set_cons_succ])
        obtain ⟨wx107, hwx111⟩ : ∃ wx107, ((wo.alloc (.cells #[.bool false, .string ⟨#[]⟩] 28)).drew) = wx107 := ⟨_, rfl⟩
        rw [hwx111] at ne110 sd109
        (try rw [hwx111])
        (try rw [hwx111] at hG108)
        obtain ⟨b8, hbx112⟩ : ∃ b8, b8 = wo.heap.size := ⟨_, rfl⟩
        have hge113 : wo.heap.size ≤ b8 := by rw [hbx112]; exact sW.size
        rw [← hbx112] at ne110 
        (try rw [← hbx112])
        clear hbx112 hwx111
        have hlwx107 : wo.heap.size ≤ wx107.heap.size := sd109.size
        refine wpAnyH_ready (rs := [2, 9]) (by kernel_rfl) (by simp) ?_
        refine AllReadyH.cons rfl (fun K hK => ?_) (AllReadyH.cons rfl (fun K hK => ?_) (AllReadyH.nil))
        · go_simp
          go_at_call 49
          refine (HOFN.out _).mono ?_
          rintro e' wd114 ⟨hq, rfl⟩
          dsimp only
          have z0 := (hq.cell (p := ⟨tb, 0, none⟩) (show tb < wx107.heap.size by omega)).trans hG108.1
          have z1 := (hq.cell (p := ⟨tb, 1, none⟩) (show tb < wx107.heap.size by omega)).trans hG108.2
          refine hK.out _ _ ⟨z0, z1⟩ (fun hG115 => ?_)
          clear hK K z0 z1
          (try simp only [Act.put, List.setIfInBounds_toArray, List.set_cons_zero, List.set_cons_succ])
          have sd116 : Below wo.heap.size wo wd114 := sd109.trans (hq.mono sd109.size)
          have ne117 := Blk.keep (w := wx107) ne110 hq
          clear hq
          have hlwd114 : wo.heap.size ≤ wd114.heap.size := sd116.size
          refine wpAnyH_ready (rs := [3, 9]) (by kernel_rfl) (by simp) ?_
          refine AllReadyH.cons rfl (fun K hK => ?_) (AllReadyH.cons rfl (fun K hK => ?_) (AllReadyH.nil))
          · go_simp
            go_at_call 50
            refine (HDVN.out _).mono ?_
            rintro e' wd118 ⟨hq, rfl⟩
            dsimp only
            have z0 := (hq.cell (p := ⟨tb, 0, none⟩) (show tb < wd114.heap.size by omega)).trans hG115.1
            have z1 := (hq.cell (p := ⟨tb, 1, none⟩) (show tb < wd114.heap.size by omega)).trans hG115.2
            refine hK.out _ _ ⟨z0, z1⟩ (fun hG119 => ?_)
            clear hK K z0 z1
            (try simp only [Act.put, List.setIfInBounds_toArray, List.set_cons_zero, List.set_cons_succ])
            have sd120 : Below wo.heap.size wo wd118 := sd116.trans (hq.mono sd116.size)
            have ne121 := Blk.keep (w := wd114) ne117 hq
            clear hq
            have hlwd118 : wo.heap.size ≤ wd118.heap.size := sd120.size
            refine wpAnyH_take (i := 4) (v := ?_) rfl (by kernel_rfl) (by kernel_rfl) (by kernel_rfl) (fun _ _ _ h => h) (Or.inl ⟨by rfl, ?_⟩) (by assumption) ?_
            rotate_left
            · (intro wS hSw; (try dsimp only at hSw); go_simp; (try with_reducible rfl))
            (try simp only [Act.put, List.setIfInBounds_toArray, List.set_cons_zero, List.set_cons_succ])
            refine wpAnyH_take (i := 5) (v := ?_) rfl (by kernel_rfl) (by kernel_rfl) (by kernel_rfl) (fun _ _ _ h => h) (Or.inl ⟨by rfl, ?_⟩) (by assumption) ?_
            rotate_left
            · (intro wS hSw; (try dsimp only at hSw); go_simp; (try with_reducible rfl))
            (try simp only [Act.put, List.setIfInBounds_toArray, List.set_cons_zero, List.set_cons_succ])
            refine wpAnyH_take (i := 6) (v := ?_) rfl (by kernel_rfl) (by kernel_rfl) (by kernel_rfl) (fun _ _ _ h => h) (Or.inl ⟨by rfl, ?_⟩) (by assumption) ?_
            rotate_left
            · (intro wS hSw; (try dsimp only at hSw); go_simp; (try with_reducible rfl))
            (try simp only [Act.put, List.setIfInBounds_toArray, List.set_cons_zero, List.set_cons_succ])
            refine wpAnyH_take (i := 7) (v := ?_) rfl (by kernel_rfl) (by kernel_rfl) (by kernel_rfl) (fun _ _ _ h => h) (Or.inl ⟨by rfl, ?_⟩) (by assumption) ?_
            rotate_left
            · (intro wS hSw; (try dsimp only at hSw); go_simp; (try with_reducible rfl))
            (try simp only [Act.put, List.setIfInBounds_toArray, List.set_cons_zero, List.set_cons_succ])
            refine wpAnyH_ready (rs := [9]) (by kernel_rfl) (by simp) ?_
            refine AllReadyH.cons rfl (fun K hK => ?_) AllReadyH.nil
            go_simp
            have ne125 : Blk (wd118.alloc (.cells #[.bool false, .string ⟨#[]⟩] 28)) wd118.heap.size 28 [.bool false, .string ⟨#[]⟩] := Blk.new wd118 _ _
            have sd124 : Below wo.heap.size wo (wd118.alloc (.cells #[.bool false, .string ⟨#[]⟩] 28)) := sd120.alloc sd120.size _
            have hlt130 : b8 < wd118.heap.size := ne121.lt
            have ne129 := Blk.alloc ne121 (.cells #[.bool false, .string ⟨#[]⟩] 28)
            refine hK.out _ _ ?_ (fun hG123 => ?_)
            · ((try dsimp only); go_keep)
            clear hK K
            (try simp only [Act.put, List.setIfInBounds_toArray, List.set_cons_zero, List.set_cons_succ])
            obtain ⟨wx122, hwx126⟩ : ∃ wx122, (wd118.alloc (.cells #[.bool false, .string ⟨#[]⟩] 28)) = wx122 := ⟨_, rfl⟩
            rw [hwx126] at ne125 sd124 ne129
            (try rw [hwx126])
            (try rw [hwx126] at hG123)
            obtain ⟨b9, hbx127⟩ : ∃ b9, b9 = wd118.heap.size := ⟨_, rfl⟩
            have hge128 : wo.heap.size ≤ b9 := by rw [hbx127]; exact sd120.size
            rw [← hbx127] at ne125 hlt130
            (try rw [← hbx127])
            clear hbx127 hwx126
            have hlwx122 : wo.heap.size ≤ wx122.heap.size := sd124.size
            have h8l := ne129.lt
            have h9l := ne125.lt
            have u0 := ne129.cell (j := 0) rfl
            have u1 := ne129.cell (j := 1) rfl
            have u2 := ne125.cell (j := 0) rfl
            have u3 := ne125.cell (j := 1) rfl
            have v0 := ne129.frozen 0
            have v1 := ne129.frozen 1
            have v2 := ne125.frozen 0
            have v3 := ne125.frozen 1
            have m0 : ¬ b8 = tb := by omega
            have m1 : ¬ b9 = tb := by omega
            have m2 : ¬ tb = b8 := by omega
            have m3 : ¬ tb = b9 := by omega
            have m4 : ¬ b8 = b9 := by omega
            have m5 : ¬ b9 = b8 := by omega
            have m6 : ¬ w.heap.size + 1 = b8 := by omega
            have m7 : ¬ w.heap.size + 1 = b9 := by omega
            have m8 : ¬ b8 = w.heap.size + 1 := by omega
            refine wpAnyH_ready (rs := [10]) (by kernel_rfl) (by simp) ?_
            refine AllReadyH.cons rfl (fun K hK => ?_) AllReadyH.nil
            go_simp
            refine hK.out _ _ ?_ (fun hT1 => ?_)
            · ((try dsimp only); go_keep)
            clear hK K
            (try simp only [Act.put, List.setIfInBounds_toArray, List.set_cons_zero, List.set_cons_succ])
            refine wpAnyH_ready (rs := [11]) (by kernel_rfl) (by simp) ?_
            refine AllReadyH.cons rfl (fun K hK => ?_) AllReadyH.nil
            go_simp
            refine hK.out _ _ ?_ (fun hT2 => ?_)
            · ((try dsimp only); go_keep)
            clear hK K
            (try simp only [Act.put, List.setIfInBounds_toArray, List.set_cons_zero, List.set_cons_succ])
            refine wpAnyH_take (i := 12) (v := ?_) rfl (by kernel_rfl) (by kernel_rfl) (by kernel_rfl) (fun _ _ _ h => h) (Or.inl ⟨by rfl, ?_⟩) (by assumption) ?_
            rotate_left
            · (intro wS hSw; (try dsimp only at hSw); go_simp; (try with_reducible rfl))
            (try simp only [Act.put, List.setIfInBounds_toArray, List.set_cons_zero, List.set_cons_succ])
            refine wpAnyH_done (by kernel_rfl) ?_ _
            (try simp only [List.getElem_toArray, List.getElem_cons_zero, List.getElem_cons_succ, Act.put, List.setIfInBounds_toArray, List.set_cons_zero, List.set_cons_succ])
            have n8s := (((ne129.set 0 (.bool (ineg Q))).set 1 (.string (imag Q))).setOther (a := ⟨b9, 0, none⟩) m5 (.bool (ineg r))).setOther (a := ⟨b9, 1, none⟩) m5 (.string (imag r))
            have sfin := (((sd124.setCell (p := ⟨b8, 0, none⟩) (show wo.heap.size ≤ b8 by omega) (.bool (ineg Q))).setCell (p := ⟨b8, 1, none⟩) (show wo.heap.size ≤ b8 by omega) (.string (imag Q))).setCell (p := ⟨b9, 0, none⟩) (show wo.heap.size ≤ b9 by omega) (.bool (ineg r))).setCell (p := ⟨b9, 1, none⟩) (show wo.heap.size ≤ b9 by omega) (.string (imag r))
            obtain ⟨wz, hwz⟩ : ∃ wz, (((wx122.setCell ⟨b8, 0, none⟩ (.bool (ineg Q))).setCell ⟨b8, 1, none⟩ (.string (imag Q))).setCell ⟨b9, 0, none⟩ (.bool (ineg r))).setCell ⟨b9, 1, none⟩ (.string (imag r)) = wz := ⟨_, rfl⟩
            rw [hwz] at n8s sfin
            (try rw [hwz])
            clear hwz u0 u1 u2 u3 v0 v1 v2 v3
            have g0 := n8s.cell (j := 0) rfl
            have g1 := n8s.cell (j := 1) rfl
            have i3z := I3.out.keep sfin
            have k0 := i3z.frozen 0
            have k1 := i3z.frozen 1
            have k2 := i3z.cell (j := 0) rfl
            have k3 := i3z.cell (j := 1) rfl
            have hb5 := ((I4.out.trans (sfin.mono I4.out.size)).setCell (p := ⟨w.heap.size + 1, 0, none⟩) (show w.heap.size ≤ w.heap.size + 1 by omega) (.bool (ineg Q))).setCell (p := ⟨w.heap.size + 1, 1, none⟩) (show w.heap.size ≤ w.heap.size + 1 by omega) (.string (imag Q))
            have i3f := (i3z.set 0 (.bool (ineg Q))).set 1 (.string (imag Q))
            have e0 := i3f.cell (j := 0) rfl
            have e1 := i3f.cell (j := 1) rfl
            have HB5 := Lib.hid hb5; clear hb5
            clear i3z i3f n8s sfin
            go_wp2_with fail
            refine bodyPost_ret (v := .tuple #[IntV Q, .int .i64 0]) (by simp [results, Tryz.results17, go_sem, e0, e1, IntV]) rfl ⟨HB5.out, rfl⟩
          · go_simp
            have ne134 : Blk (wd114.alloc (.cells #[.bool false, .string ⟨#[]⟩] 28)) wd114.heap.size 28 [.bool false, .string ⟨#[]⟩] := Blk.new wd114 _ _
            have sd133 : Below wo.heap.size wo (wd114.alloc (.cells #[.bool false, .string ⟨#[]⟩] 28)) := sd116.alloc sd116.size _
            have hlt139 : b8 < wd114.heap.size := ne117.lt
            have ne138 := Blk.alloc ne117 (.cells #[.bool false, .string ⟨#[]⟩] 28)
            refine hK.out _ _ ?_ (fun hG132 => ?_)
            · ((try dsimp only); go_keep)
            clear hK K
            (try simp only [Act.put, List.setIfInBounds_toArray, List.set_cons_zero, List.set_cons_succ])
            obtain ⟨wx131, hwx135⟩ : ∃ wx131, (wd114.alloc (.cells #[.bool false, .string ⟨#[]⟩] 28)) = wx131 := ⟨_, rfl⟩
            rw [hwx135] at ne134 sd133 ne138
            (try rw [hwx135])
            (try rw [hwx135] at hG132)
            obtain ⟨b9, hbx136⟩ : ∃ b9, b9 = wd114.heap.size := ⟨_, rfl⟩
            have hge137 : wo.heap.size ≤ b9 := by rw [hbx136]; exact sd116.size
            rw [← hbx136] at ne134 hlt139
            (try rw [← hbx136])
            clear hbx136 hwx135
            have hlwx131 : wo.heap.size ≤ wx131.heap.size := sd133.size
            refine wpAnyH_ready (rs := [3]) (by kernel_rfl) (by simp) ?_
            refine AllReadyH.cons rfl (fun K hK => ?_) AllReadyH.nil
            go_simp
            go_at_call 50
            refine (HDVN.out _).mono ?_
            rintro e' wd140 ⟨hq, rfl⟩
            dsimp only
            have z0 := (hq.cell (p := ⟨tb, 0, none⟩) (show tb < wx131.heap.size by omega)).trans hG132.1
            have z1 := (hq.cell (p := ⟨tb, 1, none⟩) (show tb < wx131.heap.size by omega)).trans hG132.2
            refine hK.out _ _ ⟨z0, z1⟩ (fun hG141 => ?_)
            clear hK K z0 z1
            (try simp only [Act.put, List.setIfInBounds_toArray, List.set_cons_zero, List.set_cons_succ])
            have sd142 : Below wo.heap.size wo wd140 := sd133.trans (hq.mono sd133.size)
            have ne143 := Blk.keep (w := wx131) ne138 hq
            have ne144 := Blk.keep (w := wx131) ne134 hq
            clear hq
            have hlwd140 : wo.heap.size ≤ wd140.heap.size := sd142.size
            refine wpAnyH_take (i := 4) (v := ?_) rfl (by kernel_rfl) (by kernel_rfl) (by kernel_rfl) (fun _ _ _ h => h) (Or.inl ⟨by rfl, ?_⟩) (by assumption) ?_
            rotate_left
            · (intro wS hSw; (try dsimp only at hSw); go_simp; (try with_reducible rfl))
            (try simp only [Act.put, List.setIfInBounds_toArray, List.set_cons_zero, List.set_cons_succ])
            refine wpAnyH_take (i := 5) (v := ?_) rfl (by kernel_rfl) (by kernel_rfl) (by kernel_rfl) (fun _ _ _ h => h) (Or.inl ⟨by rfl, ?_⟩) (by assumption) ?_
            rotate_left
            · (intro wS hSw; (try dsimp only at hSw); go_simp; (try with_reducible rfl))
            (try simp only [Act.put, List.setIfInBounds_toArray, List.set_cons_zero, List.set_cons_succ])
            refine wpAnyH_take (i := 6) (v := ?_) rfl (by kernel_rfl) (by kernel_rfl) (by kernel_rfl) (fun _ _ _ h => h) (Or.inl ⟨by rfl, ?_⟩) (by assumption) ?_
            rotate_left
            · (intro wS hSw; (try dsimp only at hSw); go_simp; (try with_reducible rfl))
            (try simp only [Act.put, List.setIfInBounds_toArray, List.set_cons_zero, List.set_cons_succ])
            refine wpAnyH_take (i := 7) (v := ?_) rfl (by kernel_rfl) (by kernel_rfl) (by kernel_rfl) (fun _ _ _ h => h) (Or.inl ⟨by rfl, ?_⟩) (by assumption) ?_
            rotate_left
            · (intro wS hSw; (try dsimp only at hSw); go_simp; (try with_reducible rfl))
            (try simp only [Act.put, List.setIfInBounds_toArray, List.set_cons_zero, List.set_cons_succ])
            have h8l := ne143.lt
            have h9l := ne144.lt
            have u0 := ne143.cell (j := 0) rfl
            have u1 := ne143.cell (j := 1) rfl
            have u2 := ne144.cell (j := 0) rfl
            have u3 := ne144.cell (j := 1) rfl
            have v0 := ne143.frozen 0
            have v1 := ne143.frozen 1
            have v2 := ne144.frozen 0
            have v3 := ne144.frozen 1
            have m0 : ¬ b8 = tb := by omega
            have m1 : ¬ b9 = tb := by omega
            have m2 : ¬ tb = b8 := by omega
            have m3 : ¬ tb = b9 := by omega
            have m4 : ¬ b8 = b9 := by omega
            have m5 : ¬ b9 = b8 := by omega
            have m6 : ¬ w.heap.size + 1 = b8 := by omega
            have m7 : ¬ w.heap.size + 1 = b9 := by omega
            have m8 : ¬ b8 = w.heap.size + 1 := by omega
            refine wpAnyH_ready (rs := [10]) (by kernel_rfl) (by simp) ?_
            refine AllReadyH.cons rfl (fun K hK => ?_) AllReadyH.nil
            go_simp
            refine hK.out _ _ ?_ (fun hT1 => ?_)
            · ((try dsimp only); go_keep)
            clear hK K
            (try simp only [Act.put, List.setIfInBounds_toArray, List.set_cons_zero, List.set_cons_succ])
            refine wpAnyH_ready (rs := [11]) (by kernel_rfl) (by simp) ?_
            refine AllReadyH.cons rfl (fun K hK => ?_) AllReadyH.nil
            go_simp
            refine hK.out _ _ ?_ (fun hT2 => ?_)
            · ((try dsimp only); go_keep)
            clear hK K
            (try simp only [Act.put, List.setIfInBounds_toArray, List.set_cons_zero, List.set_cons_succ])
            refine wpAnyH_take (i := 12) (v := ?_) rfl (by kernel_rfl) (by kernel_rfl) (by kernel_rfl) (fun _ _ _ h => h) (Or.inl ⟨by rfl, ?_⟩) (by assumption) ?_
            rotate_left
            · (intro wS hSw; (try dsimp only at hSw); go_simp; (try with_reducible rfl))
            (try simp only [Act.put, List.setIfInBounds_toArray, List.set_cons_zero, List.set_cons_succ])
            refine wpAnyH_done (by kernel_rfl) ?_ _
            (try simp only [List.getElem_toArray, List.getElem_cons_zero, List.getElem_cons_succ, Act.put, List.setIfInBounds_toArray, List.set_cons_zero, List.set_cons_succ])
            have n8s := (((ne143.set 0 (.bool (ineg Q))).set 1 (.string (imag Q))).setOther (a := ⟨b9, 0, none⟩) m5 (.bool (ineg r))).setOther (a := ⟨b9, 1, none⟩) m5 (.string (imag r))
            have sfin := (((sd142.setCell (p := ⟨b8, 0, none⟩) (show wo.heap.size ≤ b8 by omega) (.bool (ineg Q))).setCell (p := ⟨b8, 1, none⟩) (show wo.heap.size ≤ b8 by omega) (.string (imag Q))).setCell (p := ⟨b9, 0, none⟩) (show wo.heap.size ≤ b9 by omega) (.bool (ineg r))).setCell (p := ⟨b9, 1, none⟩) (show wo.heap.size ≤ b9 by omega) (.string (imag r))
            obtain ⟨wz, hwz⟩ : ∃ wz, (((wd140.setCell ⟨b8, 0, none⟩ (.bool (ineg Q))).setCell ⟨b8, 1, none⟩ (.string (imag Q))).setCell ⟨b9, 0, none⟩ (.bool (ineg r))).setCell ⟨b9, 1, none⟩ (.string (imag r)) = wz := ⟨_, rfl⟩
            rw [hwz] at n8s sfin
            (try rw [hwz])
            clear hwz u0 u1 u2 u3 v0 v1 v2 v3
            have g0 := n8s.cell (j := 0) rfl
            have g1 := n8s.cell (j := 1) rfl
            have i3z := I3.out.keep sfin
            have k0 := i3z.frozen 0
            have k1 := i3z.frozen 1
            have k2 := i3z.cell (j := 0) rfl
            have k3 := i3z.cell (j := 1) rfl
            have hb5 := ((I4.out.trans (sfin.mono I4.out.size)).setCell (p := ⟨w.heap.size + 1, 0, none⟩) (show w.heap.size ≤ w.heap.size + 1 by omega) (.bool (ineg Q))).setCell (p := ⟨w.heap.size + 1, 1, none⟩) (show w.heap.size ≤ w.heap.size + 1 by omega) (.string (imag Q))
            have i3f := (i3z.set 0 (.bool (ineg Q))).set 1 (.string (imag Q))
            have e0 := i3f.cell (j := 0) rfl
            have e1 := i3f.cell (j := 1) rfl
            have HB5 := Lib.hid hb5; clear hb5
            clear i3z i3f n8s sfin
            go_wp2_with fail
            refine bodyPost_ret (v := .tuple #[IntV Q, .int .i64 0]) (by simp [results, Tryz.results17, go_sem, e0, e1, IntV]) rfl ⟨HB5.out, rfl⟩
        · go_simp
          have ne148 : Blk (wx107.alloc (.cells #[.bool false, .string ⟨#[]⟩] 28)) wx107.heap.size 28 [.bool false, .string ⟨#[]⟩] := Blk.new wx107 _ _
          have sd147 : Below wo.heap.size wo (wx107.alloc (.cells #[.bool false, .string ⟨#[]⟩] 28)) := sd109.alloc sd109.size _
          have hlt153 : b8 < wx107.heap.size := ne110.lt
          have ne152 := Blk.alloc ne110 (.cells #[.bool false, .string ⟨#[]⟩] 28)
          refine hK.out _ _ ?_ (fun hG146 => ?_)
          · ((try dsimp only); go_keep)
          clear hK K
          (try simp only [Act.put, List.setIfInBounds_toArray, List.set_cons_zero, List.set_cons_succ])
          obtain ⟨wx145, hwx149⟩ : ∃ wx145, (wx107.alloc (.cells #[.bool false, .string ⟨#[]⟩] 28)) = wx145 := ⟨_, rfl⟩
          rw [hwx149] at ne148 sd147 ne152
          (try rw [hwx149])
          (try rw [hwx149] at hG146)
          obtain ⟨b9, hbx150⟩ : ∃ b9, b9 = wx107.heap.size := ⟨_, rfl⟩
          have hge151 : wo.heap.size ≤ b9 := by rw [hbx150]; exact sd109.size
          rw [← hbx150] at ne148 hlt153
          (try rw [← hbx150])
          clear hbx150 hwx149
          have hlwx145 : wo.heap.size ≤ wx145.heap.size := sd147.size
          refine wpAnyH_ready (rs := [2]) (by kernel_rfl) (by simp) ?_
          refine AllReadyH.cons rfl (fun K hK => ?_) AllReadyH.nil
          go_simp
          go_at_call 49
          refine (HOFN.out _).mono ?_
          rintro e' wd154 ⟨hq, rfl⟩
          dsimp only
          have z0 := (hq.cell (p := ⟨tb, 0, none⟩) (show tb < wx145.heap.size by omega)).trans hG146.1
          have z1 := (hq.cell (p := ⟨tb, 1, none⟩) (show tb < wx145.heap.size by omega)).trans hG146.2
          refine hK.out _ _ ⟨z0, z1⟩ (fun hG155 => ?_)
          clear hK K z0 z1
          (try simp only [Act.put, List.setIfInBounds_toArray, List.set_cons_zero, List.set_cons_succ])
          have sd156 : Below wo.heap.size wo wd154 := sd147.trans (hq.mono sd147.size)
          have ne157 := Blk.keep (w := wx145) ne152 hq
          have ne158 := Blk.keep (w := wx145) ne148 hq
          clear hq
          have hlwd154 : wo.heap.size ≤ wd154.heap.size := sd156.size
          refine wpAnyH_ready (rs := [3]) (by kernel_rfl) (by simp) ?_
          refine AllReadyH.cons rfl (fun K hK => ?_) AllReadyH.nil
          go_simp
          go_at_call 50
          refine (HDVN.out _).mono ?_
          rintro e' wd159 ⟨hq, rfl⟩
          dsimp only
          have z0 := (hq.cell (p := ⟨tb, 0, none⟩) (show tb < wd154.heap.size by omega)).trans hG155.1
          have z1 := (hq.cell (p := ⟨tb, 1, none⟩) (show tb < wd154.heap.size by omega)).trans hG155.2
          refine hK.out _ _ ⟨z0, z1⟩ (fun hG160 => ?_)
          clear hK K z0 z1
          (try simp only [Act.put, List.setIfInBounds_toArray, List.set_cons_zero, List.set_cons_succ])
          have sd161 : Below wo.heap.size wo wd159 := sd156.trans (hq.mono sd156.size)
          have ne162 := Blk.keep (w := wd154) ne157 hq
          have ne163 := Blk.keep (w := wd154) ne158 hq
          clear hq
          have hlwd159 : wo.heap.size ≤ wd159.heap.size := sd161.size
          refine wpAnyH_take (i := 4) (v := ?_) rfl (by kernel_rfl) (by kernel_rfl) (by kernel_rfl) (fun _ _ _ h => h) (Or.inl ⟨by rfl, ?_⟩) (by assumption) ?_
          rotate_left
          · (intro wS hSw; (try dsimp only at hSw); go_simp; (try with_reducible rfl))
          (try simp only [Act.put, List.setIfInBounds_toArray, List.set_cons_zero, List.set_cons_succ])
          refine wpAnyH_take (i := 5) (v := ?_) rfl (by kernel_rfl) (by kernel_rfl) (by kernel_rfl) (fun _ _ _ h => h) (Or.inl ⟨by rfl, ?_⟩) (by assumption) ?_
          rotate_left
          · (intro wS hSw; (try dsimp only at hSw); go_simp; (try with_reducible rfl))
          (try simp only [Act.put, List.setIfInBounds_toArray, List.set_cons_zero, List.set_cons_succ])
          refine wpAnyH_take (i := 6) (v := ?_) rfl (by kernel_rfl) (by kernel_rfl) (by kernel_rfl) (fun _ _ _ h => h) (Or.inl ⟨by rfl, ?_⟩) (by assumption) ?_
          rotate_left
          · (intro wS hSw; (try dsimp only at hSw); go_simp; (try with_reducible rfl))
          (try simp only [Act.put, List.setIfInBounds_toArray, List.set_cons_zero, List.set_cons_succ])
          refine wpAnyH_take (i := 7) (v := ?_) rfl (by kernel_rfl) (by kernel_rfl) (by kernel_rfl) (fun _ _ _ h => h) (Or.inl ⟨by rfl, ?_⟩) (by assumption) ?_
          rotate_left
          · (intro wS hSw; (try dsimp only at hSw); go_simp; (try with_reducible rfl))
          (try simp only [Act.put, List.setIfInBounds_toArray, List.set_cons_zero, List.set_cons_succ])
          have h8l := ne162.lt
          have h9l := ne163.lt
          have u0 := ne162.cell (j := 0) rfl
          have u1 := ne162.cell (j := 1) rfl
          have u2 := ne163.cell (j := 0) rfl
          have u3 := ne163.cell (j := 1) rfl
          have v0 := ne162.frozen 0
          have v1 := ne162.frozen 1
          have v2 := ne163.frozen 0
          have v3 := ne163.frozen 1
          have m0 : ¬ b8 = tb := by omega
          have m1 : ¬ b9 = tb := by omega
          have m2 : ¬ tb = b8 := by omega
          have m3 : ¬ tb = b9 := by omega
          have m4 : ¬ b8 = b9 := by omega
          have m5 : ¬ b9 = b8 := by omega
          have m6 : ¬ w.heap.size + 1 = b8 := by omega
          have m7 : ¬ w.heap.size + 1 = b9 := by omega
          have m8 : ¬ b8 = w.heap.size + 1 := by omega
          refine wpAnyH_ready (rs := [10]) (by kernel_rfl) (by simp) ?_
          refine AllReadyH.cons rfl (fun K hK => ?_) AllReadyH.nil
          go_simp
          refine hK.out _ _ ?_ (fun hT1 => ?_)
          · ((try dsimp only); go_keep)
          clear hK K
          (try simp only [Act.put, List.setIfInBounds_toArray, List.set_cons_zero, List.set_cons_succ])
          refine wpAnyH_ready (rs := [11]) (by kernel_rfl) (by simp) ?_
          refine AllReadyH.cons rfl (fun K hK => ?_) AllReadyH.nil
          go_simp
          refine hK.out _ _ ?_ (fun hT2 => ?_)
          · ((try dsimp only); go_keep)
          clear hK K
          (try simp only [Act.put, List.setIfInBounds_toArray, List.set_cons_zero, List.set_cons_succ])
          refine wpAnyH_take (i := 12) (v := ?_) rfl (by kernel_rfl) (by kernel_rfl) (by kernel_rfl) (fun _ _ _ h => h) (Or.inl ⟨by rfl, ?_⟩) (by assumption) ?_
          rotate_left
          · (intro wS hSw; (try dsimp only at hSw); go_simp; (try with_reducible rfl))
          (try simp only [Act.put, List.setIfInBounds_toArray, List.set_cons_zero, List.set_cons_succ])
          refine wpAnyH_done (by kernel_rfl) ?_ _
          (try simp only [List.getElem_toArray, List.getElem_cons_zero, List.getElem_cons_succ, Act.put, List.setIfInBounds_toArray, List.set_cons_zero, List.set_cons_succ])
          have n8s := (((ne162.set 0 (.bool (ineg Q))).set 1 (.string (imag Q))).setOther (a := ⟨b9, 0, none⟩) m5 (.bool (ineg r))).setOther (a := ⟨b9, 1, none⟩) m5 (.string (imag r))
          have sfin := (((sd161.setCell (p := ⟨b8, 0, none⟩) (show wo.heap.size ≤ b8 by omega) (.bool (ineg Q))).setCell (p := ⟨b8, 1, none⟩) (show wo.heap.size ≤ b8 by omega) (.string (imag Q))).setCell (p := ⟨b9, 0, none⟩) (show wo.heap.size ≤ b9 by omega) (.bool (ineg r))).setCell (p := ⟨b9, 1, none⟩) (show wo.heap.size ≤ b9 by omega) (.string (imag r))
          obtain ⟨wz, hwz⟩ : ∃ wz, (((wd159.setCell ⟨b8, 0, none⟩ (.bool (ineg Q))).setCell ⟨b8, 1, none⟩ (.string (imag Q))).setCell ⟨b9, 0, none⟩ (.bool (ineg r))).setCell ⟨b9, 1, none⟩ (.string (imag r)) = wz := ⟨_, rfl⟩
          rw [hwz] at n8s sfin
          (try rw [hwz])
          clear hwz u0 u1 u2 u3 v0 v1 v2 v3
          have g0 := n8s.cell (j := 0) rfl
          have g1 := n8s.cell (j := 1) rfl
          have i3z := I3.out.keep sfin
          have k0 := i3z.frozen 0
          have k1 := i3z.frozen 1
          have k2 := i3z.cell (j := 0) rfl
          have k3 := i3z.cell (j := 1) rfl
          have hb5 := ((I4.out.trans (sfin.mono I4.out.size)).setCell (p := ⟨w.heap.size + 1, 0, none⟩) (show w.heap.size ≤ w.heap.size + 1 by omega) (.bool (ineg Q))).setCell (p := ⟨w.heap.size + 1, 1, none⟩) (show w.heap.size ≤ w.heap.size + 1 by omega) (.string (imag Q))
          have i3f := (i3z.set 0 (.bool (ineg Q))).set 1 (.string (imag Q))
          have e0 := i3f.cell (j := 0) rfl
          have e1 := i3f.cell (j := 1) rfl
          have HB5 := Lib.hid hb5; clear hb5
          clear i3z i3f n8s sfin
          go_wp2_with fail
          refine bodyPost_ret (v := .tuple #[IntV Q, .int .i64 0]) (by simp [results, Tryz.results17, go_sem, e0, e1, IntV]) rfl ⟨HB5.out, rfl⟩
      · go_simp
        have ne167 : Blk ((wo.alloc (.cells #[.bool false, .string ⟨#[]⟩] 28)).drew) wo.heap.size 28 [.bool false, .string ⟨#[]⟩] := Blk.new wo _ _
        have sd166 : Below wo.heap.size wo ((wo.alloc (.cells #[.bool false, .string ⟨#[]⟩] 28)).drew) := ((Below.refl wo.heap.size wo).alloc (Nat.le_refl _) _).drew
        refine hK.out _ _ ?_ (fun hG165 => ?_)
        · ((try dsimp only); go_keep)
        clear hK K
        (try simp only [Act.put, List.setIfInBounds_toArray, List.set_cons_zero, List.set_cons_succ])
        obtain ⟨wx164, hwx168⟩ : ∃ wx164, ((wo.alloc (.cells #[.bool false, .string ⟨#[]⟩] 28)).drew) = wx164 := ⟨_, rfl⟩
        rw [hwx168] at ne167 sd166
        (try rw [hwx168])
        (try rw [hwx168] at hG165)
        obtain ⟨b9, hbx169⟩ : ∃ b9, b9 = wo.heap.size := ⟨_, rfl⟩
        have hge170 : wo.heap.size ≤ b9 := by rw [hbx169]; exact sW.size
        rw [← hbx169] at ne167 
        (try rw [← hbx169])
        clear hbx169 hwx168
        have hlwx164 : wo.heap.size ≤ wx164.heap.size := sd166.size
        refine wpAnyH_ready (rs := [2, 8]) (by kernel_rfl) (by simp) ?_
        refine AllReadyH.cons rfl (fun K hK => ?_) (AllReadyH.cons rfl (fun K hK => ?_) (AllReadyH.nil))
        · go_simp
          go_at_call 49
          refine (HOFN.out _).mono ?_
          rintro e' wd171 ⟨hq, rfl⟩
          dsimp only
          have z0 := (hq.cell (p := ⟨tb, 0, none⟩) (show tb < wx164.heap.size by omega)).trans hG165.1
          have z1 := (hq.cell (p := ⟨tb, 1, none⟩) (show tb < wx164.heap.size by omega)).trans hG165.2
          refine hK.out _ _ ⟨z0, z1⟩ (fun hG172 => ?_)
          clear hK K z0 z1
          (try simp only [Act.put, List.setIfInBounds_toArray, List.set_cons_zero, List.set_cons_succ])
          have sd173 : Below wo.heap.size wo wd171 := sd166.trans (hq.mono sd166.size)
          have ne174 := Blk.keep (w := wx164) ne167 hq
          clear hq
          have hlwd171 : wo.heap.size ≤ wd171.heap.size := sd173.size
          refine wpAnyH_ready (rs := [3, 8]) (by kernel_rfl) (by simp) ?_
          refine AllReadyH.cons rfl (fun K hK => ?_) (AllReadyH.cons rfl (fun K hK => ?_) (AllReadyH.nil))
          · go_simp
            go_at_call 50
            refine (HDVN.out _).mono ?_
            rintro e' wd175 ⟨hq, rfl⟩
            dsimp only
            have z0 := (hq.cell (p := ⟨tb, 0, none⟩) (show tb < wd171.heap.size by omega)).trans hG172.1
            have z1 := (hq.cell (p := ⟨tb, 1, none⟩) (show tb < wd171.heap.size by omega)).trans hG172.2
            refine hK.out _ _ ⟨z0, z1⟩ (fun hG176 => ?_)
            clear hK K z0 z1
            (try simp only [Act.put, List.setIfInBounds_toArray, List.set_cons_zero, List.set_cons_succ])
            have sd177 : Below wo.heap.size wo wd175 := sd173.trans (hq.mono sd173.size)
            have ne178 := Blk.keep (w := wd171) ne174 hq
            clear hq
            have hlwd175 : wo.heap.size ≤ wd175.heap.size := sd177.size
            refine wpAnyH_take (i := 4) (v := ?_) rfl (by kernel_rfl) (by kernel_rfl) (by kernel_rfl) (fun _ _ _ h => h) (Or.inl ⟨by rfl, ?_⟩) (by assumption) ?_
            rotate_left
            · (intro wS hSw; (try dsimp only at hSw); go_simp; (try with_reducible rfl))
            (try simp only [Act.put, List.setIfInBounds_toArray, List.set_cons_zero, List.set_cons_succ])
            refine wpAnyH_take (i := 5) (v := ?_) rfl (by kernel_rfl) (by kernel_rfl) (by kernel_rfl) (fun _ _ _ h => h) (Or.inl ⟨by rfl, ?_⟩) (by assumption) ?_
            rotate_left
            · (intro wS hSw; (try dsimp only at hSw); go_simp; (try with_reducible rfl))
            (try simp only [Act.put, List.setIfInBounds_toArray, List.set_cons_zero, List.set_cons_succ])
            refine wpAnyH_take (i := 6) (v := ?_) rfl (by kernel_rfl) (by kernel_rfl) (by kernel_rfl) (fun _ _ _ h => h) (Or.inl ⟨by rfl, ?_⟩) (by assumption) ?_
            rotate_left
            · (intro wS hSw; (try dsimp only at hSw); go_simp; (try with_reducible rfl))
            (try simp only [Act.put, List.setIfInBounds_toArray, List.set_cons_zero, List.set_cons_succ])
            refine wpAnyH_take (i := 7) (v := ?_) rfl (by kernel_rfl) (by kernel_rfl) (by kernel_rfl) (fun _ _ _ h => h) (Or.inl ⟨by rfl, ?_⟩) (by assumption) ?_
            rotate_left
            · (intro wS hSw; (try dsimp only at hSw); go_simp; (try with_reducible rfl))
            (try simp only [Act.put, List.setIfInBounds_toArray, List.set_cons_zero, List.set_cons_succ])
            refine wpAnyH_ready (rs := [8]) (by kernel_rfl) (by simp) ?_
            refine AllReadyH.cons rfl (fun K hK => ?_) AllReadyH.nil
            go_simp
            have ne182 : Blk (wd175.alloc (.cells #[.bool false, .string ⟨#[]⟩] 28)) wd175.heap.size 28 [.bool false, .string ⟨#[]⟩] := Blk.new wd175 _ _
            have sd181 : Below wo.heap.size wo (wd175.alloc (.cells #[.bool false, .string ⟨#[]⟩] 28)) := sd177.alloc sd177.size _
            have hlt187 : b9 < wd175.heap.size := ne178.lt
            have ne186 := Blk.alloc ne178 (.cells #[.bool false, .string ⟨#[]⟩] 28)
            refine hK.out _ _ ?_ (fun hG180 => ?_)
            · ((try dsimp only); go_keep)
            clear hK K
            (try simp only [Act.put, List.setIfInBounds_toArray, List.set_cons_zero, List.set_cons_succ])
            obtain ⟨wx179, hwx183⟩ : ∃ wx179, (wd175.alloc (.cells #[.bool false, .string ⟨#[]⟩] 28)) = wx179 := ⟨_, rfl⟩
            rw [hwx183] at ne182 sd181 ne186
            (try rw [hwx183])
            (try rw [hwx183] at hG180)
            obtain ⟨b8, hbx184⟩ : ∃ b8, b8 = wd175.heap.size := ⟨_, rfl⟩
            have hge185 : wo.heap.size ≤ b8 := by rw [hbx184]; exact sd177.size
            rw [← hbx184] at ne182 hlt187
            (try rw [← hbx184])
            clear hbx184 hwx183
            have hlwx179 : wo.heap.size ≤ wx179.heap.size := sd181.size
            have h8l := ne182.lt
            have h9l := ne186.lt
            have u0 := ne182.cell (j := 0) rfl
            have u1 := ne182.cell (j := 1) rfl
            have u2 := ne186.cell (j := 0) rfl
            have u3 := ne186.cell (j := 1) rfl
            have v0 := ne182.frozen 0
            have v1 := ne182.frozen 1
            have v2 := ne186.frozen 0
            have v3 := ne186.frozen 1
            have m0 : ¬ b8 = tb := by omega
            have m1 : ¬ b9 = tb := by omega
            have m2 : ¬ tb = b8 := by omega
            have m3 : ¬ tb = b9 := by omega
            have m4 : ¬ b8 = b9 := by omega
            have m5 : ¬ b9 = b8 := by omega
            have m6 : ¬ w.heap.size + 1 = b8 := by omega
            have m7 : ¬ w.heap.size + 1 = b9 := by omega
            have m8 : ¬ b8 = w.heap.size + 1 := by omega
            refine wpAnyH_ready (rs := [10]) (by kernel_rfl) (by simp) ?_
            refine AllReadyH.cons rfl (fun K hK => ?_) AllReadyH.nil
            go_simp
            refine hK.out _ _ ?_ (fun hT1 => ?_)
            · ((try dsimp only); go_keep)
            clear hK K
            (try simp only [Act.put, List.setIfInBounds_toArray, List.set_cons_zero, List.set_cons_succ])
            refine wpAnyH_ready (rs := [11]) (by kernel_rfl) (by simp) ?_
            refine AllReadyH.cons rfl (fun K hK => ?_) AllReadyH.nil
            go_simp
            refine hK.out _ _ ?_ (fun hT2 => ?_)
            · ((try dsimp only); go_keep)
            clear hK K
            (try simp only [Act.put, List.setIfInBounds_toArray, List.set_cons_zero, List.set_cons_succ])
            refine wpAnyH_take (i := 12) (v := ?_) rfl (by kernel_rfl) (by kernel_rfl) (by kernel_rfl) (fun _ _ _ h => h) (Or.inl ⟨by rfl, ?_⟩) (by assumption) ?_
            rotate_left
            · (intro wS hSw; (try dsimp only at hSw); go_simp; (try with_reducible rfl))
            (try simp only [Act.put, List.setIfInBounds_toArray, List.set_cons_zero, List.set_cons_succ])
            refine wpAnyH_done (by kernel_rfl) ?_ _
            (try simp only [List.getElem_toArray, List.getElem_cons_zero, List.getElem_cons_succ, Act.put, List.setIfInBounds_toArray, List.set_cons_zero, List.set_cons_succ])
            have n8s := (((ne182.set 0 (.bool (ineg Q))).set 1 (.string (imag Q))).setOther (a := ⟨b9, 0, none⟩) m5 (.bool (ineg r))).setOther (a := ⟨b9, 1, none⟩) m5 (.string (imag r))
            have sfin := (((sd181.setCell (p := ⟨b8, 0, none⟩) (show wo.heap.size ≤ b8 by omega) (.bool (ineg Q))).setCell (p := ⟨b8, 1, none⟩) (show wo.heap.size ≤ b8 by omega) (.string (imag Q))).setCell (p := ⟨b9, 0, none⟩) (show wo.heap.size ≤ b9 by omega) (.bool (ineg r))).setCell (p := ⟨b9, 1, none⟩) (show wo.heap.size ≤ b9 by omega) (.string (imag r))
            obtain ⟨wz, hwz⟩ : ∃ wz, (((wx179.setCell ⟨b8, 0, none⟩ (.bool (ineg Q))).setCell ⟨b8, 1, none⟩ (.string (imag Q))).setCell ⟨b9, 0, none⟩ (.bool (ineg r))).setCell ⟨b9, 1, none⟩ (.string (imag r)) = wz := ⟨_, rfl⟩
            rw [hwz] at n8s sfin
            (try rw [hwz])
            clear hwz u0 u1 u2 u3 v0 v1 v2 v3
            have g0 := n8s.cell (j := 0) rfl
            have g1 := n8s.cell (j := 1) rfl
            have i3z := I3.out.keep sfin
            have k0 := i3z.frozen 0
            have k1 := i3z.frozen 1
            have k2 := i3z.cell (j := 0) rfl
            have k3 := i3z.cell (j := 1) rfl
            have hb5 := ((I4.out.trans (sfin.mono I4.out.size)).setCell (p := ⟨w.heap.size + 1, 0, none⟩) (show w.heap.size ≤ w.heap.size + 1 by omega) (.bool (ineg Q))).setCell (p := ⟨w.heap.size + 1, 1, none⟩) (show w.heap.size ≤ w.heap.size + 1 by omega) (.string (imag Q))
            have i3f := (i3z.set 0 (.bool (ineg Q))).set 1 (.string (imag Q))
            have e0 := i3f.cell (j := 0) rfl
            have e1 := i3f.cell (j := 1) rfl
            have HB5 := Lib.hid hb5; clear hb5
            clear i3z i3f n8s sfin
            go_wp2_with fail
            refine bodyPost_ret (v := .tuple #[IntV Q, .int .i64 0]) (by simp [results, Tryz.results17, go_sem, e0, e1, IntV]) rfl ⟨HB5.out, rfl⟩
          · go_simp
            have ne191 : Blk (wd171.alloc (.cells #[.bool false, .string ⟨#[]⟩] 28)) wd171.heap.size 28 [.bool false, .string ⟨#[]⟩] := Blk.new wd171 _ _
            have sd190 : Below wo.heap.size wo (wd171.alloc (.cells #[.bool false, .string ⟨#[]⟩] 28)) := sd173.alloc sd173.size _
            have hlt196 : b9 < wd171.heap.size := ne174.lt
            have ne195 := Blk.alloc ne174 (.cells #[.bool false, .string ⟨#[]⟩] 28)
            refine hK.out _ _ ?_ (fun hG189 => ?_)
            · ((try dsimp only); go_keep)
            clear hK K
            (try simp only [Act.put, List.setIfInBounds_toArray, List.set_cons_zero, List.set_cons_succ])
            obtain ⟨wx188, hwx192⟩ : ∃ wx188, (wd171.alloc (.cells #[.bool false, .string ⟨#[]⟩] 28)) = wx188 := ⟨_, rfl⟩
            rw [hwx192] at ne191 sd190 ne195
            (try rw [hwx192])
            (try rw [hwx192] at hG189)
            obtain ⟨b8, hbx193⟩ : ∃ b8, b8 = wd171.heap.size := ⟨_, rfl⟩
            have hge194 : wo.heap.size ≤ b8 := by rw [hbx193]; exact sd173.size
            rw [← hbx193] at ne191 hlt196
            (try rw [← hbx193])
            clear hbx193 hwx192
            have hlwx188 : wo.heap.size ≤ wx188.heap.size := sd190.size
            refine wpAnyH_ready (rs := [3]) (by kernel_rfl) (by simp) ?_
            refine AllReadyH.cons rfl (fun K hK => ?_) AllReadyH.nil
            go_simp
            go_at_call 50
            refine (HDVN.out _).mono ?_
            rintro e' wd197 ⟨hq, rfl⟩
            dsimp only
            have z0 := (hq.cell (p := ⟨tb, 0, none⟩) (show tb < wx188.heap.size by omega)).trans hG189.1
            have z1 := (hq.cell (p := ⟨tb, 1, none⟩) (show tb < wx188.heap.size by omega)).trans hG189.2
            refine hK.out _ _ ⟨z0, z1⟩ (fun hG198 => ?_)
            clear hK K z0 z1
            (try simp only [Act.put, List.setIfInBounds_toArray, List.set_cons_zero, List.set_cons_succ])
            have sd199 : Below wo.heap.size wo wd197 := sd190.trans (hq.mono sd190.size)
            have ne200 := Blk.keep (w := wx188) ne191 hq
            have ne201 := Blk.keep (w := wx188) ne195 hq
            clear hq
            have hlwd197 : wo.heap.size ≤ wd197.heap.size := sd199.size
            refine wpAnyH_take (i := 4) (v := ?_) rfl (by kernel_rfl) (by kernel_rfl) (by kernel_rfl) (fun _ _ _ h => h) (Or.inl ⟨by rfl, ?_⟩) (by assumption) ?_
            rotate_left
            · (intro wS hSw; (try dsimp only at hSw); go_simp; (try with_reducible rfl))
            (try simp only [Act.put, List.setIfInBounds_toArray, List.set_cons_zero, List.set_cons_succ])
            refine wpAnyH_take (i := 5) (v := ?_) rfl (by kernel_rfl) (by kernel_rfl) (by kernel_rfl) (fun _ _ _ h => h) (Or.inl ⟨by rfl, ?_⟩) (by assumption) ?_
            rotate_left
            · (intro wS hSw; (try dsimp only at hSw); go_simp; (try with_reducible rfl))
            (try simp only [Act.put, List.setIfInBounds_toArray, List.set_cons_zero, List.set_cons_succ])
            refine wpAnyH_take (i := 6) (v := ?_) rfl (by kernel_rfl) (by kernel_rfl) (by kernel_rfl) (fun _ _ _ h => h) (Or.inl ⟨by rfl, ?_⟩) (by assumption) ?_
            rotate_left
            · (intro wS hSw; (try dsimp only at hSw); go_simp; (try with_reducible rfl))
            (try simp only [Act.put, List.setIfInBounds_toArray, List.set_cons_zero, List.set_cons_succ])
            refine wpAnyH_take (i := 7) (v := ?_) rfl (by kernel_rfl) (by kernel_rfl) (by kernel_rfl) (fun _ _ _ h => h) (Or.inl ⟨by rfl, ?_⟩) (by assumption) ?_
            rotate_left
            · (intro wS hSw; (try dsimp only at hSw); go_simp; (try with_reducible rfl))
            (try simp only [Act.put, List.setIfInBounds_toArray, List.set_cons_zero, List.set_cons_succ])
            have h8l := ne200.lt
            have h9l := ne201.lt
            have u0 := ne200.cell (j := 0) rfl
            have u1 := ne200.cell (j := 1) rfl
            have u2 := ne201.cell (j := 0) rfl
            have u3 := ne201.cell (j := 1) rfl
            have v0 := ne200.frozen 0
            have v1 := ne200.frozen 1
            have v2 := ne201.frozen 0
            have v3 := ne201.frozen 1
            have m0 : ¬ b8 = tb := by omega
            have m1 : ¬ b9 = tb := by omega
            have m2 : ¬ tb = b8 := by omega
            have m3 : ¬ tb = b9 := by omega
            have m4 : ¬ b8 = b9 := by omega
            have m5 : ¬ b9 = b8 := by omega
            have m6 : ¬ w.heap.size + 1 = b8 := by omega
            have m7 : ¬ w.heap.size + 1 = b9 := by omega
            have m8 : ¬ b8 = w.heap.size + 1 := by omega
            refine wpAnyH_ready (rs := [10]) (by kernel_rfl) (by simp) ?_
            refine AllReadyH.cons rfl (fun K hK => ?_) AllReadyH.nil
            go_simp
            refine hK.out _ _ ?_ (fun hT1 => ?_)
            · ((try dsimp only); go_keep)
            clear hK K
            (try simp only [Act.put, List.setIfInBounds_toArray, List.set_cons_zero, List.set_cons_succ])
            refine wpAnyH_ready (rs := [11]) (by kernel_rfl) (by simp) ?_
            refine AllReadyH.cons rfl (fun K hK => ?_) AllReadyH.nil
            go_simp
            refine hK.out _ _ ?_ (fun hT2 => ?_)
            · ((try dsimp only); go_keep)
            clear hK K
            (try simp only [Act.put, List.setIfInBounds_toArray, List.set_cons_zero, List.set_cons_succ])
            refine wpAnyH_take (i := 12) (v := ?_) rfl (by kernel_rfl) (by kernel_rfl) (by kernel_rfl) (fun _ _ _ h => h) (Or.inl ⟨by rfl, ?_⟩) (by assumption) ?_
            rotate_left
            · (intro wS hSw; (try dsimp only at hSw); go_simp; (try with_reducible rfl))
            (try simp only [Act.put, List.setIfInBounds_toArray, List.set_cons_zero, List.set_cons_succ])
            refine wpAnyH_done (by kernel_rfl) ?_ _
            (try simp only [List.getElem_toArray, List.getElem_cons_zero, List.getElem_cons_succ, Act.put, List.setIfInBounds_toArray, List.set_cons_zero, List.set_cons_succ])
            have n8s := (((ne200.set 0 (.bool (ineg Q))).set 1 (.string (imag Q))).setOther (a := ⟨b9, 0, none⟩) m5 (.bool (ineg r))).setOther (a := ⟨b9, 1, none⟩) m5 (.string (imag r))
            have sfin := (((sd199.setCell (p := ⟨b8, 0, none⟩) (show wo.heap.size ≤ b8 by omega) (.bool (ineg Q))).setCell (p := ⟨b8, 1, none⟩) (show wo.heap.size ≤ b8 by omega) (.string (imag Q))).setCell (p := ⟨b9, 0, none⟩) (show wo.heap.size ≤ b9 by omega) (.bool (ineg r))).setCell (p := ⟨b9, 1, none⟩) (show wo.heap.size ≤ b9 by omega) (.string (imag r))
            obtain ⟨wz, hwz⟩ : ∃ wz, (((wd197.setCell ⟨b8, 0, none⟩ (.bool (ineg Q))).setCell ⟨b8, 1, none⟩ (.string (imag Q))).setCell ⟨b9, 0, none⟩ (.bool (ineg r))).setCell ⟨b9, 1, none⟩ (.string (imag r)) = wz := ⟨_, rfl⟩
            rw [hwz] at n8s sfin
            (try rw [hwz])
            clear hwz u0 u1 u2 u3 v0 v1 v2 v3
            have g0 := n8s.cell (j := 0) rfl
            have g1 := n8s.cell (j := 1) rfl
            have i3z := I3.out.keep sfin
            have k0 := i3z.frozen 0
            have k1 := i3z.frozen 1
            have k2 := i3z.cell (j := 0) rfl
            have k3 := i3z.cell (j := 1) rfl
            have hb5 := ((I4.out.trans (sfin.mono I4.out.size)).setCell (p := ⟨w.heap.size + 1, 0, none⟩) (show w.heap.size ≤ w.heap.size + 1 by omega) (.bool (ineg Q))).setCell (p := ⟨w.heap.size + 1, 1, none⟩) (show w.heap.size ≤ w.heap.size + 1 by omega) (.string (imag Q))
            have i3f := (i3z.set 0 (.bool (ineg Q))).set 1 (.string (imag Q))
            have e0 := i3f.cell (j := 0) rfl
            have e1 := i3f.cell (j := 1) rfl
            have HB5 := Lib.hid hb5; clear hb5
            clear i3z i3f n8s sfin
            go_wp2_with fail
            refine bodyPost_ret (v := .tuple #[IntV Q, .int .i64 0]) (by simp [results, Tryz.results17, go_sem, e0, e1, IntV]) rfl ⟨HB5.out, rfl⟩
        · go_simp
          have ne205 : Blk (wx164.alloc (.cells #[.bool false, .string ⟨#[]⟩] 28)) wx164.heap.size 28 [.bool false, .string ⟨#[]⟩] := Blk.new wx164 _ _
          have sd204 : Below wo.heap.size wo (wx164.alloc (.cells #[.bool false, .string ⟨#[]⟩] 28)) := sd166.alloc sd166.size _
          have hlt210 : b9 < wx164.heap.size := ne167.lt
          have ne209 := Blk.alloc ne167 (.cells #[.bool false, .string ⟨#[]⟩] 28)
          refine hK.out _ _ ?_ (fun hG203 => ?_)
          · ((try dsimp only); go_keep)
          clear hK K
          (try simp only [Act.put, List.setIfInBounds_toArray, List.set_cons_zero, List.set_cons_succ])
          obtain ⟨wx202, hwx206⟩ : ∃ wx202, (wx164.alloc (.cells #[.bool false, .string ⟨#[]⟩] 28)) = wx202 := ⟨_, rfl⟩
          rw [hwx206] at ne205 sd204 ne209
          (try rw [hwx206])
          (try rw [hwx206] at hG203)
          obtain ⟨b8, hbx207⟩ : ∃ b8, b8 = wx164.heap.size := ⟨_, rfl⟩
          have hge208 : wo.heap.size ≤ b8 := by rw [hbx207]; exact sd166.size
          rw [← hbx207] at ne205 hlt210
          (try rw [← hbx207])
          clear hbx207 hwx206
          have hlwx202 : wo.heap.size ≤ wx202.heap.size := sd204.size
          refine wpAnyH_ready (rs := [2]) (by kernel_rfl) (by simp) ?_
          refine AllReadyH.cons rfl (fun K hK => ?_) AllReadyH.nil
          go_simp
          go_at_call 49
          refine (HOFN.out _).mono ?_
          rintro e' wd211 ⟨hq, rfl⟩
          dsimp only
          have z0 := (hq.cell (p := ⟨tb, 0, none⟩) (show tb < wx202.heap.size by omega)).trans hG203.1
          have z1 := (hq.cell (p := ⟨tb, 1, none⟩) (show tb < wx202.heap.size by omega)).trans hG203.2
          refine hK.out _ _ ⟨z0, z1⟩ (fun hG212 => ?_)
          clear hK K z0 z1
          (try simp only [Act.put, List.setIfInBounds_toArray, List.set_cons_zero, List.set_cons_succ])
          have sd213 : Below wo.heap.size wo wd211 := sd204.trans (hq.mono sd204.size)
          have ne214 := Blk.keep (w := wx202) ne205 hq
          have ne215 := Blk.keep (w := wx202) ne209 hq
          clear hq
          have hlwd211 : wo.heap.size ≤ wd211.heap.size := sd213.size
          refine wpAnyH_ready (rs := [3]) (by kernel_rfl) (by simp) ?_
          refine AllReadyH.cons rfl (fun K hK => ?_) AllReadyH.nil
          go_simp
          go_at_call 50
          refine (HDVN.out _).mono ?_
          rintro e' wd216 ⟨hq, rfl⟩
          dsimp only
          have z0 := (hq.cell (p := ⟨tb, 0, none⟩) (show tb < wd211.heap.size by omega)).trans hG212.1
          have z1 := (hq.cell (p := ⟨tb, 1, none⟩) (show tb < wd211.heap.size by omega)).trans hG212.2
          refine hK.out _ _ ⟨z0, z1⟩ (fun hG217 => ?_)
          clear hK K z0 z1
          (try simp only [Act.put, List.setIfInBounds_toArray, List.set_cons_zero, List.set_cons_succ])
          have sd218 : Below wo.heap.size wo wd216 := sd213.trans (hq.mono sd213.size)
          have ne219 := Blk.keep (w := wd211) ne214 hq
          have ne220 := Blk.keep (w := wd211) ne215 hq
          clear hq
          have hlwd216 : wo.heap.size ≤ wd216.heap.size := sd218.size
          refine wpAnyH_take (i := 4) (v := ?_) rfl (by kernel_rfl) (by kernel_rfl) (by kernel_rfl) (fun _ _ _ h => h) (Or.inl ⟨by rfl, ?_⟩) (by assumption) ?_
          rotate_left
          · (intro wS hSw; (try dsimp only at hSw); go_simp; (try with_reducible rfl))
          (try simp only [Act.put, List.setIfInBounds_toArray, List.set_cons_zero, List.set_cons_succ])
          refine wpAnyH_take (i := 5) (v := ?_) rfl (by kernel_rfl) (by kernel_rfl) (by kernel_rfl) (fun _ _ _ h => h) (Or.inl ⟨by rfl, ?_⟩) (by assumption) ?_
          rotate_left
          · (intro wS hSw; (try dsimp only at hSw); go_simp; (try with_reducible rfl))
          (try simp only [Act.put, List.setIfInBounds_toArray, List.set_cons_zero, List.set_cons_succ])
          refine wpAnyH_take (i := 6) (v := ?_) rfl (by kernel_rfl) (by kernel_rfl) (by kernel_rfl) (fun _ _ _ h => h) (Or.inl ⟨by rfl, ?_⟩) (by assumption) ?_
          rotate_left
          · (intro wS hSw; (try dsimp only at hSw); go_simp; (try with_reducible rfl))
          (try simp only [Act.put, List.setIfInBounds_toArray, List.set_cons_zero, List.set_cons_succ])
          refine wpAnyH_take (i := 7) (v := ?_) rfl (by kernel_rfl) (by kernel_rfl) (by kernel_rfl) (fun _ _ _ h => h) (Or.inl ⟨by rfl, ?_⟩) (by assumption) ?_
          rotate_left
          · (intro wS hSw; (try dsimp only at hSw); go_simp; (try with_reducible rfl))
          (try simp only [Act.put, List.setIfInBounds_toArray, List.set_cons_zero, List.set_cons_succ])
          have h8l := ne219.lt
          have h9l := ne220.lt
          have u0 := ne219.cell (j := 0) rfl
          have u1 := ne219.cell (j := 1) rfl
          have u2 := ne220.cell (j := 0) rfl
          have u3 := ne220.cell (j := 1) rfl
          have v0 := ne219.frozen 0
          have v1 := ne219.frozen 1
          have v2 := ne220.frozen 0
          have v3 := ne220.frozen 1
          have m0 : ¬ b8 = tb := by omega
          have m1 : ¬ b9 = tb := by omega
          have m2 : ¬ tb = b8 := by omega
          have m3 : ¬ tb = b9 := by omega
          have m4 : ¬ b8 = b9 := by omega
          have m5 : ¬ b9 = b8 := by omega
          have m6 : ¬ w.heap.size + 1 = b8 := by omega
          have m7 : ¬ w.heap.size + 1 = b9 := by omega
          have m8 : ¬ b8 = w.heap.size + 1 := by omega
          refine wpAnyH_ready (rs := [10]) (by kernel_rfl) (by simp) ?_
          refine AllReadyH.cons rfl (fun K hK => ?_) AllReadyH.nil
          go_simp
          refine hK.out _ _ ?_ (fun hT1 => ?_)
          · ((try dsimp only); go_keep)
          clear hK K
          (try simp only [Act.put, List.setIfInBounds_toArray, List.set_cons_zero, List.set_cons_succ])
          refine wpAnyH_ready (rs := [11]) (by kernel_rfl) (by simp) ?_
          refine AllReadyH.cons rfl (fun K hK => ?_) AllReadyH.nil
          go_simp
          refine hK.out _ _ ?_ (fun hT2 => ?_)
          · ((try dsimp only); go_keep)
          clear hK K
          (try simp only [Act.put, List.setIfInBounds_toArray, List.set_cons_zero, List.set_cons_succ])
          refine wpAnyH_take (i := 12) (v := ?_) rfl (by kernel_rfl) (by kernel_rfl) (by kernel_rfl) (fun _ _ _ h => h) (Or.inl ⟨by rfl, ?_⟩) (by assumption) ?_
          rotate_left
          · (intro wS hSw; (try dsimp only at hSw); go_simp; (try with_reducible rfl))
          (try simp only [Act.put, List.setIfInBounds_toArray, List.set_cons_zero, List.set_cons_succ])
          refine wpAnyH_done (by kernel_rfl) ?_ _
          (try simp only [List.getElem_toArray, List.getElem_cons_zero, List.getElem_cons_succ, Act.put, List.setIfInBounds_toArray, List.set_cons_zero, List.set_cons_succ])
          have n8s := (((ne219.set 0 (.bool (ineg Q))).set 1 (.string (imag Q))).setOther (a := ⟨b9, 0, none⟩) m5 (.bool (ineg r))).setOther (a := ⟨b9, 1, none⟩) m5 (.string (imag r))
          have sfin := (((sd218.setCell (p := ⟨b8, 0, none⟩) (show wo.heap.size ≤ b8 by omega) (.bool (ineg Q))).setCell (p := ⟨b8, 1, none⟩) (show wo.heap.size ≤ b8 by omega) (.string (imag Q))).setCell (p := ⟨b9, 0, none⟩) (show wo.heap.size ≤ b9 by omega) (.bool (ineg r))).setCell (p := ⟨b9, 1, none⟩) (show wo.heap.size ≤ b9 by omega) (.string (imag r))
          obtain ⟨wz, hwz⟩ : ∃ wz, (((wd216.setCell ⟨b8, 0, none⟩ (.bool (ineg Q))).setCell ⟨b8, 1, none⟩ (.string (imag Q))).setCell ⟨b9, 0, none⟩ (.bool (ineg r))).setCell ⟨b9, 1, none⟩ (.string (imag r)) = wz := ⟨_, rfl⟩
          rw [hwz] at n8s sfin
          (try rw [hwz])
          clear hwz u0 u1 u2 u3 v0 v1 v2 v3
          have g0 := n8s.cell (j := 0) rfl
          have g1 := n8s.cell (j := 1) rfl
          have i3z := I3.out.keep sfin
          have k0 := i3z.frozen 0
          have k1 := i3z.frozen 1
          have k2 := i3z.cell (j := 0) rfl
          have k3 := i3z.cell (j := 1) rfl
          have hb5 := ((I4.out.trans (sfin.mono I4.out.size)).setCell (p := ⟨w.heap.size + 1, 0, none⟩) (show w.heap.size ≤ w.heap.size + 1 by omega) (.bool (ineg Q))).setCell (p := ⟨w.heap.size + 1, 1, none⟩) (show w.heap.size ≤ w.heap.size + 1 by omega) (.string (imag Q))
          have i3f := (i3z.set 0 (.bool (ineg Q))).set 1 (.string (imag Q))
          have e0 := i3f.cell (j := 0) rfl
          have e1 := i3f.cell (j := 1) rfl
          have HB5 := Lib.hid hb5; clear hb5
          clear i3z i3f n8s sfin
          go_wp2_with fail
          refine bodyPost_ret (v := .tuple #[IntV Q, .int .i64 0]) (by simp [results, Tryz.results17, go_sem, e0, e1, IntV]) rfl ⟨HB5.out, rfl⟩
/-- The reference's number of orbits. -/
theorem rorbits_ok (L : Int) (S : Nat) (es : List E3) (v : Value) (P : Nat → Nat) (hc : chk L (S : Int) es = 0) (hS : S ≤ 32) (hP1 : ∀ d, 0 < d → d ∣ P d) (hP2 : ∀ n, 0 < n → clN es S n = dS P n (n + 1)) (n : Nat) :
    1 ≤ n → n ≤ 100 → ∀ w, Row w v es.length (ce es) → Calls Tryz.prog 17 #[.agg #[.int .i64 L, .int .i64 (S : Int), v], .int .i64 (n : Int)] w (Ret w (.tuple #[IntV ((P n / n : Nat) : Int), .int .i64 0])) := by
  induction n using Nat.strongRecOn with
  | _ n ih => exact fun h1 h2 w hr => rorbits_step L S n es v P w hr hc hS h1 h2 hP1 hP2 (fun d hd1 hd2 w' h => ih d hd2 hd1 (by omega) w' h)
end Go.Proofs.YthpgeeaccmgbkaaGreat


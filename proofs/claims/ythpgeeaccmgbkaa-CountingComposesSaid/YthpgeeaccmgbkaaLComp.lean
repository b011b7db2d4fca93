/- The law CountingComposes. -/
import Derived.Deep.QuietTactic
import Derived.Test.YthpgeeaccmgbkaaFin22
import Derived.Test.YthpgeeaccmgbkaaPart8
import Derived.Test.YthpgeeaccmgbkaaPaths
import Derived.Test.YthpgeeaccmgbkaaPart9
import Derived.Test.YthpgeeaccmgbkaaAwk22
import Derived.Test.YthpgeeaccmgbkaaPart13
namespace Go.Proofs.Ythpgeeaccmgbkaa
open Go.RowKit

theorem pth_sm {es : List E3} (hl : es.length ≤ 1024) (n : Nat) (s t : Int) : sm (2 * n + 1) (pth es n s t) := by
  rw [pth_eq]; exact cw_sm hl _ n s
theorem mid_sm {es : List E3} (hl : es.length ≤ 1024) (a b : Nat) (s t : Int) {k : Nat} (hk : k ≤ 255) : sm (2 * a + 1 + (2 * b + 1) + 1) (mid es a b s t k) := by
  unfold mid
  refine sm_sum' (fun z hz => ?_) (by simpa using hk)
  obtain ⟨j, -, rfl⟩ := List.mem_map.1 hz
  exact (pth_sm hl a _ _).mul (pth_sm hl b _ _)
set_option maxRecDepth 100000 in
set_option maxHeartbeats 6400000 in
theorem lcomp_all (L S : Int) (es : List E3) (v : Value) (a1 a2 a3 a4 : Nat) (w : World) (hr : Row w v es.length (ce es)) (hok : okEs es) (h1 : a1 ≤ 255) (h2 : a2 ≤ 255) (h3 : a3 ≤ 255) (h4 : a4 ≤ 255) :
    Calls Try.prog 4 #[.agg #[.int .i64 L, .int .i64 S, v], .int .u8 (a1 : Int), .int .u8 (a2 : Int), .int .u8 (a3 : Int), .int .u8 (a4 : Int)] w (Ret w (.bool true)) := by
  obtain ⟨va, vc, rfl, hle⟩ := hr.slice
  obtain ⟨mz, hmz⟩ : ∃ mz, mz = es.length := ⟨_, rfl⟩
  have s0 := (Below.refl w.heap.size w).alloc (Nat.le_refl _) (.cells #[.int .i64 L, .int .i64 S, .slice va es.length vc] 24)
  have b0 := Blk.new w 24 [.int .i64 L, .int .i64 S, .slice va es.length vc]
  have hr0 := hr.below s0 (Nat.le_refl _)
  have hfi := fine22_any L S es _ _ hr0
  have haw := awake22_true
  have hpa := fun (k x y n : Nat) (hc : chk L (k : Int) es = 0) (hx : x < k) (hy : y < k) (hn : n ≤ 30) w' (h : Row w' (.slice va es.length vc) es.length (ce es)) => paths_ok L k x y n es _ w' h hok hc hx hy (by omega)
  rw [← hmz] at s0 b0 hr0 hfi hpa
  have HMM := Lib.hid hmz; clear hmz
  have HFI := Lib.hid hfi; clear hfi
  have HAW := Lib.hid haw; clear haw
  have HPA := Lib.hid hpa; clear hpa
  have S0 := Lib.hid s0; clear s0
  have B0 := Lib.hid b0; clear b0
  have HR := Lib.hid hr0; clear hr0
  clear hr
  go_enter Try.func4, Try.ntmps4
  rw [← HMM.out]
  go_wp2_with fail
  go_at_call 9
  refine HFI.out.mono ?_
  rintro e w1 ⟨hq, b, rfl, hb⟩
  have s1 := S0.out.trans (hq.mono S0.out.size)
  have hr1 := HR.out.below hq (Nat.le_refl _)
  have tk := B0.out.keep hq; have x0 := tk.cell (j := 0) rfl; have x1 := tk.cell (j := 1) rfl; have x2 := tk.cell (j := 2) rfl; have C0 := Lib.hid tk; clear tk
  have S1 := Lib.hid s1; clear s1
  have HR1 := Lib.hid hr1; clear hr1
  clear hq
  cases b with
  | false =>
    go_wp2_with fail
    go_at_call 10
    refine (HAW.out _).mono ?_
    rintro e w2 ⟨hq, rfl⟩
    have HQ := Lib.hid hq; clear hq
    go_wp2_with fail
    go_ret
    exact ⟨S1.out.trans (HQ.out.mono S1.out.size), rfl⟩
  | true =>
    obtain ⟨hchk, hS8, hlen⟩ := hb rfl
    obtain ⟨k, rfl⟩ : ∃ k : Nat, S = k := ⟨S.toNat, by have := chk_all hchk; omega⟩
    by_cases hk0 : k = 0
    · have t0 : ((k : Int) == 0) = true := by simp [hk0]
      clear hb
      go_wp2_with fail
      go_at_call 10
      refine (HAW.out _).mono ?_
      rintro e w2 ⟨hq, rfl⟩
      have HQ := Lib.hid hq; clear hq
      go_wp2_with fail
      go_ret
      exact ⟨S1.out.trans (HQ.out.mono S1.out.size), rfl⟩
    · have t0 : ((k : Int) == 0) = false := by simp; omega
      have hk8 : k ≤ 8 := by omega
      obtain ⟨s, hs⟩ : ∃ s, s = a1 % k := ⟨_, rfl⟩
      obtain ⟨t, ht⟩ : ∃ t, t = a2 % k := ⟨_, rfl⟩
      obtain ⟨n, hn⟩ : ∃ n, n = a3 % 16 := ⟨_, rfl⟩
      obtain ⟨m, hm⟩ : ∃ m, m = a4 % 16 := ⟨_, rfl⟩
      have hsk : s < k := by rw [hs]; exact Nat.mod_lt _ (by omega)
      have htk : t < k := by rw [ht]; exact Nat.mod_lt _ (by omega)
      have hn16 : n < 16 := by omega
      have hm16 : m < 16 := by omega
      have r1 : Int.tmod (a1 : Int) (k : Int) = (s : Int) := by rw [Int.tmod_eq_emod_of_nonneg (by omega), ← Int.natCast_emod, ← hs]
      have r2 : Int.tmod (a2 : Int) (k : Int) = (t : Int) := by rw [Int.tmod_eq_emod_of_nonneg (by omega), ← Int.natCast_emod, ← ht]
      have r3 : (a3 : Int) % 16 = (n : Int) := by omega
      have r4 : (a4 : Int) % 16 = (m : Int) := by omega
      have hkn : ¬ (k : Int) = 0 := by omega
      have hof := fun w' => iof_any 0 w' (by decide) (by decide)
      have hp1 := fun (u : Nat) (hu : u < k) => HPA.out k s u n hchk hsk hu (by omega)
      have hp2 := fun (u : Nat) (hu : u < k) => HPA.out k u t m hchk hu htk (by omega)
      have hp3 := HPA.out k s t (n + m) hchk hsk htk (by omega)
      have hmf := mid_full (chk_inS hchk) n m s t hsk
      have hms := fun (j : Nat) (hj : j ≤ 255) => mid_sm (es := es) (by omega) n m (s : Int) t hj
      have hps1 := fun (u : Nat) => pth_sm (es := es) (by omega) n (s : Int) u
      have hps2 := fun (u : Nat) => pth_sm (es := es) (by omega) m (u : Int) t
      have R3 := Lib.hid r3; clear r3
      have R4 := Lib.hid r4; clear r4
      have HOF := Lib.hid hof; clear hof
      have HP1 := Lib.hid hp1; clear hp1
      have HP2 := Lib.hid hp2; clear hp2
      have HP3 := Lib.hid hp3; clear hp3
      have HMF := Lib.hid hmf; clear hmf
      have HMS := Lib.hid hms; clear hms
      have HPS1 := Lib.hid hps1; clear hps1
      have HPS2 := Lib.hid hps2; clear hps2
      clear hb hchk hs ht hn hm hlen
      go_wp2_with fail
      go_quiet (fail)
      go_wp2_with fail
      rw [R3.out, R4.out]
      have hms1 := fun (j : Nat) => mid_succ es n m (s : Int) t j
      have HMD := Lib.hid hms1; clear hms1
      go_at_call 11
      refine (HOF.out _).mono ?_
      rintro e w2 ⟨hq0, rfl⟩
      have hdr := below_drewN (Below.refl w1.heap.size w1) nq
      have hq := hdr.trans (hq0.mono hdr.size)
      clear hq0 hdr
      have bB := Blk.new w2 28 [.bool (ineg 0), .string (imag 0)]
      have s2 := S1.out.trans (hq.mono S1.out.size)
      have hr2 := HR1.out.below hq (Nat.le_refl _)
      have d2 := C0.out.keep hq
      have hG2 := d2.lt
      have bel0 := (Below.refl w2.heap.size w2).alloc (Nat.le_refl _) (.cells #[.bool (ineg 0), .string (imag 0)] 28)
      clear x0 x1 x2 hq
      have d3 := d2.below bel0 hG2
      have x0 := d3.cell (j := 0) rfl
      have x1 := d3.cell (j := 1) rfl
      have x2 := d3.cell (j := 2) rfl
      have S2 := Lib.hid s2; clear s2
      have HR2 := Lib.hid hr2; clear hr2
      have D2 := Lib.hid d2; clear d2
      have BB := Lib.hid bB; clear bB
      have BEL0 := Lib.hid bel0; clear bel0
      clear d3
      go_wp2_with fail
      go_loopw [51] (fun i wr => ∃ j : Nat, j ≤ k ∧ i = .int .i64 j ∧ Below w2.heap.size w2 wr ∧ Blk wr w2.heap.size 28 [.bool (ineg (mid es n m s t j)), .string (imag (mid es n m s t j))]) (fun i _ => k - (intOf i).toNat)
      case atStart =>
        exact ⟨0, Nat.zero_le _, rfl, BEL0.out, by rw [mid_zero]; exact BB.out⟩
      case round =>
        obtain ⟨j, hj, rfl, hbel, hblk⟩ := hrel
        have hblt := hblk.lt
        have d4 := D2.out.below hbel hG2
        have hr4 := HR2.out.below hbel (Nat.le_refl _)
        clear x0 x1 x2
        have x0 := d4.cell (j := 0) rfl
        have x1 := d4.cell (j := 1) rfl
        have x2 := d4.cell (j := 2) rfl
        by_cases hjk : j < k
        · have tj : decide ((j : Int) < (k : Int)) = true := by simp; omega
          have hP1 := HP1.out j hjk
          have hP2 := HP2.out j hjk
          have hsX := HPS1.out j
          have hsY := HPS2.out j
          have hsM := HMS.out j (by omega)
          have hMd := HMD.out j
          obtain ⟨X, hX⟩ : ∃ X, X = pth es n (s : Int) (j : Int) := ⟨_, rfl⟩
          obtain ⟨Y, hY⟩ : ∃ Y, Y = pth es m (j : Int) (t : Int) := ⟨_, rfl⟩
          obtain ⟨M, hM⟩ : ∃ M, M = mid es n m s t j := ⟨_, rfl⟩
          rw [← hX] at hP1 hsX hMd
          rw [← hY] at hP2 hsY hMd
          rw [← hM] at hblk hsM hMd
          have hMS := hMd.symm
          clear HMS
          have hmul := fun w' => imulV X Y w' (Nat.le_trans hsX.size (by omega)) (Nat.le_trans hsY.size (by omega))
          have hsXY := hsX.mul hsY
          have hadd := fun w' => iadd_any (ineg M) (ineg (X * Y)) (imag M) (imag (X * Y)) w' (Nat.le_trans hsM.size (by omega)) (Nat.le_trans hsXY.size (by omega))
          simp only [ival_canon] at hadd
          have HQ1 := Lib.hid hP1; clear hP1
          have HQ2 := Lib.hid hP2; clear hP2
          have HMS := Lib.hid hMS; clear hMS
          have HMUL := Lib.hid hmul; clear hmul
          have HADD := Lib.hid hadd; clear hadd
          have HR4 := Lib.hid hr4; clear hr4
          have D4 := Lib.hid d4; clear d4
          have HBK := Lib.hid hblk; clear hblk
          have HBE := Lib.hid hbel; clear hbel
          clear hsX hsY hsM hsXY hMd hX hY hM
          go_wp2_with fail
          go_at_call 17
          refine (HQ1.out _ HR4.out).mono ?_
          rintro e w4 ⟨hq, rfl⟩
          have bA := Blk.new w4 28 [.bool (ineg X), .string (imag X)]
          have s4 : Below wr.heap.size wr (w4.alloc (.cells #[.bool (ineg X), .string (imag X)] 28)) := hq.alloc hq.size _
          obtain ⟨A, hA⟩ : ∃ A, A = w4.heap.size := ⟨_, rfl⟩
          have hAw : wr.heap.size ≤ A := by rw [hA]; exact hq.size
          clear x0 x1 x2
          have d5 := D4.out.keep s4
          have hr5 := HR4.out.below s4 (Nat.le_refl _)
          have k5 := HBK.out.keep s4
          have x0 := d5.cell (j := 0) rfl
          have x1 := d5.cell (j := 1) rfl
          have x2 := d5.cell (j := 2) rfl
          have D5 := Lib.hid d5; clear d5
          have HR5 := Lib.hid hr5; clear hr5
          have BA := Lib.hid bA; clear bA
          have S4 := Lib.hid s4; clear s4
          have K5 := Lib.hid k5; clear k5
          clear hq
          go_wp2_with fail
          go_at_call 17
          refine (HQ2.out _ HR5.out).mono ?_
          rintro e w5 ⟨hq, rfl⟩
          have bC := Blk.new w5 28 [.bool (ineg Y), .string (imag Y)]
          have s5 := S4.out.trans ((hq.alloc hq.size (.cells #[.bool (ineg Y), .string (imag Y)] 28)).mono S4.out.size)
          have k6 := K5.out.keep (hq.alloc hq.size (.cells #[.bool (ineg Y), .string (imag Y)] 28))
          have a6 := BA.out.keep (hq.alloc hq.size (.cells #[.bool (ineg Y), .string (imag Y)] 28))
          obtain ⟨wv, hwv⟩ : ∃ wv, w5.alloc (.cells #[.bool (ineg Y), .string (imag Y)] 28) = wv := ⟨_, rfl⟩
          rw [hwv] at bC s5 k6 a6
          obtain ⟨C, hC⟩ : ∃ C, C = w5.heap.size := ⟨_, rfl⟩
          rw [← hA] at a6
          rw [← hC] at bC
          have hal := a6.lt
          have hcl := bC.lt
          have hkl := k6.lt
          have hBV := HBE.out.trans (s5.mono HBE.out.size)
          have hAC : A < C := by
            have h9 := BA.out.lt
            have h8 := hq.size
            omega
          have ne1 : ¬ w2.heap.size = A := by omega
          have ne2 : ¬ A = w2.heap.size := by omega
          have ne3 : ¬ w2.heap.size = C := by omega
          have ne4 : ¬ C = w2.heap.size := by omega
          clear x0 x1 x2 hq
          have cM0 := k6.cell (j := 0) rfl
          have cM1 := k6.cell (j := 1) rfl
          have a0 := a6.cell (j := 0) rfl
          have a1' := a6.cell (j := 1) rfl
          have c0 := bC.cell (j := 0) rfl
          have c1 := bC.cell (j := 1) rfl
          have HNB := Lib.hid k6.drew
          have HBV := Lib.hid hBV; clear hBV
          clear k6 a6 bC s5
          go_wp2_with fail
          (try rw [hwv])
          (try rw [← hA])
          (try rw [← hC])
          clear hwv hA hC
          refine wp_region_held_drew (S := fun w' => w'.cell? ⟨A, 0, none⟩ = some (.bool (ineg X)) ∧ w'.cell? ⟨A, 1, none⟩ = some (.string (imag X)) ∧ w'.cell? ⟨C, 0, none⟩ = some (.bool (ineg Y)) ∧ w'.cell? ⟨C, 1, none⟩ = some (.string (imag Y))) (by kernel_rfl) ?_ (fun hHeld => ?_)
          · go_keep
          refine wpAnyH_take (i := 1) (v := ?_) rfl (by kernel_rfl) (by kernel_rfl) (by kernel_rfl) (fun _ _ _ h => h) (Or.inl ⟨by rfl, ?_⟩) (by assumption) ?_
          rotate_left
          · (intro wS hSw; (try dsimp only at hSw); go_simp; (try with_reducible rfl))
          (try simp only [Act.put, List.setIfInBounds_toArray, List.set_cons_zero, List.set_cons_succ])
          refine wpAnyH_take (i := 2) (v := ?_) rfl (by kernel_rfl) (by kernel_rfl) (by kernel_rfl) (fun _ _ _ h => h) (Or.inl ⟨by rfl, ?_⟩) (by assumption) ?_
          rotate_left
          · (intro wS hSw; (try dsimp only at hSw); go_simp; (try with_reducible rfl))
          (try simp only [Act.put, List.setIfInBounds_toArray, List.set_cons_zero, List.set_cons_succ])
          refine wpAnyH_ready (rs := [0, 3]) (by kernel_rfl) (by simp) ?_
          refine AllReadyH.cons rfl (fun K hK => ?_) (AllReadyH.cons rfl (fun K hK => ?_) AllReadyH.nil)
          · go_simp
            refine hK.out _ _ ?_ (fun hHa => ?_)
            · ((try dsimp only); go_keep)
            clear hK K
            (try simp only [Act.put, List.setIfInBounds_toArray, List.set_cons_zero, List.set_cons_succ])
            refine wpAnyH_ready (rs := [3]) (by kernel_rfl) (by simp) ?_
            refine AllReadyH.cons rfl (fun K hK => ?_) AllReadyH.nil
            go_simp
            go_at_call 15
            refine (HMUL.out _).mono ?_
            rintro e' w6 ⟨hq, rfl⟩
            dsimp only
            have z0 := (hq.cell (p := ⟨A, 0, none⟩) (show A < wv.heap.size by omega)).trans hHa.1
            have z1 := (hq.cell (p := ⟨A, 1, none⟩) (show A < wv.heap.size by omega)).trans hHa.2.1
            have z2 := (hq.cell (p := ⟨C, 0, none⟩) (show C < wv.heap.size by omega)).trans hHa.2.2.1
            have z3 := (hq.cell (p := ⟨C, 1, none⟩) (show C < wv.heap.size by omega)).trans hHa.2.2.2
            refine hK.out _ _ ⟨z0, z1, z2, z3⟩ (fun hHb => ?_)
            clear hK K z0 z1 z2 z3
            (try simp only [Act.put, List.setIfInBounds_toArray, List.set_cons_zero, List.set_cons_succ])
            have s6 : Below wv.heap.size wv w6 := ((Below.refl wv.heap.size wv).drew).trans hq
            have n6 := Blk.keep (w := wv.drew) HNB.out hq
            have hl6 := s6.size
            clear hq cM0 cM1
            have cM0 := n6.cell (j := 0) rfl
            have cM1 := n6.cell (j := 1) rfl
            refine wpAnyH_ready (rs := [4]) (by kernel_rfl) (by simp) ?_
            refine AllReadyH.cons rfl (fun K hK => ?_) AllReadyH.nil
            go_simp
            go_at_call 14
            refine (HADD.out _).mono ?_
            rintro e' w7 ⟨hq, rfl⟩
            dsimp only
            have z0 := (hq.cell (p := ⟨A, 0, none⟩) (show A < w6.heap.size by omega)).trans hHb.1
            have z1 := (hq.cell (p := ⟨A, 1, none⟩) (show A < w6.heap.size by omega)).trans hHb.2.1
            have z2 := (hq.cell (p := ⟨C, 0, none⟩) (show C < w6.heap.size by omega)).trans hHb.2.2.1
            have z3 := (hq.cell (p := ⟨C, 1, none⟩) (show C < w6.heap.size by omega)).trans hHb.2.2.2
            refine hK.out _ _ ⟨z0, z1, z2, z3⟩ (fun hHc => ?_)
            clear hK K z0 z1 z2 z3
            (try simp only [Act.put, List.setIfInBounds_toArray, List.set_cons_zero, List.set_cons_succ])
            have s7 := s6.trans (hq.mono s6.size)
            have n7 := n6.keep hq
            have hl7 := s7.size
            have fr0 := n7.frozen 0
            have fr1 := n7.frozen 1
            clear cM0 cM1
            have cM0 := n7.cell (j := 0) rfl
            have cM1 := n7.cell (j := 1) rfl
            have n8 := (n7.set 0 (.bool (ineg (M + X * Y)))).set 1 (.string (imag (M + X * Y)))
            clear hq n6 n7
            have N8 := Lib.hid n8; clear n8
            have S7 := Lib.hid s7; clear s7
            refine wpAnyH_ready (rs := [5]) (by kernel_rfl) (by simp) ?_
            refine AllReadyH.cons rfl (fun K hK => ?_) AllReadyH.nil
            go_simp
            refine hK.out _ _ ?_ (fun hH9 => ?_)
            · ((try dsimp only); go_keep)
            clear hK K
            (try simp only [Act.put, List.setIfInBounds_toArray, List.set_cons_zero, List.set_cons_succ])
            refine wpAnyH_done (by kernel_rfl) ?_ _
            (try simp only [List.getElem_toArray, List.getElem_cons_zero, List.getElem_cons_succ, Act.put, List.setIfInBounds_toArray, List.set_cons_zero, List.set_cons_succ])
            clear hH9
            go_wp2_with fail
            go_roundw
            case rel => exact ⟨j + 1, by omega, by go_num, ((HBV.out.trans (S7.out.mono HBV.out.size)).setCell (p := ⟨w2.heap.size, 0, none⟩) (Nat.le_refl _) _).setCell (p := ⟨w2.heap.size, 1, none⟩) (Nat.le_refl _) _, by rw [← HMS.out]; exact N8.out⟩
            case measure => simp [intOf]; omega
          · go_simp
            go_at_call 15
            refine (HMUL.out _).mono ?_
            rintro e' w6 ⟨hq, rfl⟩
            dsimp only
            have z0 := (hq.cell (p := ⟨A, 0, none⟩) (show A < wv.heap.size by omega)).trans hHeld.1
            have z1 := (hq.cell (p := ⟨A, 1, none⟩) (show A < wv.heap.size by omega)).trans hHeld.2.1
            have z2 := (hq.cell (p := ⟨C, 0, none⟩) (show C < wv.heap.size by omega)).trans hHeld.2.2.1
            have z3 := (hq.cell (p := ⟨C, 1, none⟩) (show C < wv.heap.size by omega)).trans hHeld.2.2.2
            refine hK.out _ _ ⟨z0, z1, z2, z3⟩ (fun hHa => ?_)
            clear hK K z0 z1 z2 z3
            (try simp only [Act.put, List.setIfInBounds_toArray, List.set_cons_zero, List.set_cons_succ])
            have s6 : Below wv.heap.size wv w6 := ((Below.refl wv.heap.size wv).drew).trans hq
            have n6 := Blk.keep (w := wv.drew) HNB.out hq
            have hl6 := s6.size
            clear hq cM0 cM1
            have cM0 := n6.cell (j := 0) rfl
            have cM1 := n6.cell (j := 1) rfl
            refine wpAnyH_ready (rs := [0]) (by kernel_rfl) (by simp) ?_
            refine AllReadyH.cons rfl (fun K hK => ?_) AllReadyH.nil
            go_simp
            refine hK.out _ _ ?_ (fun hHb => ?_)
            · ((try dsimp only); go_keep)
            clear hK K
            (try simp only [Act.put, List.setIfInBounds_toArray, List.set_cons_zero, List.set_cons_succ])
            refine wpAnyH_ready (rs := [4]) (by kernel_rfl) (by simp) ?_
            refine AllReadyH.cons rfl (fun K hK => ?_) AllReadyH.nil
            go_simp
            go_at_call 14
            refine (HADD.out _).mono ?_
            rintro e' w7 ⟨hq, rfl⟩
            dsimp only
            have z0 := (hq.cell (p := ⟨A, 0, none⟩) (show A < w6.heap.size by omega)).trans hHb.1
            have z1 := (hq.cell (p := ⟨A, 1, none⟩) (show A < w6.heap.size by omega)).trans hHb.2.1
            have z2 := (hq.cell (p := ⟨C, 0, none⟩) (show C < w6.heap.size by omega)).trans hHb.2.2.1
            have z3 := (hq.cell (p := ⟨C, 1, none⟩) (show C < w6.heap.size by omega)).trans hHb.2.2.2
            refine hK.out _ _ ⟨z0, z1, z2, z3⟩ (fun hHc => ?_)
            clear hK K z0 z1 z2 z3
            (try simp only [Act.put, List.setIfInBounds_toArray, List.set_cons_zero, List.set_cons_succ])
            have s7 := s6.trans (hq.mono s6.size)
            have n7 := n6.keep hq
            have hl7 := s7.size
            have fr0 := n7.frozen 0
            have fr1 := n7.frozen 1
            clear cM0 cM1
            have cM0 := n7.cell (j := 0) rfl
            have cM1 := n7.cell (j := 1) rfl
            have n8 := (n7.set 0 (.bool (ineg (M + X * Y)))).set 1 (.string (imag (M + X * Y)))
            clear hq n6 n7
            have N8 := Lib.hid n8; clear n8
            have S7 := Lib.hid s7; clear s7
            refine wpAnyH_ready (rs := [5]) (by kernel_rfl) (by simp) ?_
            refine AllReadyH.cons rfl (fun K hK => ?_) AllReadyH.nil
            go_simp
            refine hK.out _ _ ?_ (fun hH9 => ?_)
            · ((try dsimp only); go_keep)
            clear hK K
            (try simp only [Act.put, List.setIfInBounds_toArray, List.set_cons_zero, List.set_cons_succ])
            refine wpAnyH_done (by kernel_rfl) ?_ _
            (try simp only [List.getElem_toArray, List.getElem_cons_zero, List.getElem_cons_succ, Act.put, List.setIfInBounds_toArray, List.set_cons_zero, List.set_cons_succ])
            clear hH9
            go_wp2_with fail
            go_roundw
            case rel => exact ⟨j + 1, by omega, by go_num, ((HBV.out.trans (S7.out.mono HBV.out.size)).setCell (p := ⟨w2.heap.size, 0, none⟩) (Nat.le_refl _) _).setCell (p := ⟨w2.heap.size, 1, none⟩) (Nat.le_refl _) _, by rw [← HMS.out]; exact N8.out⟩
            case measure => simp [intOf]; omega
        · have tj : decide ((j : Int) < (k : Int)) = false := by simp; omega
          have hP3 := HP3.out
          obtain ⟨Z, hZ⟩ : ∃ Z, Z = pth es (n + m) (s : Int) (t : Int) := ⟨_, rfl⟩
          rw [show j = k by omega, HMF.out, ← hZ] at hblk
          rw [← hZ, Int.natCast_add] at hP3
          have heq : ∀ w', (binOp .eql 28 (.agg #[.bool (ineg Z), .string (imag Z)]) (.agg #[.bool (ineg Z), .string (imag Z)])).run Try.prog w' = .ok (.bool true) w' := fun w' => by rw [eql_int, beq_toListBytes]; simp
          have hnm : IntKind.i64.wrap ((n : Int) + (m : Int)) = (n : Int) + m := IntWalk.i64_in _ (by omega)
          have HQ3 := Lib.hid hP3; clear hP3
          have HR4 := Lib.hid hr4; clear hr4
          have HBK := Lib.hid hblk; clear hblk
          have HBE := Lib.hid hbel; clear hbel
          clear d4 hZ
          go_wp2_with fail
          go_at_call 17
          refine (HQ3.out _ HR4.out).mono ?_
          rintro e w4 ⟨hq, rfl⟩
          have bA := Blk.new w4 28 [.bool (ineg Z), .string (imag Z)]
          have s4 : Below wr.heap.size wr (w4.alloc (.cells #[.bool (ineg Z), .string (imag Z)] 28)) := hq.alloc hq.size _
          have k5 := HBK.out.keep s4
          have c0 := k5.cell (j := 0) rfl
          have c1 := k5.cell (j := 1) rfl
          have y0 := bA.cell (j := 0) rfl
          have y1 := bA.cell (j := 1) rfl
          have hfin := S2.out.trans ((HBE.out.trans (s4.mono HBE.out.size)).mono S2.out.size)
          have HFIN := Lib.hid hfin; clear hfin
          clear hq s4 k5 bA x0 x1 x2
          go_wp2_with fail
          go_at_call 10
          refine (HAW.out _).mono ?_
          rintro e w6 ⟨hq, rfl⟩
          have HQ := Lib.hid hq; clear hq
          go_wp2_with fail
          go_ret
          exact ⟨HFIN.out.trans (HQ.out.mono HFIN.out.size), rfl⟩
end Go.Proofs.Ythpgeeaccmgbkaa

/- The law CountingSeries. -/
import Derived.Deep.QuietTactic
import Derived.Deep.RegionHeld3
import Derived.Test.YthpgeeaccmgbkaaFin22
import Derived.Test.YthpgeeaccmgbkaaPart12
import Derived.Test.YthpgeeaccmgbkaaExpO
import Derived.Test.YthpgeeaccmgbkaaAwk22
namespace Go.Proofs.Ythpgeeaccmgbkaa
open Go.RowKit

theorem serD_sm {es : List E3} (hl : es.length ≤ 1024) {S : Nat} (hS : S ≤ 32) : ∀ z ∈ serD es S, sm (5 * S + 1) z := fun z hz =>
  pL_sm (by omega) (fun j hj => ((ch_sm hl hS j).2).mono (by omega)) _ z (List.mem_reverse.1 hz)
theorem serN_sm {es : List E3} (hl : es.length ≤ 1024) {S : Nat} (hS : S ≤ 32) (s : Nat) : ∀ z ∈ serN es S s, sm (5 * S + 1 + (2 * S + 1) + 1) z :=
  numL_sm (serD_sm hl hS) (bL_sm hl s S) (by omega)
set_option maxRecDepth 100000 in
set_option maxHeartbeats 8000000 in
theorem lser_all (L S : Int) (es : List E3) (v : Value) (a1 : Nat) (w : World) (hr : Row w v es.length (ce es)) (hok : okEs es) (h1 : a1 ≤ 255) :
    Calls Try.prog 5 #[.agg #[.int .i64 L, .int .i64 S, v], .int .u8 (a1 : Int)] w (Ret w (.bool true)) := by
  obtain ⟨va, vc, rfl, hle⟩ := hr.slice
  obtain ⟨mz, hmz⟩ : ∃ mz, mz = es.length := ⟨_, rfl⟩
  have s0 := (Below.refl w.heap.size w).alloc (Nat.le_refl _) (.cells #[.int .i64 L, .int .i64 S, .slice va es.length vc] 24)
  have b0 := Blk.new w 24 [.int .i64 L, .int .i64 S, .slice va es.length vc]
  have hr0 := hr.below s0 (Nat.le_refl _)
  have hfi := fine22_any L S es _ _ hr0
  have haw := awake22_true
  have hser := fun (k x : Nat) (hc : chk L (k : Int) es = 0) (hS : k ≤ 32) (hx : x < k) w' (h : Row w' (.slice va es.length vc) es.length (ce es)) => series_q L k x es _ w' h hok hc hS hx
  have hfro := fun (k n : Nat) (hc : chk L (k : Int) es = 0) (hn : n ≤ 4096) w' (h : Row w' (.slice va es.length vc) es.length (ce es)) => cfrom_ok L k n es _ w' h hok hc hn
  rw [← hmz] at s0 b0 hr0 hfi hser hfro
  have HMM := Lib.hid hmz; clear hmz
  have HFI := Lib.hid hfi; clear hfi
  have HAW := Lib.hid haw; clear haw
  have HSER := Lib.hid hser; clear hser
  have HFRO := Lib.hid hfro; clear hfro
  have S0 := Lib.hid s0; clear s0
  have B0 := Lib.hid b0; clear b0
  have HR := Lib.hid hr0; clear hr0
  clear hr
  go_enter Try.func5, Try.ntmps5
  rw [← HMM.out]
  go_wp2_with fail
  go_at_call 9
  refine HFI.out.mono ?_
  rintro e w1 ⟨hq, b, rfl, hb⟩
  have s1 := S0.out.trans (hq.mono S0.out.size)
  have hr1 := HR.out.below hq (Nat.le_refl _)
  have tk := B0.out.keep hq; have x0 := tk.cell (j := 0) rfl; have x1 := tk.cell (j := 1) rfl; have x2 := tk.cell (j := 2) rfl; have C0 := Lib.hid tk; clear tk
  have S1 := Lib.hid s1; clear s1
  have HR1 := Lib.hid hr1; clear hr1
  clear hq
  cases b with
  | false =>
    go_wp2_with fail
    go_at_call 10
    refine (HAW.out _).mono ?_
    rintro e w2 ⟨hq, rfl⟩
    have HQ := Lib.hid hq; clear hq
    go_wp2_with fail
    go_ret
    exact ⟨S1.out.trans (HQ.out.mono S1.out.size), rfl⟩
  | true =>
    obtain ⟨hchk, hS8, hlen⟩ := hb rfl
    obtain ⟨k, rfl⟩ : ∃ k : Nat, S = k := ⟨S.toNat, by have := chk_all hchk; omega⟩
    by_cases hk0 : k = 0
    · have t0 : ((k : Int) == 0) = true := by simp [hk0]
      clear hb
      go_wp2_with fail
      go_at_call 10
      refine (HAW.out _).mono ?_
      rintro e w2 ⟨hq, rfl⟩
      have HQ := Lib.hid hq; clear hq
      go_wp2_with fail
      go_ret
      exact ⟨S1.out.trans (HQ.out.mono S1.out.size), rfl⟩
    · have t0 : ((k : Int) == 0) = false := by simp; omega
      have hk8 : k ≤ 8 := by omega
      obtain ⟨s, hs⟩ : ∃ s, s = a1 % k := ⟨_, rfl⟩
      have hsk : s < k := by rw [hs]; exact Nat.mod_lt _ (by omega)
      have r1 : Int.tmod (a1 : Int) (k : Int) = (s : Int) := by rw [Int.tmod_eq_emod_of_nonneg (by omega), ← Int.natCast_emod, ← hs]
      have hkn : ¬ (k : Int) = 0 := by omega
      have hin := chk_inS hchk
      have hsq := HSER.out k s hchk (by omega) hsk
      have hfq := fun (n : Nat) (hn : n ≤ 24) => HFRO.out k n hchk (by omega)
      have hl10 : es.length ≤ 1024 := by omega
      have hde := serD_sm hl10 (show k ≤ 32 by omega)
      have hne := serN_sm hl10 (show k ≤ 32 by omega) s
      have hDl : (tzI (serD es k)).length ≤ k + 1 := Nat.le_trans (tzI_len _) (by rw [serD_len]; exact Nat.le_refl _)
      have hNl : (tzI (serN es k s)).length ≤ k := Nat.le_trans (tzI_len _) (by rw [serN_len]; exact Nat.le_refl _)
      have hg0 : (tzI (serD es k)).getD 0 0 = 1 := by rw [tzI_getD, serD_getD, chC_zero]
      have hDp : 0 < (tzI (serD es k)).length := by
        rcases h : tzI (serD es k) with _ | ⟨x, t⟩
        · rw [h] at hg0; exact absurd hg0 (by decide)
        · simp
      have hD0 : (tzI (serD es k))[0]? = some 1 := by
        rw [List.getElem?_eq_getElem hDp]
        rw [List.getD_eq_getElem?_getD, List.getElem?_eq_getElem hDp] at hg0
        exact congrArg some hg0
      have hexp := fun v1 v2 w' h h' => expand_one (5 * k + 1 + (2 * k + 1) + 1) 24 (tzI (serN es k s)) (tzI (serD es k)) v1 v2 w' h h' (fun z hz => hne z (tzI_mem hz)) (fun z hz => (hde z (tzI_mem hz)).mono (by omega)) (by omega) (by omega) (by omega) hD0 (by omega)
      simp only [ser_exp hin hsk 24] at hexp
      have hgp : ∀ j, j < 24 → (pathL es s 24)[j]? = some (cw es allP j (s : Int)) := fun j hj => by simp [pathL, hj]
      have hgr : ∀ j, (rowK es k allP j)[s]? = some (cw es allP j (s : Int)) := fun j => rowK_get hsk
      obtain ⟨N, hN⟩ : ∃ N, N = serN es k s := ⟨_, rfl⟩
      obtain ⟨D, hD⟩ : ∃ D, D = serD es k := ⟨_, rfl⟩
      rw [← hN, ← hD] at hsq
      rw [← hD] at hDl hDp hD0
      rw [← hN] at hNl
      simp only [← hN, ← hD] at hexp
      obtain ⟨mN, hmN⟩ : ∃ m, m = (tzI N).length := ⟨_, rfl⟩
      obtain ⟨mD, hmD⟩ : ∃ m, m = (tzI D).length := ⟨_, rfl⟩
      rw [← hmN] at hNl
      rw [← hmD] at hDl hDp
      simp only [← hmN, ← hmD] at hexp
      have hof := fun w' => iof_any 1 w' (by decide) (by decide)
      have hneq1 : ∀ w', (binOp .neq 28 (.agg #[.bool (ineg 1), .string (imag 1)]) (.agg #[.bool (ineg 1), .string (imag 1)])).run Try.prog w' = .ok (.bool false) w' := fun w' => (neq_int 1 1 w').trans rfl
      have g1 : decide ((k : Int) < (mN : Int)) = false := by simp; omega
      have g2 : decide ((k : Int) + 1 < (mD : Int)) = false := by simp; omega
      have g3 : ((mD : Int) == 0) = false := by simp; omega
      have g4 : ¬ (k : Int) < (mN : Int) := by omega
      have g5 : ¬ (k : Int) + 1 < (mD : Int) := by omega
      have g6 : IntKind.i64.wrap ((k : Int) + 1) = (k : Int) + 1 := IntWalk.i64_in _ (by omega)
      have g7 : (0 : Int) < (mD : Int) := by omega
      have g8 : ((k : Int) != (k : Int)) = false := by simp
      rw [show ((24 : Nat) : Int) = 24 from rfl] at hexp
      have HSQ := Lib.hid hsq; clear hsq
      have HFQ := Lib.hid hfq; clear hfq
      have HEXP := Lib.hid hexp; clear hexp
      have HGP := Lib.hid hgp; clear hgp
      have HGR := Lib.hid hgr; clear hgr
      have HOF := Lib.hid hof; clear hof
      have HD0 := Lib.hid hD0; clear hD0
      have HMN := Lib.hid hmN; clear hmN
      have HMD := Lib.hid hmD; clear hmD
      clear hb hchk hs hlen hin hde hne hg0 hl10 hN hD
      go_wp2_with fail
      go_at_call 18
      refine (HSQ.out _ HR1.out).mono ?_
      rintro e w2 ⟨hq, va2, vb2, rfl, hra, hrb⟩
      rw [← HMN.out] at hra
      rw [← HMD.out] at hrb
      have s2 := S1.out.trans (hq.mono S1.out.size)
      have hr2 := HR1.out.below hq (Nat.le_refl _)
      have d2 := C0.out.keep hq
      have hexw := HEXP.out va2 vb2 w2 hra hrb
      obtain ⟨ua, uc, rfl, -⟩ := hra.slice
      obtain ⟨ub, ud, rfl, -⟩ := hrb.slice
      obtain ⟨b, off, rfl, hbw, hce⟩ := hrb.at_ (by omega)
      have S2 := Lib.hid s2; clear s2
      have HR2 := Lib.hid hr2; clear hr2
      have D2 := Lib.hid d2; clear d2
      have HEXW := Lib.hid hexw; clear hexw
      have HCE := Lib.hid hce; clear hce
      clear x0 x1 x2 hq hra hrb
      go_wp2_with fail
      go_at_call 19
      refine HEXW.out.mono ?_
      rintro e w3 ⟨hq, vo, rfl, hown⟩
      have s3 := S2.out.trans (hq.mono S2.out.size)
      have hr3 := HR2.out.below hq (Nat.le_refl _)
      have d3 := D2.out.keep hq
      have hG3 := d3.lt
      have hsz3 := hq.size
      obtain ⟨la, lc, rfl⟩ := own_slice hown
      have hrow := own_row hown
      obtain ⟨c0, c1⟩ := int_cells HCE.out hq hbw HD0.out
      rw [Nat.zero_mul, Nat.add_zero] at c0
      rw [Nat.zero_mul] at c1
      have x1 := d3.cell (j := 1) rfl
      have hb3 : b < w3.heap.size := by omega
      have sW := (Below.refl w3.heap.size w3).drew
      have S3 := Lib.hid s3; clear s3
      have HR3 := Lib.hid hr3; clear hr3
      have D3 := Lib.hid d3; clear d3
      have HROW := Lib.hid hrow; clear hrow
      clear hq hown
      go_wp2_with fail
      refine wp_region_held_drew (S := fun w' => w'.cell? ⟨w.heap.size, 1, none⟩ = some (.int .i64 (k : Int)) ∧ w'.cell? ⟨b, off, none⟩ = some (.bool (ineg 1)) ∧ w'.cell? ⟨b, off + (0 + 1), none⟩ = some (.string (imag 1))) (by kernel_rfl) ?_ (fun hHeld => ?_)
      · go_keep
      refine wpAnyH_take (i := 0) (v := ?_) rfl (by kernel_rfl) (by kernel_rfl) (by kernel_rfl) (fun _ _ _ h => h) (Or.inl ⟨by rfl, ?_⟩) (by assumption) ?_
      rotate_left
      · (intro wS hSw; (try dsimp only at hSw); go_simp; (try with_reducible rfl))
      (try simp only [Act.put, List.setIfInBounds_toArray, List.set_cons_zero, List.set_cons_succ])
      refine wpAnyH_take (i := 1) (v := ?_) rfl (by kernel_rfl) (by kernel_rfl) (by kernel_rfl) (fun _ _ _ h => h) (Or.inl ⟨by rfl, ?_⟩) (by assumption) ?_
      rotate_left
      · (intro wS hSw; (try dsimp only at hSw); go_simp; (try with_reducible rfl))
      (try simp only [Act.put, List.setIfInBounds_toArray, List.set_cons_zero, List.set_cons_succ])
      refine wpAnyH_take (i := 2) (v := ?_) rfl (by kernel_rfl) (by kernel_rfl) (by kernel_rfl) (fun _ _ _ h => h) (Or.inl ⟨by rfl, ?_⟩) (by assumption) ?_
      rotate_left
      · (intro wS hSw; (try dsimp only at hSw); go_simp; (try with_reducible rfl))
      (try simp only [Act.put, List.setIfInBounds_toArray, List.set_cons_zero, List.set_cons_succ])
      refine wpAnyH_take (i := 3) (v := ?_) rfl (by kernel_rfl) (by kernel_rfl) (by kernel_rfl) (fun _ _ _ h => h) (Or.inl ⟨by kernel_rfl, ?_⟩) (by assumption) ?_
      rotate_left
      · (intro wS hSw; (try dsimp only at hSw); go_simp; (try with_reducible rfl))
      (try simp only [Act.put, List.setIfInBounds_toArray, List.set_cons_zero, List.set_cons_succ])
      refine wpAnyH_take (i := 4) (v := ?_) rfl (by kernel_rfl) (by kernel_rfl) (by kernel_rfl) (fun _ _ _ h => h) (Or.inl ⟨by kernel_rfl, ?_⟩) (by assumption) ?_
      rotate_left
      · (intro wS hSw; (try dsimp only at hSw); go_simp; (try with_reducible rfl))
      (try simp only [Act.put, List.setIfInBounds_toArray, List.set_cons_zero, List.set_cons_succ])
      refine wpAnyH_take (i := 5) (v := ?_) rfl (by kernel_rfl) (by kernel_rfl) (by kernel_rfl) (fun _ _ _ h => h) (Or.inl ⟨by rfl, ?_⟩) (by assumption) ?_
      rotate_left
      · (intro wS hSw; (try dsimp only at hSw); go_simp; (try with_reducible rfl))
      (try simp only [Act.put, List.setIfInBounds_toArray, List.set_cons_zero, List.set_cons_succ])
      refine wpAnyH_take (i := 6) (v := ?_) rfl (by kernel_rfl) (by kernel_rfl) (by kernel_rfl) (fun _ _ _ h => h) (Or.inl ⟨by rfl, ?_⟩) (by assumption) ?_
      rotate_left
      · (intro wS hSw; (try dsimp only at hSw); go_simp; (try with_reducible rfl))
      (try simp only [Act.put, List.setIfInBounds_toArray, List.set_cons_zero, List.set_cons_succ])
      refine wpAnyH_take (i := 7) (v := ?_) rfl (by kernel_rfl) (by kernel_rfl) (by kernel_rfl) (fun _ _ _ h => h) (Or.inl ⟨by kernel_rfl, ?_⟩) (by assumption) ?_
      rotate_left
      · (intro wS hSw; (try dsimp only at hSw); go_simp; (try with_reducible rfl))
      (try simp only [Act.put, List.setIfInBounds_toArray, List.set_cons_zero, List.set_cons_succ])
      refine wpAnyH_take (i := 8) (v := ?_) rfl (by kernel_rfl) (by kernel_rfl) (by kernel_rfl) (fun _ _ _ h => h) (Or.inl ⟨by kernel_rfl, ?_⟩) (by assumption) ?_
      rotate_left
      · (intro wS hSw; (try dsimp only at hSw); go_simp; (try with_reducible rfl))
      (try simp only [Act.put, List.setIfInBounds_toArray, List.set_cons_zero, List.set_cons_succ])
      refine wpAnyH_take (i := 9) (v := ?_) rfl (by kernel_rfl) (by kernel_rfl) (by kernel_rfl) (fun _ _ _ h => h) (Or.inl ⟨by kernel_rfl, ?_⟩) (by assumption) ?_
      rotate_left
      · (intro wS hSw; (try dsimp only at hSw); go_simp; (try with_reducible rfl))
      (try simp only [Act.put, List.setIfInBounds_toArray, List.set_cons_zero, List.set_cons_succ])
      refine wpAnyH_take (i := 10) (v := ?_) rfl (by kernel_rfl) (by kernel_rfl) (by kernel_rfl) (fun _ _ _ h => h) (Or.inl ⟨by rfl, ?_⟩) (by assumption) ?_
      rotate_left
      · (intro wS hSw; (try dsimp only at hSw); go_simp; (try with_reducible rfl))
      (try simp only [Act.put, List.setIfInBounds_toArray, List.set_cons_zero, List.set_cons_succ])
      refine wpAnyH_take (i := 11) (v := ?_) rfl (by kernel_rfl) (by kernel_rfl) (by kernel_rfl) (fun _ _ _ h => h) (Or.inl ⟨by rfl, ?_⟩) (by assumption) ?_
      rotate_left
      · (intro wS hSw; (try dsimp only at hSw); go_simp; (try with_reducible rfl))
      (try simp only [Act.put, List.setIfInBounds_toArray, List.set_cons_zero, List.set_cons_succ])
      refine wpAnyH_take (i := 12) (v := ?_) rfl (by kernel_rfl) (by kernel_rfl) (by kernel_rfl) (fun _ _ _ h => h) (Or.inl ⟨by kernel_rfl, ?_⟩) (by assumption) ?_
      rotate_left
      · (intro wS hSw; (try dsimp only at hSw); go_simp; (try with_reducible rfl))
      (try simp only [Act.put, List.setIfInBounds_toArray, List.set_cons_zero, List.set_cons_succ])
      refine wpAnyH_take (i := 13) (v := ?_) rfl (by kernel_rfl) (by kernel_rfl) (by kernel_rfl) (fun _ _ _ h => h) (Or.inl ⟨by kernel_rfl, ?_⟩) (by assumption) ?_
      rotate_left
      · (intro wS hSw; (try dsimp only at hSw); go_simp; (try with_reducible rfl))
      (try simp only [Act.put, List.setIfInBounds_toArray, List.set_cons_zero, List.set_cons_succ])
      refine wpAnyH_take (i := 14) (v := ?_) rfl (by kernel_rfl) (by kernel_rfl) (by kernel_rfl) (fun _ _ _ h => h) (Or.inl ⟨by kernel_rfl, ?_⟩) (by assumption) ?_
      rotate_left
      · (intro wS hSw; (try dsimp only at hSw); go_simp; (try with_reducible rfl))
      (try simp only [Act.put, List.setIfInBounds_toArray, List.set_cons_zero, List.set_cons_succ])
      refine wpAnyH_take (i := 15) (v := ?_) rfl (by kernel_rfl) (by kernel_rfl) (by kernel_rfl) (fun _ _ _ h => h) (Or.inl ⟨by kernel_rfl, ?_⟩) (by assumption) ?_
      rotate_left
      · (intro wS hSw; (try dsimp only at hSw); go_simp; (try with_reducible rfl))
      (try simp only [Act.put, List.setIfInBounds_toArray, List.set_cons_zero, List.set_cons_succ])
      refine wpAnyH_take (i := 16) (v := (.bool false)) rfl (by kernel_rfl) (by kernel_rfl) (by kernel_rfl) (fun _ _ _ h => h) (Or.inl ⟨by kernel_rfl, ?_⟩) (by assumption) ?_
      · (intro wS hSw; (try dsimp only at hSw); go_simp; first | done | (simp; done) | (simp; omega) | omega)
      (try simp only [Act.put, List.setIfInBounds_toArray, List.set_cons_zero, List.set_cons_succ])
      refine wpAnyH_take (i := 17) (v := ?_) rfl (by kernel_rfl) (by kernel_rfl) (by kernel_rfl) (fun _ _ _ h => h) (Or.inl ⟨by rfl, ?_⟩) (by assumption) ?_
      rotate_left
      · (intro wS hSw; (try dsimp only at hSw); go_simp; (try with_reducible rfl))
      (try simp only [Act.put, List.setIfInBounds_toArray, List.set_cons_zero, List.set_cons_succ])
      refine wpAnyH_take (i := 18) (v := ?_) rfl (by kernel_rfl) (by kernel_rfl) (by kernel_rfl) (fun _ _ _ h => h) (Or.inl ⟨by rfl, ?_⟩) (by assumption) ?_
      rotate_left
      · (intro wS hSw; (try dsimp only at hSw); go_simp; (try with_reducible rfl))
      (try simp only [Act.put, List.setIfInBounds_toArray, List.set_cons_zero, List.set_cons_succ])
      refine wpAnyH_take (i := 19) (v := ?_) rfl (by kernel_rfl) (by kernel_rfl) (by kernel_rfl) (fun _ _ _ h => h) (Or.inl ⟨by kernel_rfl, ?_⟩) (by assumption) ?_
      rotate_left
      · (intro wS hSw; (try dsimp only at hSw); go_simp; (try with_reducible rfl))
      (try simp only [Act.put, List.setIfInBounds_toArray, List.set_cons_zero, List.set_cons_succ])
      refine wpAnyH_take (i := 20) (v := ?_) rfl (by kernel_rfl) (by kernel_rfl) (by kernel_rfl) (fun _ _ _ h => h) (Or.inl ⟨by kernel_rfl, ?_⟩) (by assumption) ?_
      rotate_left
      · (intro wS hSw; (try dsimp only at hSw); go_simp; (try with_reducible rfl))
      (try simp only [Act.put, List.setIfInBounds_toArray, List.set_cons_zero, List.set_cons_succ])
      refine wpAnyH_take (i := 21) (v := ?_) rfl (by kernel_rfl) (by kernel_rfl) (by kernel_rfl) (fun _ _ _ h => h) (Or.inl ⟨by kernel_rfl, ?_⟩) (by assumption) ?_
      rotate_left
      · (intro wS hSw; (try dsimp only at hSw); go_simp; (try with_reducible rfl))
      (try simp only [Act.put, List.setIfInBounds_toArray, List.set_cons_zero, List.set_cons_succ])
      refine wpAnyH_take (i := 22) (v := ?_) rfl (by kernel_rfl) (by kernel_rfl) (by kernel_rfl) (fun _ _ _ h => h) (Or.inl ⟨by kernel_rfl, ?_⟩) (by assumption) ?_
      rotate_left
      · (intro wS hSw; (try dsimp only at hSw); go_simp; (try with_reducible rfl))
      (try simp only [Act.put, List.setIfInBounds_toArray, List.set_cons_zero, List.set_cons_succ])
      refine wpAnyH_take (i := 23) (v := ?_) rfl (by kernel_rfl) (by kernel_rfl) (by kernel_rfl) (fun _ _ _ h => h) (Or.inl ⟨by kernel_rfl, ?_⟩) (by assumption) ?_
      rotate_left
      · (intro wS hSw; (try dsimp only at hSw); go_simp; (try with_reducible rfl))
      (try simp only [Act.put, List.setIfInBounds_toArray, List.set_cons_zero, List.set_cons_succ])
      refine wpAnyH_take (i := 24) (v := (.bool false)) rfl (by kernel_rfl) (by kernel_rfl) (by kernel_rfl) (fun _ _ _ h => h) (Or.inl ⟨by kernel_rfl, ?_⟩) (by assumption) ?_
      · (intro wS hSw; (try dsimp only at hSw); go_simp; first | done | (simp; done) | (simp; omega) | omega)
      (try simp only [Act.put, List.setIfInBounds_toArray, List.set_cons_zero, List.set_cons_succ])
      refine wpAnyH_take (i := 25) (v := ?_) rfl (by kernel_rfl) (by kernel_rfl) (by kernel_rfl) (fun _ _ _ h => h) (Or.inl ⟨by rfl, ?_⟩) (by assumption) ?_
      rotate_left
      · (intro wS hSw; (try dsimp only at hSw); go_simp; (try with_reducible rfl))
      (try simp only [Act.put, List.setIfInBounds_toArray, List.set_cons_zero, List.set_cons_succ])
      refine wpAnyH_take (i := 26) (v := ?_) rfl (by kernel_rfl) (by kernel_rfl) (by kernel_rfl) (fun _ _ _ h => h) (Or.inl ⟨by rfl, ?_⟩) (by assumption) ?_
      rotate_left
      · (intro wS hSw; (try dsimp only at hSw); go_simp; (try with_reducible rfl))
      (try simp only [Act.put, List.setIfInBounds_toArray, List.set_cons_zero, List.set_cons_succ])
      refine wpAnyH_take (i := 27) (v := ?_) rfl (by kernel_rfl) (by kernel_rfl) (by kernel_rfl) (fun _ _ _ h => h) (Or.inl ⟨by kernel_rfl, ?_⟩) (by assumption) ?_
      rotate_left
      · (intro wS hSw; (try dsimp only at hSw); go_simp; (try with_reducible rfl))
      (try simp only [Act.put, List.setIfInBounds_toArray, List.set_cons_zero, List.set_cons_succ])
      refine wpAnyH_take (i := 28) (v := ?_) rfl (by kernel_rfl) (by kernel_rfl) (by kernel_rfl) (fun _ _ _ h => h) (Or.inl ⟨by kernel_rfl, ?_⟩) (by assumption) ?_
      rotate_left
      · (intro wS hSw; (try dsimp only at hSw); go_simp; (try with_reducible rfl))
      (try simp only [Act.put, List.setIfInBounds_toArray, List.set_cons_zero, List.set_cons_succ])
      refine wpAnyH_take (i := 29) (v := (.bool false)) rfl (by kernel_rfl) (by kernel_rfl) (by kernel_rfl) (fun _ _ _ h => h) (Or.inl ⟨by kernel_rfl, ?_⟩) (by assumption) ?_
      · (intro wS hSw; (try dsimp only at hSw); go_simp; first | done | (simp; done) | (simp; omega) | omega)
      (try simp only [Act.put, List.setIfInBounds_toArray, List.set_cons_zero, List.set_cons_succ])
      refine wpAnyH_take (i := 30) (v := ?_) rfl (by kernel_rfl) (by kernel_rfl) (by kernel_rfl) (fun _ _ _ h => h) (Or.inl ⟨by rfl, ?_⟩) (by assumption) ?_
      rotate_left
      · (intro wS hSw; (try dsimp only at hSw); go_simp; (try with_reducible rfl))
      (try simp only [Act.put, List.setIfInBounds_toArray, List.set_cons_zero, List.set_cons_succ])
      refine wpAnyH_take (i := 31) (v := ?_) rfl (by kernel_rfl) (by kernel_rfl) (by kernel_rfl) (fun _ _ _ h => h) (Or.inl ⟨by rfl, ?_⟩) (by assumption) ?_
      rotate_left
      · (intro wS hSw; (try dsimp only at hSw); go_simp; (try with_reducible rfl))
      (try simp only [Act.put, List.setIfInBounds_toArray, List.set_cons_zero, List.set_cons_succ])
      refine wpAnyH_take (i := 32) (v := ?_) rfl (by kernel_rfl) (by kernel_rfl) (by kernel_rfl) (fun _ _ _ h => h) (Or.inl ⟨by kernel_rfl, ?_⟩) (by assumption) ?_
      rotate_left
      · (intro wS hSw; (try dsimp only at hSw); go_simp; (try with_reducible rfl))
      (try simp only [Act.put, List.setIfInBounds_toArray, List.set_cons_zero, List.set_cons_succ])
      refine wpAnyH_take (i := 33) (v := ?_) rfl (by kernel_rfl) (by kernel_rfl) (by kernel_rfl) (fun _ _ _ h => h) (Or.inl ⟨by kernel_rfl, ?_⟩) (by assumption) ?_
      rotate_left
      · (intro wS hSw; (try dsimp only at hSw); go_simp; (try with_reducible rfl))
      (try simp only [Act.put, List.setIfInBounds_toArray, List.set_cons_zero, List.set_cons_succ])
      refine wpAnyH_take (i := 34) (v := ?_) rfl (by kernel_rfl) (by kernel_rfl) (by kernel_rfl) (fun _ _ _ h => h) (Or.inl ⟨by kernel_rfl, ?_⟩) (by assumption) ?_
      rotate_left
      · (intro wS hSw; (try dsimp only at hSw); go_simp; (try with_reducible rfl))
      (try simp only [Act.put, List.setIfInBounds_toArray, List.set_cons_zero, List.set_cons_succ])
      refine wpAnyH_ready (rs := [35]) (by kernel_rfl) (by simp) ?_
      refine AllReadyH.cons rfl (fun K hK => ?_) AllReadyH.nil
      rw [if_pos (by kernel_rfl)]
      go_simp
      go_at_call 11
      refine (HOF.out _).mono ?_
      rintro e' wa1 ⟨hq, rfl⟩
      dsimp only
      have z0 := (hq.cell (p := ⟨w.heap.size, 1, none⟩) (show w.heap.size < w3.heap.size by omega)).trans hHeld.1
      have z1 := (hq.cell (p := ⟨b, off, none⟩) (show b < w3.heap.size by omega)).trans hHeld.2.1
      have z2 := (hq.cell (p := ⟨b, off + (0 + 1), none⟩) (show b < w3.heap.size by omega)).trans hHeld.2.2
      refine hK.out _ _ ⟨z0, z1, z2⟩ (fun hH2 => ?_)
      clear hK K z0  z1  z2
      (try simp only [Act.put, List.setIfInBounds_toArray, List.set_cons_zero, List.set_cons_succ])
      have sa3 : Below w3.heap.size w3 wa1 := sW.trans (hq.mono sW.size)
      clear hq
      have hlwa1 : w3.heap.size ≤ wa1.heap.size := sa3.size
      refine wpAnyH_take (i := 36) (v := ?_) rfl (by kernel_rfl) (by kernel_rfl) (by kernel_rfl) (fun _ _ _ h => h) (Or.inl ⟨by kernel_rfl, ?_⟩) (by assumption) ?_
      rotate_left
      · (intro wS hSw; (try dsimp only at hSw); go_simp; (try with_reducible rfl))
      (try simp only [Act.put, List.setIfInBounds_toArray, List.set_cons_zero, List.set_cons_succ])
      refine wpAnyH_take (i := 37) (v := ?_) rfl (by kernel_rfl) (by kernel_rfl) (by kernel_rfl) (fun _ _ _ h => h) (Or.inl ⟨by rfl, ?_⟩) (by assumption) ?_
      rotate_left
      · (intro wS hSw; (try dsimp only at hSw); go_simp; (try with_reducible rfl))
      (try simp only [Act.put, List.setIfInBounds_toArray, List.set_cons_zero, List.set_cons_succ])
      refine wpAnyH_done (by kernel_rfl) ?_ _
      (try simp only [List.getElem_toArray, List.getElem_cons_zero, List.getElem_cons_succ, Act.put, List.setIfInBounds_toArray, List.set_cons_zero, List.set_cons_succ])
      have s4 := S3.out.trans (sa3.mono S3.out.size)
      have hr4 := HR3.out.below sa3 (Nat.le_refl _)
      have d4 := D3.out.keep sa3
      have hrow4 := HROW.out.below sa3 (Nat.le_refl _)
      obtain ⟨wL, hwL⟩ : ∃ wL, wL = wa1 := ⟨_, rfl⟩
      rw [← hwL] at s4 hr4 d4 hrow4
      (try rw [← hwL])
      have hGL := d4.lt
      have S4 := Lib.hid s4; clear s4
      have HR4 := Lib.hid hr4; clear hr4
      have D4 := Lib.hid d4; clear d4
      have HROW4 := Lib.hid hrow4; clear hrow4
      clear hwL c0 c1 x1 hG3 hb3
      go_wp2_with fail
      go_loopw [82] (fun i wr => ∃ j : Nat, j ≤ 24 ∧ i = .int .i64 (j : Int) ∧ Below wL.heap.size wL wr) (fun i _ => 24 - (intOf i).toNat)
      case atStart => exact ⟨0, Nat.zero_le _, rfl, Below.refl _ _⟩
      case round =>
        obtain ⟨j, hj, rfl, hbel⟩ := hrel
        obtain ⟨wo, rfl⟩ : ∃ wo : World, wo = wr := ⟨_, rfl⟩
        have hszo := hbel.size
        by_cases hj24 : j < 24
        · have tj : decide ((j : Int) < 24) = true := by simp; omega
          have hgp := HGP.out j hj24
          have hgr := HGR.out j
          have hfq := HFQ.out j hj
          obtain ⟨x, hx⟩ : ∃ x, x = cw es allP j (s : Int) := ⟨_, rfl⟩
          rw [← hx] at hgp hgr
          obtain ⟨b3, o3, rfl, hb3o, hbc3⟩ := HROW4.out.at_ (by omega)
          obtain ⟨q0, q1⟩ := int_cells hbc3 hbel hb3o hgp
          have hneq : ∀ w', (binOp .neq 28 (.agg #[.bool (ineg x), .string (imag x)]) (.agg #[.bool (ineg x), .string (imag x)])).run Try.prog w' = .ok (.bool false) w' := fun w' => by rw [neq_int]; simp
          have bA := Blk.new wo 28 [.bool (ineg x), .string (imag x)]
          have sA := hbel.alloc hszo (.cells #[.bool (ineg x), .string (imag x)] 28)
          have d5 := D4.out.keep sA
          have hr5 := HR4.out.below sA (Nat.le_refl _)
          have x0 := d5.cell (j := 0) rfl
          have x1 := d5.cell (j := 1) rfl
          have x2 := d5.cell (j := 2) rfl
          have hi1 : (0 : Int) ≤ (j : Int) := by omega
          have hi2 : (j : Int) < 24 := by omega
          have hi3 : (0 : Int) ≤ (s : Int) := by omega
          have hi4 : (s : Int) < (k : Int) := by omega
          have HGRJ := Lib.hid hgr; clear hgr
          have HFQJ := Lib.hid hfq; clear hfq
          have BA := Lib.hid bA; clear bA
          have SA := Lib.hid sA; clear sA
          have D5 := Lib.hid d5; clear d5
          have HR5 := Lib.hid hr5; clear hr5
          have HBEL := Lib.hid hbel; clear hbel
          clear hx hgp hbc3
          go_wp2_with fail
          go_at_call 20
          refine (HFQJ.out _ HR5.out).mono ?_
          rintro e w5 ⟨hq, fb, rfl, hbr⟩
          have a6 := BA.out.keep hq
          have d6 := D5.out.keep hq
          have s6 := SA.out.trans (hq.mono SA.out.size)
          have y1 := d6.cell (j := 1) rfl
          have y2 := a6.cell (j := 0) rfl
          have y3 := a6.cell (j := 1) rfl
          have y4 := hbr.cell (civ_get HGRJ.out).1
          have y5 := hbr.cell (civ_get HGRJ.out).2
          have S6 := Lib.hid s6; clear s6
          clear hq a6 d6 hbr x0 x1 x2 q0 q1
          go_wp2_with fail
          refine wp_region_held_drew (S := fun w' => w'.cell? ⟨w.heap.size, 1, none⟩ = some (.int .i64 (k : Int)) ∧ w'.cell? ⟨wo.heap.size, 0, none⟩ = some (.bool (ineg x)) ∧ w'.cell? ⟨wo.heap.size, 1, none⟩ = some (.string (imag x)) ∧ w'.cell? ⟨fb, s * 2, none⟩ = some (.bool (ineg x)) ∧ w'.cell? ⟨fb, s * 2 + 1, none⟩ = some (.string (imag x))) (by kernel_rfl) ?_ (fun hHeld => ?_)
          · go_keep
          refine wpAnyH_take (i := 0) (v := ?_) rfl (by kernel_rfl) (by kernel_rfl) (by kernel_rfl) (fun _ _ _ h => h) (Or.inl ⟨by rfl, ?_⟩) (by assumption) ?_
          rotate_left
          · (intro wS hSw; (try dsimp only at hSw); go_simp; (try with_reducible rfl))
          (try simp only [Act.put, List.setIfInBounds_toArray, List.set_cons_zero, List.set_cons_succ])
          refine wpAnyH_take (i := 1) (v := ?_) rfl (by kernel_rfl) (by kernel_rfl) (by kernel_rfl) (fun _ _ _ h => h) (Or.inl ⟨by rfl, ?_⟩) (by assumption) ?_
          rotate_left
          · (intro wS hSw; (try dsimp only at hSw); go_simp; (try with_reducible rfl))
          (try simp only [Act.put, List.setIfInBounds_toArray, List.set_cons_zero, List.set_cons_succ])
          refine wpAnyH_take (i := 2) (v := ?_) rfl (by kernel_rfl) (by kernel_rfl) (by kernel_rfl) (fun _ _ _ h => h) (Or.inl ⟨by rfl, ?_⟩) (by assumption) ?_
          rotate_left
          · (intro wS hSw; (try dsimp only at hSw); go_simp; (try with_reducible rfl))
          (try simp only [Act.put, List.setIfInBounds_toArray, List.set_cons_zero, List.set_cons_succ])
          refine wpAnyH_take (i := 3) (v := ?_) rfl (by kernel_rfl) (by kernel_rfl) (by kernel_rfl) (fun _ _ _ h => h) (Or.inl ⟨by kernel_rfl, ?_⟩) (by assumption) ?_
          rotate_left
          · (intro wS hSw; (try dsimp only at hSw); go_simp; (try with_reducible rfl))
          (try simp only [Act.put, List.setIfInBounds_toArray, List.set_cons_zero, List.set_cons_succ])
          refine wpAnyH_take (i := 4) (v := ?_) rfl (by kernel_rfl) (by kernel_rfl) (by kernel_rfl) (fun _ _ _ h => h) (Or.inl ⟨by kernel_rfl, ?_⟩) (by assumption) ?_
          rotate_left
          · (intro wS hSw; (try dsimp only at hSw); go_simp; (try with_reducible rfl))
          (try simp only [Act.put, List.setIfInBounds_toArray, List.set_cons_zero, List.set_cons_succ])
          refine wpAnyH_take (i := 5) (v := ?_) rfl (by kernel_rfl) (by kernel_rfl) (by kernel_rfl) (fun _ _ _ h => h) (Or.inl ⟨by kernel_rfl, ?_⟩) (by assumption) ?_
          rotate_left
          · (intro wS hSw; (try dsimp only at hSw); go_simp; (try with_reducible rfl))
          (try simp only [Act.put, List.setIfInBounds_toArray, List.set_cons_zero, List.set_cons_succ])
          refine wpAnyH_take (i := 6) (v := ?_) rfl (by kernel_rfl) (by kernel_rfl) (by kernel_rfl) (fun _ _ _ h => h) (Or.inl ⟨by kernel_rfl, ?_⟩) (by assumption) ?_
          rotate_left
          · (intro wS hSw; (try dsimp only at hSw); go_simp; (try with_reducible rfl))
          (try simp only [Act.put, List.setIfInBounds_toArray, List.set_cons_zero, List.set_cons_succ])
          refine wpAnyH_take (i := 7) (v := ?_) rfl (by kernel_rfl) (by kernel_rfl) (by kernel_rfl) (fun _ _ _ h => h) (Or.inl ⟨by kernel_rfl, ?_⟩) (by assumption) ?_
          rotate_left
          · (intro wS hSw; (try dsimp only at hSw); go_simp; (try with_reducible rfl))
          (try simp only [Act.put, List.setIfInBounds_toArray, List.set_cons_zero, List.set_cons_succ])
          refine wpAnyH_take (i := 8) (v := ?_) rfl (by kernel_rfl) (by kernel_rfl) (by kernel_rfl) (fun _ _ _ h => h) (Or.inl ⟨by rfl, ?_⟩) (by assumption) ?_
          rotate_left
          · (intro wS hSw; (try dsimp only at hSw); go_simp; (try with_reducible rfl))
          (try simp only [Act.put, List.setIfInBounds_toArray, List.set_cons_zero, List.set_cons_succ])
          refine wpAnyH_take (i := 9) (v := ?_) rfl (by kernel_rfl) (by kernel_rfl) (by kernel_rfl) (fun _ _ _ h => h) (Or.inl ⟨by rfl, ?_⟩) (by assumption) ?_
          rotate_left
          · (intro wS hSw; (try dsimp only at hSw); go_simp; (try with_reducible rfl))
          (try simp only [Act.put, List.setIfInBounds_toArray, List.set_cons_zero, List.set_cons_succ])
          refine wpAnyH_take (i := 10) (v := ?_) rfl (by kernel_rfl) (by kernel_rfl) (by kernel_rfl) (fun _ _ _ h => h) (Or.inl ⟨by kernel_rfl, ?_⟩) (by assumption) ?_
          rotate_left
          · (intro wS hSw; (try dsimp only at hSw); go_simp; (try with_reducible rfl))
          (try simp only [Act.put, List.setIfInBounds_toArray, List.set_cons_zero, List.set_cons_succ])
          refine wpAnyH_take (i := 11) (v := ?_) rfl (by kernel_rfl) (by kernel_rfl) (by kernel_rfl) (fun _ _ _ h => h) (Or.inl ⟨by kernel_rfl, ?_⟩) (by assumption) ?_
          rotate_left
          · (intro wS hSw; (try dsimp only at hSw); go_simp; (try with_reducible rfl))
          (try simp only [Act.put, List.setIfInBounds_toArray, List.set_cons_zero, List.set_cons_succ])
          refine wpAnyH_take (i := 12) (v := ?_) rfl (by kernel_rfl) (by kernel_rfl) (by kernel_rfl) (fun _ _ _ h => h) (Or.inl ⟨by kernel_rfl, ?_⟩) (by assumption) ?_
          rotate_left
          · (intro wS hSw; (try dsimp only at hSw); go_simp; (try with_reducible rfl))
          (try simp only [Act.put, List.setIfInBounds_toArray, List.set_cons_zero, List.set_cons_succ])
          refine wpAnyH_take (i := 13) (v := ?_) rfl (by kernel_rfl) (by kernel_rfl) (by kernel_rfl) (fun _ _ _ h => h) (Or.inl ⟨by kernel_rfl, ?_⟩) (by assumption) ?_
          rotate_left
          · (intro wS hSw; (try dsimp only at hSw); go_simp; (try with_reducible rfl))
          (try simp only [Act.put, List.setIfInBounds_toArray, List.set_cons_zero, List.set_cons_succ])
          refine wpAnyH_take (i := 14) (v := ?_) rfl (by kernel_rfl) (by kernel_rfl) (by kernel_rfl) (fun _ _ _ h => h) (Or.inl ⟨by kernel_rfl, ?_⟩) (by assumption) ?_
          rotate_left
          · (intro wS hSw; (try dsimp only at hSw); go_simp; (try with_reducible rfl))
          (try simp only [Act.put, List.setIfInBounds_toArray, List.set_cons_zero, List.set_cons_succ])
          refine wpAnyH_take (i := 15) (v := ?_) rfl (by kernel_rfl) (by kernel_rfl) (by kernel_rfl) (fun _ _ _ h => h) (Or.inl ⟨by kernel_rfl, ?_⟩) (by assumption) ?_
          rotate_left
          · (intro wS hSw; (try dsimp only at hSw); go_simp; (try with_reducible rfl))
          (try simp only [Act.put, List.setIfInBounds_toArray, List.set_cons_zero, List.set_cons_succ])
          refine wpAnyH_take (i := 16) (v := ?_) rfl (by kernel_rfl) (by kernel_rfl) (by kernel_rfl) (fun _ _ _ h => h) (Or.inl ⟨by rfl, ?_⟩) (by assumption) ?_
          rotate_left
          · (intro wS hSw; (try dsimp only at hSw); go_simp; (try with_reducible rfl))
          (try simp only [Act.put, List.setIfInBounds_toArray, List.set_cons_zero, List.set_cons_succ])
          refine wpAnyH_done (by kernel_rfl) ?_ _
          (try simp only [List.getElem_toArray, List.getElem_cons_zero, List.getElem_cons_succ, Act.put, List.setIfInBounds_toArray, List.set_cons_zero, List.set_cons_succ])
          go_wp2_with fail
          go_roundw
          case rel => exact ⟨j + 1, by omega, by go_num, S6.out.drew⟩
          case measure => simp [intOf]; omega
        · have tj : decide ((j : Int) < 24) = false := by simp; omega
          have hfin := S4.out.trans (hbel.mono S4.out.size)
          have HFIN := Lib.hid hfin; clear hfin
          clear hbel
          go_wp2_with fail
          go_at_call 10
          refine (HAW.out _).mono ?_
          rintro e w6 ⟨hq, rfl⟩
          have HQ := Lib.hid hq; clear hq
          go_wp2_with fail
          go_ret
          exact ⟨HFIN.out.trans (HQ.out.mono HFIN.out.size), rfl⟩
end Go.Proofs.Ythpgeeaccmgbkaa

/- The law CountingWords. -/
import Derived.Deep.QuietTactic
import Derived.Deep.RegionHeld3
import Derived.Test.YthpgeeaccmgbkaaGreatFin22
import Derived.Test.YthpgeeaccmgbkaaGreatFrom
import Derived.Test.YthpgeeaccmgbkaaGreatPart7
import Derived.Test.YthpgeeaccmgbkaaGreatPart4
import Derived.Test.YthpgeeaccmgbkaaGreatPart8
import Derived.Test.YthpgeeaccmgbkaaGreatIntB
import Derived.Test.YthpgeeaccmgbkaaGreatAwk22
namespace Go.Proofs.YthpgeeaccmgbkaaGreat
open Go.RowKit

theorem cmpZ_ge {x y : Int} (h : y ≤ x) : decide (cmpZ x y < 0) = false := by
  simp only [cmpZ]
  repeat' split
  all_goals (try omega)
  all_goals (try simp)
  all_goals (try omega)
theorem cmpZ_eq (x : Int) : cmpZ x x = 0 := by simp [cmpZ]
theorem pow_le {L : Int} (h : L ≤ 3) {n : Nat} (hn : n ≤ 6) : L.toNat ^ n ≤ 4096 := by
  have h1 : L.toNat ^ n ≤ 3 ^ n := Nat.pow_le_pow_left (by omega) n
  have h2 : 3 ^ n ≤ 3 ^ 6 := Nat.pow_le_pow_right (by decide) hn
  have h3 : (3 : Nat) ^ 6 = 729 := by decide
  omega
set_option maxRecDepth 100000 in
set_option maxHeartbeats 8000000 in
theorem lword_all (L S : Int) (es : List E3) (v : Value) (a1 : Nat) (w : World) (hr : Row w v es.length (ce es)) (hok : okEs es) (h1 : a1 ≤ 255) :
    Calls Tryz.prog 5 #[.agg #[.int .i64 L, .int .i64 S, v], .int .u8 (a1 : Int)] w (Ret w (.bool true)) := by
  obtain ⟨va, vc, rfl, hle⟩ := hr.slice
  obtain ⟨mz, hmz⟩ : ∃ mz, mz = es.length := ⟨_, rfl⟩
  have s0 := (Below.refl w.heap.size w).alloc (Nat.le_refl _) (.cells #[.int .i64 L, .int .i64 S, .slice va es.length vc] 24)
  have b0 := Blk.new w 24 [.int .i64 L, .int .i64 S, .slice va es.length vc]
  have hr0 := hr.below s0 (Nat.le_refl _)
  have hfi := fine22_any L S es _ _ hr0
  have haw := awake22_true
  have hfro := fun (k n : Nat) (hc : chk L (k : Int) es = 0) (hn : n ≤ 4096) w' (h : Row w' (.slice va es.length vc) es.length (ce es)) => cfrom_ok L k n es _ w' h hok hc hn
  have hlf := fun (k s n : Nat) (hc : chk L (k : Int) es = 0) (hs : s < k) (hL : L ≤ 3) (hn : n ≤ 6) w' (h : Row w' (.slice va es.length vc) es.length (ce es)) => lfrom_ok L k s n es _ w' h hok hc (by omega) (by omega) (by omega) (by omega) (pow_le hL hn)
  have hdet := fun w' (h : Row w' (.slice va es.length vc) es.length (ce es)) => det_any L S es _ w' h hok
  rw [← hmz] at s0 b0 hr0 hfi hfro hlf hdet
  have HMM := Lib.hid hmz; clear hmz
  have HFI := Lib.hid hfi; clear hfi
  have HAW := Lib.hid haw; clear haw
  have HFRO := Lib.hid hfro; clear hfro
  have HLF := Lib.hid hlf; clear hlf
  have HDET := Lib.hid hdet; clear hdet
  have S0 := Lib.hid s0; clear s0
  have B0 := Lib.hid b0; clear b0
  have HR := Lib.hid hr0; clear hr0
  clear hr
  go_enter Tryz.func5, Tryz.ntmps5
  rw [← HMM.out]
  go_wp2_with fail
  go_at_call 24
  refine HFI.out.mono ?_
  rintro e w1 ⟨hq, b, rfl, hb⟩
  have s1 := S0.out.trans (hq.mono S0.out.size)
  have hr1 := HR.out.below hq (Nat.le_refl _)
  have tk := B0.out.keep hq; have x0 := tk.cell (j := 0) rfl; have x1 := tk.cell (j := 1) rfl; have x2 := tk.cell (j := 2) rfl; have C0 := Lib.hid tk; clear tk
  have S1 := Lib.hid s1; clear s1
  have HR1 := Lib.hid hr1; clear hr1
  clear hq
  cases b with
  | false =>
    go_wp2_with fail
    go_at_call 7
    refine (HAW.out _).mono ?_
    rintro e w2 ⟨hq, rfl⟩
    have HQ := Lib.hid hq; clear hq
    go_wp2_with fail
    go_ret
    exact ⟨S1.out.trans (HQ.out.mono S1.out.size), rfl⟩
  | true =>
    obtain ⟨hchk, hS8, hlen⟩ := hb rfl
    obtain ⟨k, rfl⟩ : ∃ k : Nat, S = k := ⟨S.toNat, by have := chk_all hchk; omega⟩
    by_cases hL3 : 3 < L
    · have t0 : decide (3 < L) = true := by simp; omega
      clear hb
      go_wp2_with fail
      go_at_call 7
      refine (HAW.out _).mono ?_
      rintro e w2 ⟨hq, rfl⟩
      have HQ := Lib.hid hq; clear hq
      go_wp2_with fail
      go_ret
      exact ⟨S1.out.trans (HQ.out.mono S1.out.size), rfl⟩
    · have t0 : decide (3 < L) = false := by simp; omega
      obtain ⟨n, hn⟩ : ∃ n, n = a1 % 7 := ⟨_, rfl⟩
      have hn6 : n ≤ 6 := by omega
      have r3 : (a1 : Int) % 7 = (n : Int) := by omega
      have hfq := HFRO.out k n hchk (by omega)
      have hlq := fun (s : Nat) (hs : s < k) => HLF.out k s n hchk hs (by omega) hn6
      have hwp := fun (s : Nat) (ss : List (List UInt8)) (h : ss.Nodup) (h2 : ∀ x, x ∈ ss ↔ isW L es [(s : Int)] n x = true) => words_paths hchk (show L ≤ 16 by omega) h h2
      have hdq := HDET.out
      rw [hchk, if_pos rfl] at hdq
      simp only [decide_true, Bool.true_and] at hdq
      have hsm := fun (s : Nat) => cw_sm (es := es) (by omega) allP n (s : Int)
      have hgr : ∀ s, s < k → (rowK es k allP n)[s]? = some (cw es allP n (s : Int)) := fun s hs => rowK_get hs
      have hrl : (rowK es k allP n).length = k := by simp [rowK]
      have g8 : ((k : Int) != (k : Int)) = false := by simp
      have hk8 : k ≤ 8 := by omega
      obtain ⟨dt, hdt⟩ : ∃ dt, dt = detB es := ⟨_, rfl⟩
      rw [← hdt] at hdq
      simp only [← hdt] at hwp
      have R3 := Lib.hid r3; clear r3
      have HFQ := Lib.hid hfq; clear hfq
      have HLQ := Lib.hid hlq; clear hlq
      have HWP := Lib.hid hwp; clear hwp
      have HDQ := Lib.hid hdq; clear hdq
      have HSM := Lib.hid hsm; clear hsm
      have HGR := Lib.hid hgr; clear hgr
      have HRL := Lib.hid hrl; clear hrl
      clear hb hchk hlen hn hdt HDET HFRO HLF
      go_wp2_with fail
      rw [R3.out]
      go_at_call 10
      refine (HFQ.out _ HR1.out).mono ?_
      rintro e w2 ⟨hq, fb, rfl, hbr⟩
      have s2 := S1.out.trans (hq.mono S1.out.size)
      have hr2 := HR1.out.below hq (Nat.le_refl _)
      have d2 := C0.out.keep hq
      clear x0 x1 x2 hq
      have x0 := d2.cell (j := 0) rfl
      have x1 := d2.cell (j := 1) rfl
      have x2 := d2.cell (j := 2) rfl
      have S2 := Lib.hid s2; clear s2
      have HR2 := Lib.hid hr2; clear hr2
      have D2 := Lib.hid d2; clear d2
      have HBR := Lib.hid hbr; clear hbr
      go_wp2_with fail
      go_at_call 25
      refine (HDQ.out _ HR2.out).mono ?_
      rintro e w3 ⟨hq, rfl⟩
      have s3 := S2.out.trans (hq.mono S2.out.size)
      have hr3 := HR2.out.below hq (Nat.le_refl _)
      have d3 := D2.out.keep hq
      have hbr3 := HBR.out.keep hq
      have hG3 := d3.lt
      have hfb3 := hbr3.lt
      clear x0 x1 x2 hq
      have x0 := d3.cell (j := 0) rfl
      have x1 := d3.cell (j := 1) rfl
      have x2 := d3.cell (j := 2) rfl
      have S3 := Lib.hid s3; clear s3
      have HR3 := Lib.hid hr3; clear hr3
      have D3 := Lib.hid d3; clear d3
      have HBR3 := Lib.hid hbr3; clear hbr3
      go_wp2_with fail
      go_loopw [53] (fun i wr => ∃ j : Nat, j ≤ k ∧ i = .int .i64 (j : Int) ∧ Below w3.heap.size w3 wr) (fun i _ => k - (intOf i).toNat)
      case atStart => exact ⟨0, Nat.zero_le _, rfl, Below.refl _ _⟩
      case round =>
        obtain ⟨j, hj, rfl, hbel⟩ := hrel
        obtain ⟨wo, rfl⟩ : ∃ wo : World, wo = wr := ⟨_, rfl⟩
        have hszo := hbel.size
        by_cases hjk : j < k
        · have tj : decide ((j : Int) < (k : Int)) = true := by simp; omega
          have hgr := HGR.out j hjk
          have hlq := HLQ.out j hjk
          have hwp := HWP.out j
          have hsm := HSM.out j
          obtain ⟨x, hx⟩ : ∃ x, x = cw es allP n (j : Int) := ⟨_, rfl⟩
          rw [← hx] at hgr hsm
          simp only [← hx] at hwp
          have br4 := HBR3.out.below hbel hfb3
          have q0 := br4.cell (civ_get hgr).1
          have q1 := br4.cell (civ_get hgr).2
          have bA := Blk.new wo 28 [.bool (ineg x), .string (imag x)]
          have sA := hbel.alloc hszo (.cells #[.bool (ineg x), .string (imag x)] 28)
          have d5 := D3.out.keep sA
          have hr5 := HR3.out.below sA (Nat.le_refl _)
          clear x0 x1 x2
          have x0 := d5.cell (j := 0) rfl
          have x1 := d5.cell (j := 1) rfl
          have x2 := d5.cell (j := 2) rfl
          have hi1 : (0 : Int) ≤ (j : Int) := by omega
          have hi2 : (j : Int) < (k : Int) := by omega
          have HLQJ := Lib.hid hlq; clear hlq
          have HWPJ := Lib.hid hwp; clear hwp
          have HSMJ := Lib.hid hsm; clear hsm
          have BA := Lib.hid bA; clear bA
          have SA := Lib.hid sA; clear sA
          have D5 := Lib.hid d5; clear d5
          have HR5 := Lib.hid hr5; clear hr5
          have HBEL := Lib.hid hbel; clear hbel
          clear hx hgr br4
          go_wp2_with fail
          go_at_call 26
          refine (HLQJ.out _ HR5.out).mono ?_
          rintro e w5 ⟨hq, vw, ss, rfl, hnd, hmem, hsl, hrw⟩
          obtain ⟨wa1, wc1, rfl, -⟩ := hrw.slice
          obtain ⟨hwp1, hwp2⟩ := HWPJ.out ss hnd hmem
          obtain ⟨m, hm⟩ : ∃ m, m = ss.length := ⟨_, rfl⟩
          rw [← hm] at hwp1 hwp2 hsl
          have hof := fun w' => iof_any (m : Int) w' (by omega) (by omega)
          have hmsm : sm 2 (m : Int) := by unfold sm; have : (256 : Nat) ^ 2 = 65536 := by decide
                                           omega
          have hcmp := fun w' => icompare_any (ineg x) (ineg (m : Int)) (imag x) (imag (m : Int)) w' (Nat.le_trans HSMJ.out.size (by omega)) (Nat.le_trans hmsm.size (by omega))
          simp only [ival_canon] at hcmp
          have hc0 := cmpZ_ge hwp1
          have hc1 : dt = true → cmpZ x (m : Int) = 0 := fun h => by rw [← hwp2 h]; exact cmpZ_eq _
          obtain ⟨cz, hcz⟩ : ∃ cz, cz = cmpZ x (m : Int) := ⟨_, rfl⟩
          rw [← hcz] at hcmp hc0 hc1
          have a6 := BA.out.keep hq
          have s6 := SA.out.trans (hq.mono SA.out.size)
          have hAl := a6.lt
          have y2 := a6.cell (j := 0) rfl
          have y3 := a6.cell (j := 1) rfl
          have sW := (Below.refl w5.heap.size w5).drew
          rw [← hm]
          have S6 := Lib.hid s6; clear s6
          have HOF := Lib.hid hof; clear hof
          have HCMP := Lib.hid hcmp; clear hcmp
          clear hq a6 x0 x1 x2 q0 q1 hrw hnd hmem hwp1 hwp2 hmsm hcz hm
          go_wp2_with fail
          refine wp_region_held_drew (S := fun w' => w'.cell? ⟨wo.heap.size, 0, none⟩ = some (.bool (ineg x)) ∧ w'.cell? ⟨wo.heap.size, 1, none⟩ = some (.string (imag x))) (by kernel_rfl) ?_ (fun hHeld => ?_)
          · go_keep
          refine wpAnyH_take (i := 0) (v := ?_) rfl (by kernel_rfl) (by kernel_rfl) (by kernel_rfl) (fun _ _ _ h => h) (Or.inl ⟨by rfl, ?_⟩) (by assumption) ?_
          rotate_left
          · (intro wS hSw; (try dsimp only at hSw); go_simp; (try with_reducible rfl))
          (try simp only [Act.put, List.setIfInBounds_toArray, List.set_cons_zero, List.set_cons_succ])
          refine wpAnyH_take (i := 1) (v := ?_) rfl (by kernel_rfl) (by kernel_rfl) (by kernel_rfl) (fun _ _ _ h => h) (Or.inl ⟨by rfl, ?_⟩) (by assumption) ?_
          rotate_left
          · (intro wS hSw; (try dsimp only at hSw); go_simp; (try with_reducible rfl))
          (try simp only [Act.put, List.setIfInBounds_toArray, List.set_cons_zero, List.set_cons_succ])
          refine wpAnyH_take (i := 2) (v := ?_) rfl (by kernel_rfl) (by kernel_rfl) (by kernel_rfl) (fun _ _ _ h => h) (Or.inl ⟨by rfl, ?_⟩) (by assumption) ?_
          rotate_left
          · (intro wS hSw; (try dsimp only at hSw); go_simp; (try with_reducible rfl))
          (try simp only [Act.put, List.setIfInBounds_toArray, List.set_cons_zero, List.set_cons_succ])
          refine wpAnyH_ready (rs := [3]) (by kernel_rfl) (by simp) ?_
          refine AllReadyH.cons rfl (fun K hK => ?_) AllReadyH.nil
          go_simp
          go_at_call 28
          refine (HOF.out _).mono ?_
          rintro e' wa1 ⟨hq, rfl⟩
          dsimp only
          have z0 := (hq.cell (p := ⟨wo.heap.size, 0, none⟩) (show wo.heap.size < w5.heap.size by omega)).trans hHeld.1
          have z1 := (hq.cell (p := ⟨wo.heap.size, 1, none⟩) (show wo.heap.size < w5.heap.size by omega)).trans hHeld.2
          refine hK.out _ _ ⟨z0, z1⟩ (fun hH2 => ?_)
          clear hK K z0  z1
          (try simp only [Act.put, List.setIfInBounds_toArray, List.set_cons_zero, List.set_cons_succ])
          have sa3 : Below w5.heap.size w5 wa1 := sW.trans (hq.mono sW.size)
          clear hq
          have hlwa1 : w5.heap.size ≤ wa1.heap.size := sa3.size
          refine wpAnyH_ready (rs := [4]) (by kernel_rfl) (by simp) ?_
          refine AllReadyH.cons rfl (fun K hK => ?_) AllReadyH.nil
          go_simp
          go_at_call 27
          refine (HCMP.out _).mono ?_
          rintro e' wa5 ⟨hq, rfl⟩
          dsimp only
          have z0 := (hq.cell (p := ⟨wo.heap.size, 0, none⟩) (show wo.heap.size < wa1.heap.size by omega)).trans hH2.1
          have z1 := (hq.cell (p := ⟨wo.heap.size, 1, none⟩) (show wo.heap.size < wa1.heap.size by omega)).trans hH2.2
          refine hK.out _ _ ⟨z0, z1⟩ (fun hH6 => ?_)
          clear hK K z0  z1
          (try simp only [Act.put, List.setIfInBounds_toArray, List.set_cons_zero, List.set_cons_succ])
          have sa7 : Below w5.heap.size w5 wa5 := sa3.trans (hq.mono sa3.size)
          clear hq
          have hlwa5 : w5.heap.size ≤ wa5.heap.size := sa7.size
          refine wpAnyH_take (i := 5) (v := ?_) rfl (by kernel_rfl) (by kernel_rfl) (by kernel_rfl) (fun _ _ _ h => h) (Or.inl ⟨by rfl, ?_⟩) (by assumption) ?_
          rotate_left
          · (intro wS hSw; (try dsimp only at hSw); go_simp; (try with_reducible rfl))
          (try simp only [Act.put, List.setIfInBounds_toArray, List.set_cons_zero, List.set_cons_succ])
          refine wpAnyH_done (by kernel_rfl) ?_ _
          (try simp only [List.getElem_toArray, List.getElem_cons_zero, List.getElem_cons_succ, Act.put, List.setIfInBounds_toArray, List.set_cons_zero, List.set_cons_succ])
          have SF := Lib.hid sa7; clear sa7
          clear y2 y3
          cases dt with
          | true =>
            have hc2 : (cz != 0) = false := by rw [hc1 rfl]; rfl
            clear hc1
            go_wp2_with fail
            go_roundw
            case rel => exact ⟨j + 1, by omega, by go_num, S6.out.trans (SF.out.mono S6.out.size)⟩
            case measure => simp [intOf]; omega
          | false =>
            clear hc1
            go_wp2_with fail
            go_roundw
            case rel => exact ⟨j + 1, by omega, by go_num, S6.out.trans (SF.out.mono S6.out.size)⟩
            case measure => simp [intOf]; omega
        · have tj : decide ((j : Int) < (k : Int)) = false := by simp; omega
          have hfin := S3.out.trans (hbel.mono S3.out.size)
          have HFIN := Lib.hid hfin; clear hfin
          clear hbel
          go_wp2_with fail
          go_at_call 7
          refine (HAW.out _).mono ?_
          rintro e w6 ⟨hq, rfl⟩
          have HQ := Lib.hid hq; clear hq
          go_wp2_with fail
          go_ret
          exact ⟨HFIN.out.trans (HQ.out.mono HFIN.out.size), rfl⟩
end Go.Proofs.YthpgeeaccmgbkaaGreat

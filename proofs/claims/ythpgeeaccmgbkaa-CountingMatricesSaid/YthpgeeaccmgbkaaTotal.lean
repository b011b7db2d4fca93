/- counting.sum, counting.Total. -/
import Derived.Test.YthpgeeaccmgbkaaFrom
import Derived.Test.YthpgeeaccmgbkaaPart12
import Derived.Test.YthpgeeaccmgbkaaInt
namespace Go.Proofs.Ythpgeeaccmgbkaa
open Go.RowKit

theorem take_sum (l : List Int) {j : Nat} {x : Int} (h : l[j]? = some x) : (l.take (j + 1)).sum = (l.take j).sum + x := by
  rw [List.take_add_one, h]
  have e : ∀ a : List Int, (a ++ [x]).sum = a.sum + x := fun a => by
    induction a with
    | nil => simp
    | cons y a ih => simp only [List.cons_append, List.sum_cons, ih]; omega
  exact e _
set_option maxRecDepth 100000 in
set_option maxHeartbeats 3200000 in
theorem csum_any (l : List Int) (p : Nat) (v : Value) (w : World) (hr : Row w v l.length (civ l)) (hs : ∀ z ∈ l, sm p z) (hp : p ≤ 1000000) (hlen : l.length ≤ 255) :
    Calls Try.prog 56 #[v] w (Ret w (IntV l.sum)) := by
  obtain ⟨va, vc, rfl, hle⟩ := hr.slice
  have hT : ∀ j, sm (p + 1) (l.take j).sum := fun j => sm_sum' (fun z hz => hs z (List.mem_of_mem_take hz)) (by rw [List.length_take]; omega)
  have hget : ∀ j, j < l.length → ∃ z, l[j]? = some z ∧ sm p z := fun j hj => ⟨l[j], List.getElem?_eq_getElem hj, hs _ (List.getElem_mem hj)⟩
  have hstep := fun j x (h : l[j]? = some x) => take_sum l h
  have hfull : (l.take l.length).sum = l.sum := by rw [List.take_length]
  have b0 := (Blk.new w 28 [.bool false, .string ⟨#[]⟩]).alloc (.cells #[.bool false, .string ⟨#[]⟩] 28)
  have b1 := Blk.new (w.alloc (.cells #[.bool false, .string ⟨#[]⟩] 28)) 28 [.bool false, .string ⟨#[]⟩]
  have s0 := ((Below.refl w.heap.size w).alloc (Nat.le_refl _) (.cells #[.bool false, .string ⟨#[]⟩] 28)).alloc (by simp) (.cells #[.bool false, .string ⟨#[]⟩] 28)
  simp only [World.size_alloc] at b1
  obtain ⟨w1, hw1⟩ : ∃ w1, (w.alloc (.cells #[.bool false, .string ⟨#[]⟩] 28)).alloc (.cells #[.bool false, .string ⟨#[]⟩] 28) = w1 := ⟨_, rfl⟩
  rw [hw1] at b0 b1 s0
  obtain ⟨m, hm⟩ : ∃ m, m = l.length := ⟨_, rfl⟩
  rw [← hm] at hr hle hfull hlen hget ⊢
  have hsz1 := b1.lt
  obtain ⟨T, hTT⟩ : ∃ T, T = l.sum := ⟨_, rfl⟩
  rw [← hTT] at hfull ⊢
  have hTs := hT m
  rw [hfull] at hTs
  have HT := Lib.hid hT; clear hT
  have HGET := Lib.hid hget; clear hget
  have HSTEP := Lib.hid hstep; clear hstep
  have HFULL := Lib.hid hfull; clear hfull
  have HR := Lib.hid hr; clear hr
  have B0 := Lib.hid b0; clear b0
  have B1 := Lib.hid b1; clear b1
  have S0 := Lib.hid s0; clear s0
  clear hs hm hTT
  go_enter Try.func56, Try.ntmps56
  go_wp2_with fail
  (try rw [hw1])
  clear hw1
  go_loopw [8] (fun i wr => ∃ j : Nat, j ≤ m ∧ i = .int .i64 (j : Int) ∧ Below (w.heap.size + 1) w1 wr ∧ Blk wr (w.heap.size + 1) 28 [.bool (ineg (l.take j).sum), .string (imag (l.take j).sum)]) (fun i _ => m - (intOf i).toNat)
  case atStart => exact ⟨0, Nat.zero_le _, rfl, Below.refl _ _, by rw [List.take_zero, List.sum_nil, ineg_zero, imag_zero]; exact B1.out⟩
  case round =>
    obtain ⟨j, hj, rfl, hbel, hblk⟩ := hrel
    obtain ⟨wo, rfl⟩ : ∃ wo : World, wo = wr := ⟨_, rfl⟩
    have hszo := hbel.size
    have hbl := hblk.lt
    have hbw0 := S0.out.trans (hbel.mono (by omega))
    by_cases hjm : j < m
    · have tj : decide ((j : Int) < (m : Int)) = true := by simp; omega
      obtain ⟨x, hx, hxs⟩ := HGET.out j hjm
      have hst := HSTEP.out j x hx
      have hMs := HT.out j
      obtain ⟨M, hM⟩ : ∃ M, M = (l.take j).sum := ⟨_, rfl⟩
      rw [← hM] at hst hMs hblk
      have hst2 := hst.symm
      have hadd := fun w' => iadd_any (ineg M) (ineg x) (imag M) (imag x) w' (Nat.le_trans hMs.size (by omega)) (Nat.le_trans hxs.size (by omega))
      simp only [ival_canon] at hadd
      obtain ⟨b, o, rfl, hbo, hbc⟩ := HR.out.at_ (by omega)
      obtain ⟨q0, q1⟩ := int_cells hbc hbw0 hbo hx
      have bX := Blk.new wo 28 [.bool (ineg x), .string (imag x)]
      have sX := (Below.refl wo.heap.size wo).alloc (Nat.le_refl _) (.cells #[.bool (ineg x), .string (imag x)] 28)
      have k1 := hblk.keep sX
      have c0 := k1.cell (j := 0) rfl
      have c1 := k1.cell (j := 1) rfl
      have y0 := bX.cell (j := 0) rfl
      have y1 := bX.cell (j := 1) rfl
      have hb1 := hbel.trans (sX.mono (by omega))
      have hix1 : (0 : Int) ≤ (j : Int) := by omega
      have hix2 : (j : Int) < (m : Int) := by omega
      have HST := Lib.hid hst2; clear hst2
      have HADD := Lib.hid hadd; clear hadd
      have K1 := Lib.hid k1; clear k1
      have HB1 := Lib.hid hb1; clear hb1
      clear hst hM hMs hxs hx hbc bX sX hblk hbel hbw0
      go_wp2_with fail
      go_at_call 14
      refine (HADD.out _).mono ?_
      rintro e w4 ⟨hq, rfl⟩
      have k2 := K1.out.keep hq
      have hb2 := HB1.out.trans (hq.mono (by simp; omega))
      have f0 := k2.frozen 0
      have f1 := k2.frozen 1
      have d0 := k2.cell (j := 0) rfl
      have d1 := k2.cell (j := 1) rfl
      have k3 := (k2.set 0 (.bool (ineg (M + x)))).set 1 (.string (imag (M + x)))
      have K3 := Lib.hid k3; clear k3
      have HB2 := Lib.hid hb2; clear hb2
      clear hq k2 c0 c1 y0 y1 q0 q1
      go_wp2_with fail
      go_roundw
      case rel => exact ⟨j + 1, by omega, by go_num, (HB2.out.setCell (p := ⟨w.heap.size + 1, 0, none⟩) (Nat.le_refl _) _).setCell (p := ⟨w.heap.size + 1, 1, none⟩) (Nat.le_refl _) _, by rw [← HST.out]; exact K3.out⟩
      case measure => simp [intOf]; omega
    · have hjm2 : j = m := by omega
      have tj : decide ((j : Int) < (m : Int)) = false := by simp; omega
      rw [hjm2, HFULL.out] at hblk
      have c0 := hblk.cell (j := 0) rfl
      have c1 := hblk.cell (j := 1) rfl
      have r0 := B0.out.below hbel (by omega)
      have g0 := r0.cell (j := 0) rfl
      have g1 := r0.cell (j := 1) rfl
      have f0 := r0.frozen 0
      have f1 := r0.frozen 1
      have r2 := (r0.set 0 (.bool (ineg T))).set 1 (.string (imag T))
      have e0 := r2.cell (j := 0) rfl
      have e1 := r2.cell (j := 1) rfl
      have s6 := (hbw0.setCell (p := ⟨w.heap.size, 0, none⟩) (Nat.le_refl _) (.bool (ineg T))).setCell (p := ⟨w.heap.size, 1, none⟩) (Nat.le_refl _) (.string (imag T))
      have S6 := Lib.hid s6; clear s6
      clear hblk hbel hbw0 r0 r2 hjm2
      go_wp2_with fail
      refine bodyPost_ret (v := IntV T) (by simp [results, Try.results56, go_sem, e0, e1, IntV]) rfl ⟨S6.out, rfl⟩
set_option maxRecDepth 100000 in
set_option maxHeartbeats 3200000 in
theorem total_ok (L : Int) (S n : Nat) (es : List E3) (v : Value) (w : World) (hr : Row w v es.length (ce es)) (hok : okEs es) (hc : chk L (S : Int) es = 0) (hn : n ≤ 4096) :
    Calls Try.prog 23 #[.agg #[.int .i64 L, .int .i64 (S : Int), v], .int .i64 (n : Int)] w (Ret w (.tuple #[IntV (rowK es S allP n).sum, .int .i64 0])) := by
  obtain ⟨va, vc, rfl, hle⟩ := hr.slice
  have hca := chk_all hc
  have bg := (Blk.new w 24 [.int .i64 L, .int .i64 (S : Int), .slice va es.length vc]).alloc (.cells #[.bool false, .string ⟨#[]⟩] 28)
  have br := Blk.new (w.alloc (.cells #[.int .i64 L, .int .i64 (S : Int), .slice va es.length vc] 24)) 28 [.bool false, .string ⟨#[]⟩]
  have s0 := ((Below.refl w.heap.size w).alloc (Nat.le_refl _) (.cells #[.int .i64 L, .int .i64 (S : Int), .slice va es.length vc] 24)).alloc (by simp) (.cells #[.bool false, .string ⟨#[]⟩] 28)
  simp only [World.size_alloc] at br
  have hr1 := hr.below s0 (Nat.le_refl _)
  have hfr := fun w' h => cfrom_ok L S n es (.slice va es.length vc) w' h hok hc hn
  have hrl : (rowK es S allP n).length = S := by simp [rowK]
  have hsm : ∀ z ∈ rowK es S allP n, sm (2 * n + 1) z := fun z hz => by
    obtain ⟨s, -, rfl⟩ := List.mem_map.1 (show z ∈ (List.range S).map fun (s : Nat) => cw es allP n (s : Int) from hz)
    exact cw_sm hca.2.2.2.1 allP n s
  have hcs := fun v' w' (h : Row w' v' (rowK es S allP n).length (civ (rowK es S allP n))) => csum_any (rowK es S allP n) (2 * n + 1) v' w' h hsm (by omega) (by omega)
  rw [hrl] at hcs
  obtain ⟨R, hR⟩ : ∃ R, R = rowK es S allP n := ⟨_, rfl⟩
  rw [← hR] at hfr hcs hrl ⊢
  obtain ⟨T, hT⟩ : ∃ T, T = R.sum := ⟨_, rfl⟩
  rw [← hT] at hcs ⊢
  obtain ⟨m, hm⟩ : ∃ m, m = es.length := ⟨_, rfl⟩
  rw [← hm] at bg br s0 hr1 hfr ⊢
  have hS64 : S ≤ 64 := by omega
  have x0 := bg.cell (j := 0) rfl
  have x1 := bg.cell (j := 1) rfl
  have x2 := bg.cell (j := 2) rfl
  have HFR := Lib.hid hfr; clear hfr
  have HCS := Lib.hid hcs; clear hcs
  have BG := Lib.hid bg; clear bg
  have BR := Lib.hid br; clear br
  have S0 := Lib.hid s0; clear s0
  have HR1 := Lib.hid hr1; clear hr1
  have HRL := Lib.hid hrl; clear hrl
  clear hr hok hc hca hR hT hsm hm hle
  go_enter Try.func23, Try.ntmps23
  go_wp2_with fail
  go_at_call 20
  refine (HFR.out _ HR1.out).mono ?_
  rintro e w2 ⟨hq, b, rfl, hbr⟩
  have s2 := S0.out.trans (hq.mono S0.out.size)
  have br2 := BR.out.keep hq
  have hrow : Row w2 (.slice (some ⟨b, 0, none⟩) S S) S (civ R) := by
    have h := blk_row hbr (by rw [HRL.out]; omega)
    rw [HRL.out] at h
    exact h
  have hcw := HCS.out _ w2 hrow
  have S2 := Lib.hid s2; clear s2
  have BR2 := Lib.hid br2; clear br2
  have HCW := Lib.hid hcw; clear hcw
  clear hq hbr hrow x0 x1 x2
  go_wp2_with fail
  go_at_call 56
  refine HCW.out.mono ?_
  rintro e w3 ⟨hq, rfl⟩
  have s3 := S2.out.trans (hq.mono S2.out.size)
  have br3 := BR2.out.keep hq
  have f0 := br3.frozen 0
  have f1 := br3.frozen 1
  have g0 := br3.cell (j := 0) rfl
  have g1 := br3.cell (j := 1) rfl
  have r2 := (br3.set 0 (.bool (ineg T))).set 1 (.string (imag T))
  have e0 := r2.cell (j := 0) rfl
  have e1 := r2.cell (j := 1) rfl
  have s6 := (s3.setCell (p := ⟨w.heap.size + 1, 0, none⟩) (show w.heap.size ≤ w.heap.size + 1 by omega) (.bool (ineg T))).setCell (p := ⟨w.heap.size + 1, 1, none⟩) (show w.heap.size ≤ w.heap.size + 1 by omega) (.string (imag T))
  have S6 := Lib.hid s6; clear s6
  clear hq s3 br3 r2
  go_wp2_with fail
  refine bodyPost_ret (v := .tuple #[IntV T, .int .i64 0]) (by simp [results, Try.results23, go_sem, e0, e1, IntV]) rfl ⟨S6.out, rfl⟩
end Go.Proofs.Ythpgeeaccmgbkaa

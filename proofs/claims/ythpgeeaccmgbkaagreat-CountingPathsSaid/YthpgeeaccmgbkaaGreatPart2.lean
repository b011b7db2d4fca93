/- Contracts and plain laws of several functions, one after the other: Total, C22E, OrbE, RPath. -/
import Derived.Test.YthpgeeaccmgbkaaGreatFrom
import Derived.Test.YthpgeeaccmgbkaaGreatPart5
import Derived.Test.YthpgeeaccmgbkaaGreatInt
import Derived.Test.YthpgeeaccmgbkaaGreatR22E
import Derived.Test.YthpgeeaccmgbkaaGreatPart10
import Derived.Test.YthpgeeaccmgbkaaGreatPart14
import Derived.Test.YthpgeeaccmgbkaaGreatPart11
/- counting.sum, counting.Total. -/
namespace Go.Proofs.YthpgeeaccmgbkaaGreat
open Go.RowKit

theorem take_sum (l : List Int) {j : Nat} {x : Int} (h : l[j]? = some x) : (l.take (j + 1)).sum = (l.take j).sum + x := by
  rw [List.take_add_one, h]
  have e : ∀ a : List Int, (a ++ [x]).sum = a.sum + x := fun a => by
    induction a with
    | nil => simp
    | cons y a ih => simp only [List.cons_append, List.sum_cons, ih]; omega
  exact e _
set_option maxRecDepth 100000 in
set_option maxHeartbeats 3200000 in
theorem csum_any (l : List Int) (p : Nat) (v : Value) (w : World) (hr : Row w v l.length (civ l)) (hs : ∀ z ∈ l, sm p z) (hp : p ≤ 1000000) (hlen : l.length ≤ 255) :
    Calls Tryz.prog 39 #[v] w (Ret w (IntV l.sum)) := by
  obtain ⟨va, vc, rfl, hle⟩ := hr.slice
  have hT : ∀ j, sm (p + 1) (l.take j).sum := fun j => sm_sum' (fun z hz => hs z (List.mem_of_mem_take hz)) (by rw [List.length_take]; omega)
  have hget : ∀ j, j < l.length → ∃ z, l[j]? = some z ∧ sm p z := fun j hj => ⟨l[j], List.getElem?_eq_getElem hj, hs _ (List.getElem_mem hj)⟩
  have hstep := fun j x (h : l[j]? = some x) => take_sum l h
  have hfull : (l.take l.length).sum = l.sum := by rw [List.take_length]
  have b0 := (Blk.new w 28 [.bool false, .string ⟨#[]⟩]).alloc (.cells #[.bool false, .string ⟨#[]⟩] 28)
  have b1 := Blk.new (w.alloc (.cells #[.bool false, .string ⟨#[]⟩] 28)) 28 [.bool false, .string ⟨#[]⟩]
  have s0 := ((Below.refl w.heap.size w).alloc (Nat.le_refl _) (.cells #[.bool false, .string ⟨#[]⟩] 28)).alloc (by simp) (.cells #[.bool false, .string ⟨#[]⟩] 28)
  simp only [World.size_alloc] at b1
  obtain ⟨w1, hw1⟩ : ∃ w1, (w.alloc (.cells #[.bool false, .string ⟨#[]⟩] 28)).alloc (.cells #[.bool false, .string ⟨#[]⟩] 28) = w1 := ⟨_, rfl⟩
  rw [hw1] at b0 b1 s0
  obtain ⟨m, hm⟩ : ∃ m, m = l.length := ⟨_, rfl⟩
  rw [← hm] at hr hle hfull hlen hget ⊢
  have hsz1 := b1.lt
  obtain ⟨T, hTT⟩ : ∃ T, T = l.sum := ⟨_, rfl⟩
  rw [← hTT] at hfull ⊢
  have hTs := hT m
  rw [hfull] at hTs
  have HT := Lib.hid hT; clear hT
  have HGET := Lib.hid hget; clear hget
  have HSTEP := Lib.hid hstep; clear hstep
  have HFULL := Lib.hid hfull; clear hfull
  have HR := Lib.hid hr; clear hr
  have B0 := Lib.hid b0; clear b0
  have B1 := Lib.hid b1; clear b1
  have S0 := Lib.hid s0; clear s0
  clear hs hm hTT
  go_enter Tryz.func39, Tryz.ntmps39
  go_wp2_with fail
  (try rw [hw1])
  clear hw1
  go_loopw [8] (fun i wr => ∃ j : Nat, j ≤ m ∧ i = .int .i64 (j : Int) ∧ Below (w.heap.size + 1) w1 wr ∧ Blk wr (w.heap.size + 1) 28 [.bool (ineg (l.take j).sum), .string (imag (l.take j).sum)]) (fun i _ => m - (intOf i).toNat)
  case atStart => exact ⟨0, Nat.zero_le _, rfl, Below.refl _ _, by rw [List.take_zero, List.sum_nil, ineg_zero, imag_zero]; exact B1.out⟩
  case round =>
    obtain ⟨j, hj, rfl, hbel, hblk⟩ := hrel
    obtain ⟨wo, rfl⟩ : ∃ wo : World, wo = wr := ⟨_, rfl⟩
    have hszo := hbel.size
    have hbl := hblk.lt
    have hbw0 := S0.out.trans (hbel.mono (by omega))
    by_cases hjm : j < m
    · have tj : decide ((j : Int) < (m : Int)) = true := by simp; omega
      obtain ⟨x, hx, hxs⟩ := HGET.out j hjm
      have hst := HSTEP.out j x hx
      have hMs := HT.out j
      obtain ⟨M, hM⟩ : ∃ M, M = (l.take j).sum := ⟨_, rfl⟩
      rw [← hM] at hst hMs hblk
      have hst2 := hst.symm
      have hadd := fun w' => iadd_any (ineg M) (ineg x) (imag M) (imag x) w' (Nat.le_trans hMs.size (by omega)) (Nat.le_trans hxs.size (by omega))
      simp only [ival_canon] at hadd
      obtain ⟨b, o, rfl, hbo, hbc⟩ := HR.out.at_ (by omega)
      obtain ⟨q0, q1⟩ := int_cells hbc hbw0 hbo hx
      have bX := Blk.new wo 28 [.bool (ineg x), .string (imag x)]
      have sX := (Below.refl wo.heap.size wo).alloc (Nat.le_refl _) (.cells #[.bool (ineg x), .string (imag x)] 28)
      have k1 := hblk.keep sX
      have c0 := k1.cell (j := 0) rfl
      have c1 := k1.cell (j := 1) rfl
      have y0 := bX.cell (j := 0) rfl
      have y1 := bX.cell (j := 1) rfl
      have hb1 := hbel.trans (sX.mono (by omega))
      have hix1 : (0 : Int) ≤ (j : Int) := by omega
      have hix2 : (j : Int) < (m : Int) := by omega
      have HST := Lib.hid hst2; clear hst2
      have HADD := Lib.hid hadd; clear hadd
      have K1 := Lib.hid k1; clear k1
      have HB1 := Lib.hid hb1; clear hb1
      clear hst hM hMs hxs hx hbc bX sX hblk hbel hbw0
      go_wp2_with fail
      go_at_call 44
      refine (HADD.out _).mono ?_
      rintro e w4 ⟨hq, rfl⟩
      have k2 := K1.out.keep hq
      have hb2 := HB1.out.trans (hq.mono (by simp; omega))
      have f0 := k2.frozen 0
      have f1 := k2.frozen 1
      have d0 := k2.cell (j := 0) rfl
      have d1 := k2.cell (j := 1) rfl
      have k3 := (k2.set 0 (.bool (ineg (M + x)))).set 1 (.string (imag (M + x)))
      have K3 := Lib.hid k3; clear k3
      have HB2 := Lib.hid hb2; clear hb2
      clear hq k2 c0 c1 y0 y1 q0 q1
      go_wp2_with fail
      go_roundw
      case rel => exact ⟨j + 1, by omega, by go_num, (HB2.out.setCell (p := ⟨w.heap.size + 1, 0, none⟩) (Nat.le_refl _) _).setCell (p := ⟨w.heap.size + 1, 1, none⟩) (Nat.le_refl _) _, by rw [← HST.out]; exact K3.out⟩
      case measure => simp [intOf]; omega
    · have hjm2 : j = m := by omega
      have tj : decide ((j : Int) < (m : Int)) = false := by simp; omega
      rw [hjm2, HFULL.out] at hblk
      have c0 := hblk.cell (j := 0) rfl
      have c1 := hblk.cell (j := 1) rfl
      have r0 := B0.out.below hbel (by omega)
      have g0 := r0.cell (j := 0) rfl
      have g1 := r0.cell (j := 1) rfl
      have f0 := r0.frozen 0
      have f1 := r0.frozen 1
      have r2 := (r0.set 0 (.bool (ineg T))).set 1 (.string (imag T))
      have e0 := r2.cell (j := 0) rfl
      have e1 := r2.cell (j := 1) rfl
      have s6 := (hbw0.setCell (p := ⟨w.heap.size, 0, none⟩) (Nat.le_refl _) (.bool (ineg T))).setCell (p := ⟨w.heap.size, 1, none⟩) (Nat.le_refl _) (.string (imag T))
      have S6 := Lib.hid s6; clear s6
      clear hblk hbel hbw0 r0 r2 hjm2
      go_wp2_with fail
      refine bodyPost_ret (v := IntV T) (by simp [results, Tryz.results39, go_sem, e0, e1, IntV]) rfl ⟨S6.out, rfl⟩
set_option maxRecDepth 100000 in
set_option maxHeartbeats 3200000 in
theorem total_ok (L : Int) (S n : Nat) (es : List E3) (v : Value) (w : World) (hr : Row w v es.length (ce es)) (hok : okEs es) (hc : chk L (S : Int) es = 0) (hn : n ≤ 4096) :
    Calls Tryz.prog 12 #[.agg #[.int .i64 L, .int .i64 (S : Int), v], .int .i64 (n : Int)] w (Ret w (.tuple #[IntV (rowK es S allP n).sum, .int .i64 0])) := by
  obtain ⟨va, vc, rfl, hle⟩ := hr.slice
  have hca := chk_all hc
  have bg := (Blk.new w 24 [.int .i64 L, .int .i64 (S : Int), .slice va es.length vc]).alloc (.cells #[.bool false, .string ⟨#[]⟩] 28)
  have br := Blk.new (w.alloc (.cells #[.int .i64 L, .int .i64 (S : Int), .slice va es.length vc] 24)) 28 [.bool false, .string ⟨#[]⟩]
  have s0 := ((Below.refl w.heap.size w).alloc (Nat.le_refl _) (.cells #[.int .i64 L, .int .i64 (S : Int), .slice va es.length vc] 24)).alloc (by simp) (.cells #[.bool false, .string ⟨#[]⟩] 28)
  simp only [World.size_alloc] at br
  have hr1 := hr.below s0 (Nat.le_refl _)
  have hfr := fun w' h => cfrom_ok L S n es (.slice va es.length vc) w' h hok hc hn
  have hrl : (rowK es S allP n).length = S := by simp [rowK]
  have hsm : ∀ z ∈ rowK es S allP n, sm (2 * n + 1) z := fun z hz => by
    obtain ⟨s, -, rfl⟩ := List.mem_map.1 (show z ∈ (List.range S).map fun (s : Nat) => cw es allP n (s : Int) from hz)
    exact cw_sm hca.2.2.2.1 allP n s
  have hcs := fun v' w' (h : Row w' v' (rowK es S allP n).length (civ (rowK es S allP n))) => csum_any (rowK es S allP n) (2 * n + 1) v' w' h hsm (by omega) (by omega)
  rw [hrl] at hcs
  obtain ⟨R, hR⟩ : ∃ R, R = rowK es S allP n := ⟨_, rfl⟩
  rw [← hR] at hfr hcs hrl ⊢
  obtain ⟨T, hT⟩ : ∃ T, T = R.sum := ⟨_, rfl⟩
  rw [← hT] at hcs ⊢
  obtain ⟨m, hm⟩ : ∃ m, m = es.length := ⟨_, rfl⟩
  rw [← hm] at bg br s0 hr1 hfr ⊢
  have hS64 : S ≤ 64 := by omega
  have x0 := bg.cell (j := 0) rfl
  have x1 := bg.cell (j := 1) rfl
  have x2 := bg.cell (j := 2) rfl
  have HFR := Lib.hid hfr; clear hfr
  have HCS := Lib.hid hcs; clear hcs
  have BG := Lib.hid bg; clear bg
  have BR := Lib.hid br; clear br
  have S0 := Lib.hid s0; clear s0
  have HR1 := Lib.hid hr1; clear hr1
  have HRL := Lib.hid hrl; clear hrl
  clear hr hok hc hca hR hT hsm hm hle
  go_enter Tryz.func12, Tryz.ntmps12
  go_wp2_with fail
  go_at_call 10
  refine (HFR.out _ HR1.out).mono ?_
  rintro e w2 ⟨hq, b, rfl, hbr⟩
  have s2 := S0.out.trans (hq.mono S0.out.size)
  have br2 := BR.out.keep hq
  have hrow : Row w2 (.slice (some ⟨b, 0, none⟩) S S) S (civ R) := by
    have h := blk_row hbr (by rw [HRL.out]; omega)
    rw [HRL.out] at h
    exact h
  have hcw := HCS.out _ w2 hrow
  have S2 := Lib.hid s2; clear s2
  have BR2 := Lib.hid br2; clear br2
  have HCW := Lib.hid hcw; clear hcw
  clear hq hbr hrow x0 x1 x2
  go_wp2_with fail
  go_at_call 39
  refine HCW.out.mono ?_
  rintro e w3 ⟨hq, rfl⟩
  have s3 := S2.out.trans (hq.mono S2.out.size)
  have br3 := BR2.out.keep hq
  have f0 := br3.frozen 0
  have f1 := br3.frozen 1
  have g0 := br3.cell (j := 0) rfl
  have g1 := br3.cell (j := 1) rfl
  have r2 := (br3.set 0 (.bool (ineg T))).set 1 (.string (imag T))
  have e0 := r2.cell (j := 0) rfl
  have e1 := r2.cell (j := 1) rfl
  have s6 := (s3.setCell (p := ⟨w.heap.size + 1, 0, none⟩) (show w.heap.size ≤ w.heap.size + 1 by omega) (.bool (ineg T))).setCell (p := ⟨w.heap.size + 1, 1, none⟩) (show w.heap.size ≤ w.heap.size + 1 by omega) (.string (imag T))
  have S6 := Lib.hid s6; clear s6
  clear hq s3 br3 r2
  go_wp2_with fail
  refine bodyPost_ret (v := .tuple #[IntV T, .int .i64 0]) (by simp [results, Tryz.results12, go_sem, e0, e1, IntV]) rfl ⟨S6.out, rfl⟩
end Go.Proofs.YthpgeeaccmgbkaaGreat

/- The refusals of counting.check, Paths, From, Total, Closed, Orbits. -/
namespace Go.Proofs.YthpgeeaccmgbkaaGreat
open Go.RowKit

set_option maxRecDepth 100000 in
set_option maxHeartbeats 3200000 in
theorem ccheck_err (L S : Int) (n lo : Int) (es : List E3) (v : Value) (w : World) (hr : Row w v es.length (ce es)) (hok : okEs es) :
    Calls Tryz.prog 32 #[.agg #[.int .i64 L, .int .i64 S, v], .int .i64 lo, .int .i64 n] w (Ret w (.int .i64 (errN L S es lo n))) := by
  have s0 := (Below.refl w.heap.size w).alloc (Nat.le_refl _) (.cells #[.int .i64 L, .int .i64 S, v] 24)
  have b0 := Blk.new w 24 [.int .i64 L, .int .i64 S, v]
  have hr0 := hr.below s0 (Nat.le_refl _)
  have x0 := b0.cell (j := 0) rfl
  have x1 := b0.cell (j := 1) rfl
  have x2 := b0.cell (j := 2) rfl
  have hck := check_any L S es v _ hr0 hok
  obtain ⟨c, hc⟩ : ∃ c, c = chk L S es := ⟨_, rfl⟩
  rw [← hc] at hck
  obtain ⟨E, hE⟩ : ∃ E, E = errN L S es lo n := ⟨_, rfl⟩
  have hE1 : c ≠ 0 → 1 = E := fun h => by rw [hE, errN_one (by rwa [← hc])]
  have hE2 : c = 0 → (n < lo ∨ 4096 < n) → 2 = E := fun h h2 => by rw [hE, errN_two (by rwa [← hc]) h2]
  have hE3 : c = 0 → ¬ (n < lo ∨ 4096 < n) → 0 = E := fun h h2 => by rw [hE, errN_ok (by rwa [← hc]) h2]
  rw [← hE]
  have HE1 := Lib.hid hE1; clear hE1
  have HE2 := Lib.hid hE2; clear hE2
  have HE3 := Lib.hid hE3; clear hE3
  have HCK := Lib.hid hck; clear hck
  clear hc hE
  have S0 := Lib.hid s0; clear s0
  have B0 := Lib.hid b0; clear b0
  have HR := Lib.hid hr0; clear hr0
  clear hr
  go_enter Tryz.func32, Tryz.ntmps32
  go_wp2_with fail
  go_at_call 31
  refine HCK.out.mono ?_
  rintro e w1 ⟨hq, rfl⟩
  clear x0 x1 x2
  have k0 := B0.out.keep hq
  have y0 := k0.cell (j := 0) rfl
  have y1 := k0.cell (j := 1) rfl
  have y2 := k0.cell (j := 2) rfl
  have s1 := S0.out.trans (hq.mono S0.out.size)
  have hr1 := HR.out.below hq (Nat.le_refl _)
  have S1 := Lib.hid s1; clear s1
  have HR1 := Lib.hid hr1; clear hr1
  have K0 := Lib.hid k0; clear k0
  clear hq
  by_cases hn : c = 0
  · have hn2 : (c != 0) = false := by simp [hn]
    by_cases h1 : n < lo
    · have d1 : decide (n < lo) = true := by simpa using h1
      go_wp2_with fail
      go_ret
      exact ⟨S1.out, by rw [HE2.out hn (Or.inl h1)]; rfl⟩
    · have d1 : decide (n < lo) = false := by simpa using h1
      by_cases h2 : 4096 < n
      · have d2 : decide (4096 < n) = true := by simpa using h2
        go_wp2_with fail
        go_ret
        exact ⟨S1.out, by rw [HE2.out hn (Or.inr h2)]; rfl⟩
      · have d2 : decide (4096 < n) = false := by simpa using h2
        go_wp2_with fail
        go_ret
        exact ⟨S1.out, by rw [HE3.out hn (by omega)]; rfl⟩
  · have hn2 : (c != 0) = true := by simpa using hn
    go_wp2_with fail
    go_ret
    exact ⟨S1.out, by rw [HE1.out hn]; rfl⟩
set_option maxRecDepth 100000 in
set_option maxHeartbeats 3200000 in
theorem cpaths_e1 (L S : Int) (s t n : Int) (es : List E3) (v : Value) (w : World) (hr : Row w v es.length (ce es)) (hok : okEs es) (hne : chk L S es ≠ 0) :
    Calls Tryz.prog 8 #[.agg #[.int .i64 L, .int .i64 S, v], .int .i64 s, .int .i64 t, .int .i64 n] w (Ret w (.tuple #[IntV 0, .int .i64 1])) := by
  have s0 := ((Below.refl w.heap.size w).alloc (Nat.le_refl _) (.cells #[.int .i64 L, .int .i64 S, v] 24)).alloc (by simp) (.cells #[.bool false, .string ⟨#[]⟩] 28)
  have b0 := (Blk.new w 24 [.int .i64 L, .int .i64 S, v]).alloc (.cells #[.bool false, .string ⟨#[]⟩] 28)
  have b1 := Blk.new (w.alloc (.cells #[.int .i64 L, .int .i64 S, v] 24)) 28 [.bool false, .string ⟨#[]⟩]
  simp only [World.size_alloc] at b1
  have hnw : w.heap.size < w.heap.size + 1 := by omega
  have hr0 := hr.below s0 (Nat.le_refl _)
  have x0 := b0.cell (j := 0) rfl
  have x1 := b0.cell (j := 1) rfl
  have x2 := b0.cell (j := 2) rfl
  have hck := check_any L S es v _ hr0 hok
  obtain ⟨c, hc⟩ : ∃ c, c = chk L S es := ⟨_, rfl⟩
  rw [← hc] at hck
  rw [← hc] at hne
  have hn2 : (c != 0) = true := by simpa using hne
  have HCK := Lib.hid hck; clear hck
  clear hc hne
  have S0 := Lib.hid s0; clear s0
  have B0 := Lib.hid b0; clear b0
  have B1 := Lib.hid b1; clear b1
  have HR := Lib.hid hr0; clear hr0
  clear hr
  go_enter Tryz.func8, Tryz.ntmps8
  go_wp2_with fail
  go_at_call 31
  refine HCK.out.mono ?_
  rintro e w1 ⟨hq, rfl⟩
  clear x0 x1 x2
  have k0 := B0.out.keep hq
  have y0 := k0.cell (j := 0) rfl
  have y1 := k0.cell (j := 1) rfl
  have y2 := k0.cell (j := 2) rfl
  have k1 := B1.out.keep hq
  have z0 := k1.cell (j := 0) rfl
  have z1 := k1.cell (j := 1) rfl
  have f0 := k1.frozen 0
  have f1 := k1.frozen 1
  have s1 := S0.out.trans (hq.mono S0.out.size)
  have hr1 := HR.out.below hq (Nat.le_refl _)
  have S1 := Lib.hid s1; clear s1
  have HR1 := Lib.hid hr1; clear hr1
  have K0 := Lib.hid k0; clear k0
  have K1 := Lib.hid k1; clear k1
  clear hq
  go_wp2_with fail
  refine bodyPost_ret (v := .tuple #[.agg #[.bool false, .string ⟨#[]⟩], .int .i64 1]) (by simp [results, Tryz.results8, go_sem, z0, z1]) rfl ⟨(S1.out.setCell (p := ⟨w.heap.size + 1, 0, none⟩) (Nat.le_succ _) _).setCell (p := ⟨w.heap.size + 1, 1, none⟩) (Nat.le_succ _) _, by rw [intv_zero]⟩
set_option maxRecDepth 100000 in
set_option maxHeartbeats 3200000 in
theorem cpaths_e2 (L S : Int) (s t n : Int) (es : List E3) (v : Value) (w : World) (hr : Row w v es.length (ce es)) (hok : okEs es) (hc0 : chk L S es = 0) (hb : s < 0 ∨ S ≤ s ∨ t < 0 ∨ S ≤ t) :
    Calls Tryz.prog 8 #[.agg #[.int .i64 L, .int .i64 S, v], .int .i64 s, .int .i64 t, .int .i64 n] w (Ret w (.tuple #[IntV 0, .int .i64 25])) := by
  have s0 := ((Below.refl w.heap.size w).alloc (Nat.le_refl _) (.cells #[.int .i64 L, .int .i64 S, v] 24)).alloc (by simp) (.cells #[.bool false, .string ⟨#[]⟩] 28)
  have b0 := (Blk.new w 24 [.int .i64 L, .int .i64 S, v]).alloc (.cells #[.bool false, .string ⟨#[]⟩] 28)
  have b1 := Blk.new (w.alloc (.cells #[.int .i64 L, .int .i64 S, v] 24)) 28 [.bool false, .string ⟨#[]⟩]
  simp only [World.size_alloc] at b1
  have hnw : w.heap.size < w.heap.size + 1 := by omega
  have hr0 := hr.below s0 (Nat.le_refl _)
  have x0 := b0.cell (j := 0) rfl
  have x1 := b0.cell (j := 1) rfl
  have x2 := b0.cell (j := 2) rfl
  have hck := check_any L S es v _ hr0 hok
  obtain ⟨c, hc⟩ : ∃ c, c = chk L S es := ⟨_, rfl⟩
  rw [← hc] at hck
  rw [hc0] at hc
  subst hc
  clear hc0
  have hb2 : s < 0 ∨ (¬ s < 0 ∧ S ≤ s) ∨ (¬ s < 0 ∧ ¬ S ≤ s ∧ t < 0) ∨ (¬ s < 0 ∧ ¬ S ≤ s ∧ ¬ t < 0 ∧ S ≤ t) := by omega
  clear hb
  have HCK := Lib.hid hck; clear hck
  have S0 := Lib.hid s0; clear s0
  have B0 := Lib.hid b0; clear b0
  have B1 := Lib.hid b1; clear b1
  have HR := Lib.hid hr0; clear hr0
  clear hr
  go_enter Tryz.func8, Tryz.ntmps8
  go_wp2_with fail
  go_at_call 31
  refine HCK.out.mono ?_
  rintro e w1 ⟨hq, rfl⟩
  clear x0 x1 x2
  have k0 := B0.out.keep hq
  have y0 := k0.cell (j := 0) rfl
  have y1 := k0.cell (j := 1) rfl
  have y2 := k0.cell (j := 2) rfl
  have k1 := B1.out.keep hq
  have z0 := k1.cell (j := 0) rfl
  have z1 := k1.cell (j := 1) rfl
  have f0 := k1.frozen 0
  have f1 := k1.frozen 1
  have s1 := S0.out.trans (hq.mono S0.out.size)
  have hr1 := HR.out.below hq (Nat.le_refl _)
  have S1 := Lib.hid s1; clear s1
  have HR1 := Lib.hid hr1; clear hr1
  have K0 := Lib.hid k0; clear k0
  have K1 := Lib.hid k1; clear k1
  clear hq
  rcases hb2 with hb | ⟨h1, hb⟩ | ⟨h1, h2, hb⟩ | ⟨h1, h2, h3, hb⟩
  · go_wp2_with fail
    refine bodyPost_ret (v := .tuple #[.agg #[.bool false, .string ⟨#[]⟩], .int .i64 25]) (by simp [results, Tryz.results8, go_sem, z0, z1]) rfl ⟨(S1.out.setCell (p := ⟨w.heap.size + 1, 0, none⟩) (Nat.le_succ _) _).setCell (p := ⟨w.heap.size + 1, 1, none⟩) (Nat.le_succ _) _, by rw [intv_zero]⟩
  · go_wp2_with fail
    refine bodyPost_ret (v := .tuple #[.agg #[.bool false, .string ⟨#[]⟩], .int .i64 25]) (by simp [results, Tryz.results8, go_sem, z0, z1]) rfl ⟨(S1.out.setCell (p := ⟨w.heap.size + 1, 0, none⟩) (Nat.le_succ _) _).setCell (p := ⟨w.heap.size + 1, 1, none⟩) (Nat.le_succ _) _, by rw [intv_zero]⟩
  · go_wp2_with fail
    refine bodyPost_ret (v := .tuple #[.agg #[.bool false, .string ⟨#[]⟩], .int .i64 25]) (by simp [results, Tryz.results8, go_sem, z0, z1]) rfl ⟨(S1.out.setCell (p := ⟨w.heap.size + 1, 0, none⟩) (Nat.le_succ _) _).setCell (p := ⟨w.heap.size + 1, 1, none⟩) (Nat.le_succ _) _, by rw [intv_zero]⟩
  · go_wp2_with fail
    refine bodyPost_ret (v := .tuple #[.agg #[.bool false, .string ⟨#[]⟩], .int .i64 25]) (by simp [results, Tryz.results8, go_sem, z0, z1]) rfl ⟨(S1.out.setCell (p := ⟨w.heap.size + 1, 0, none⟩) (Nat.le_succ _) _).setCell (p := ⟨w.heap.size + 1, 1, none⟩) (Nat.le_succ _) _, by rw [intv_zero]⟩
set_option maxRecDepth 100000 in
set_option maxHeartbeats 3200000 in
theorem cpaths_e3 (L S : Int) (s t n : Int) (es : List E3) (v : Value) (w : World) (hr : Row w v es.length (ce es)) (hok : okEs es) (hc0 : chk L S es = 0) (hs : ¬ (s < 0 ∨ S ≤ s ∨ t < 0 ∨ S ≤ t)) (hb : n < 0 ∨ 4096 < n) :
    Calls Tryz.prog 8 #[.agg #[.int .i64 L, .int .i64 S, v], .int .i64 s, .int .i64 t, .int .i64 n] w (Ret w (.tuple #[IntV 0, .int .i64 2])) := by
  have s0 := ((Below.refl w.heap.size w).alloc (Nat.le_refl _) (.cells #[.int .i64 L, .int .i64 S, v] 24)).alloc (by simp) (.cells #[.bool false, .string ⟨#[]⟩] 28)
  have b0 := (Blk.new w 24 [.int .i64 L, .int .i64 S, v]).alloc (.cells #[.bool false, .string ⟨#[]⟩] 28)
  have b1 := Blk.new (w.alloc (.cells #[.int .i64 L, .int .i64 S, v] 24)) 28 [.bool false, .string ⟨#[]⟩]
  simp only [World.size_alloc] at b1
  have hnw : w.heap.size < w.heap.size + 1 := by omega
  have hr0 := hr.below s0 (Nat.le_refl _)
  have x0 := b0.cell (j := 0) rfl
  have x1 := b0.cell (j := 1) rfl
  have x2 := b0.cell (j := 2) rfl
  have hcc := fun w' h => ccheck_err L S n 0 es v w' h hok
  have he := errN_two (lo := 0) (n := n) hc0 hb
  simp only [he] at hcc
  have HCC := Lib.hid hcc; clear hcc
  have hck := check_any L S es v _ hr0 hok
  obtain ⟨c, hc⟩ : ∃ c, c = chk L S es := ⟨_, rfl⟩
  rw [← hc] at hck
  rw [hc0] at hc
  subst hc
  clear hc0
  have h1 : ¬ s < 0 := by omega
  have h2 : ¬ S ≤ s := by omega
  have h3 : ¬ t < 0 := by omega
  have h4 : ¬ S ≤ t := by omega
  clear hb hs he
  have HCK := Lib.hid hck; clear hck
  have S0 := Lib.hid s0; clear s0
  have B0 := Lib.hid b0; clear b0
  have B1 := Lib.hid b1; clear b1
  have HR := Lib.hid hr0; clear hr0
  clear hr
  go_enter Tryz.func8, Tryz.ntmps8
  go_wp2_with fail
  go_at_call 31
  refine HCK.out.mono ?_
  rintro e w1 ⟨hq, rfl⟩
  clear x0 x1 x2
  have k0 := B0.out.keep hq
  have y0 := k0.cell (j := 0) rfl
  have y1 := k0.cell (j := 1) rfl
  have y2 := k0.cell (j := 2) rfl
  have k1 := B1.out.keep hq
  have z0 := k1.cell (j := 0) rfl
  have z1 := k1.cell (j := 1) rfl
  have f0 := k1.frozen 0
  have f1 := k1.frozen 1
  have s1 := S0.out.trans (hq.mono S0.out.size)
  have hr1 := HR.out.below hq (Nat.le_refl _)
  have S1 := Lib.hid s1; clear s1
  have HR1 := Lib.hid hr1; clear hr1
  have K0 := Lib.hid k0; clear k0
  have K1 := Lib.hid k1; clear k1
  clear hq
  go_wp2_with fail
  go_at_call 32
  refine (HCC.out _ HR1.out).mono ?_
  rintro e w2 ⟨hq, rfl⟩
  clear z0 z1 f0 f1
  have k1 := K1.out.keep hq
  have z0 := k1.cell (j := 0) rfl
  have z1 := k1.cell (j := 1) rfl
  have f0 := k1.frozen 0
  have f1 := k1.frozen 1
  have s2 := S1.out.trans (hq.mono S1.out.size)
  have S2 := Lib.hid s2; clear s2
  clear k1 hq
  go_wp2_with fail
  refine bodyPost_ret (v := .tuple #[.agg #[.bool false, .string ⟨#[]⟩], .int .i64 2]) (by simp [results, Tryz.results8, go_sem, z0, z1]) rfl ⟨(S2.out.setCell (p := ⟨w.heap.size + 1, 0, none⟩) (Nat.le_succ _) _).setCell (p := ⟨w.heap.size + 1, 1, none⟩) (Nat.le_succ _) _, by rw [intv_zero]⟩
set_option maxRecDepth 100000 in
set_option maxHeartbeats 3200000 in
theorem cclosed_e (L S : Int) (n c : Int) (es : List E3) (v : Value) (w : World) (hr : Row w v es.length (ce es)) (hok : okEs es) (hE : errN L S es 0 n = c) (hne : c ≠ 0) :
    Calls Tryz.prog 14 #[.agg #[.int .i64 L, .int .i64 S, v], .int .i64 n] w (Ret w (.tuple #[IntV 0, .int .i64 c])) := by
  have s0 := ((Below.refl w.heap.size w).alloc (Nat.le_refl _) (.cells #[.int .i64 L, .int .i64 S, v] 24)).alloc (by simp) (.cells #[.bool false, .string ⟨#[]⟩] 28)
  have b0 := (Blk.new w 24 [.int .i64 L, .int .i64 S, v]).alloc (.cells #[.bool false, .string ⟨#[]⟩] 28)
  have b1 := Blk.new (w.alloc (.cells #[.int .i64 L, .int .i64 S, v] 24)) 28 [.bool false, .string ⟨#[]⟩]
  simp only [World.size_alloc] at b1
  have hnw : w.heap.size < w.heap.size + 1 := by omega
  have hr0 := hr.below s0 (Nat.le_refl _)
  have x0 := b0.cell (j := 0) rfl
  have x1 := b0.cell (j := 1) rfl
  have x2 := b0.cell (j := 2) rfl
  have hck := ccheck_err L S n 0 es v _ hr0 hok
  rw [hE] at hck
  have hn2 : (c != 0) = true := by simpa using hne
  have HCK := Lib.hid hck; clear hck
  clear hE hne
  have S0 := Lib.hid s0; clear s0
  have B0 := Lib.hid b0; clear b0
  have B1 := Lib.hid b1; clear b1
  have HR := Lib.hid hr0; clear hr0
  clear hr
  go_enter Tryz.func14, Tryz.ntmps14
  go_wp2_with fail
  go_at_call 32
  refine HCK.out.mono ?_
  rintro e w1 ⟨hq, rfl⟩
  clear x0 x1 x2
  have k0 := B0.out.keep hq
  have y0 := k0.cell (j := 0) rfl
  have y1 := k0.cell (j := 1) rfl
  have y2 := k0.cell (j := 2) rfl
  have k1 := B1.out.keep hq
  have z0 := k1.cell (j := 0) rfl
  have z1 := k1.cell (j := 1) rfl
  have f0 := k1.frozen 0
  have f1 := k1.frozen 1
  have s1 := S0.out.trans (hq.mono S0.out.size)
  have hr1 := HR.out.below hq (Nat.le_refl _)
  have S1 := Lib.hid s1; clear s1
  have HR1 := Lib.hid hr1; clear hr1
  have K0 := Lib.hid k0; clear k0
  have K1 := Lib.hid k1; clear k1
  clear hq
  go_wp2_with fail
  refine bodyPost_ret (v := .tuple #[.agg #[.bool false, .string ⟨#[]⟩], .int .i64 c]) (by simp [results, Tryz.results14, go_sem, z0, z1]) rfl ⟨(S1.out.setCell (p := ⟨w.heap.size + 1, 0, none⟩) (Nat.le_succ _) _).setCell (p := ⟨w.heap.size + 1, 1, none⟩) (Nat.le_succ _) _, by rw [intv_zero]⟩
set_option maxRecDepth 100000 in
set_option maxHeartbeats 3200000 in
theorem cfrom_e (L S : Int) (n c : Int) (es : List E3) (v : Value) (w : World) (hr : Row w v es.length (ce es)) (hok : okEs es) (hE : errN L S es 0 n = c) (hne : c ≠ 0) :
    Calls Tryz.prog 10 #[.agg #[.int .i64 L, .int .i64 S, v], .int .i64 n] w (Ret w (.tuple #[.slice none 0 0, .int .i64 c])) := by
  have s0 := (Below.refl w.heap.size w).alloc (Nat.le_refl _) (.cells #[.int .i64 L, .int .i64 S, v] 24)
  have b0 := Blk.new w 24 [.int .i64 L, .int .i64 S, v]
  have hr0 := hr.below s0 (Nat.le_refl _)
  have x0 := b0.cell (j := 0) rfl
  have x1 := b0.cell (j := 1) rfl
  have x2 := b0.cell (j := 2) rfl
  have hck := ccheck_err L S n 0 es v _ hr0 hok
  rw [hE] at hck
  have hn2 : (c != 0) = true := by simpa using hne
  have HCK := Lib.hid hck; clear hck
  clear hE hne
  have S0 := Lib.hid s0; clear s0
  have B0 := Lib.hid b0; clear b0
  have HR := Lib.hid hr0; clear hr0
  clear hr
  go_enter Tryz.func10, Tryz.ntmps10
  go_wp2_with fail
  go_at_call 32
  refine HCK.out.mono ?_
  rintro e w1 ⟨hq, rfl⟩
  clear x0 x1 x2
  have k0 := B0.out.keep hq
  have y0 := k0.cell (j := 0) rfl
  have y1 := k0.cell (j := 1) rfl
  have y2 := k0.cell (j := 2) rfl
  have s1 := S0.out.trans (hq.mono S0.out.size)
  have hr1 := HR.out.below hq (Nat.le_refl _)
  have S1 := Lib.hid s1; clear s1
  have HR1 := Lib.hid hr1; clear hr1
  have K0 := Lib.hid k0; clear k0
  clear hq
  go_wp2_with fail
  go_ret2
  exact ⟨S1.out, rfl⟩
set_option maxRecDepth 100000 in
set_option maxHeartbeats 3200000 in
theorem ctotal_e (L S : Int) (n c : Int) (es : List E3) (v : Value) (w : World) (hr : Row w v es.length (ce es)) (hok : okEs es) (hE : errN L S es 0 n = c) (hne : c ≠ 0) :
    Calls Tryz.prog 12 #[.agg #[.int .i64 L, .int .i64 S, v], .int .i64 n] w (Ret w (.tuple #[IntV 0, .int .i64 c])) := by
  have s0 := ((Below.refl w.heap.size w).alloc (Nat.le_refl _) (.cells #[.int .i64 L, .int .i64 S, v] 24)).alloc (by simp) (.cells #[.bool false, .string ⟨#[]⟩] 28)
  have b0 := (Blk.new w 24 [.int .i64 L, .int .i64 S, v]).alloc (.cells #[.bool false, .string ⟨#[]⟩] 28)
  have b1 := Blk.new (w.alloc (.cells #[.int .i64 L, .int .i64 S, v] 24)) 28 [.bool false, .string ⟨#[]⟩]
  simp only [World.size_alloc] at b1
  have hnw : w.heap.size < w.heap.size + 1 := by omega
  have hr0 := hr.below s0 (Nat.le_refl _)
  have x0 := b0.cell (j := 0) rfl
  have x1 := b0.cell (j := 1) rfl
  have x2 := b0.cell (j := 2) rfl
  have hck := cfrom_e L S n c es v _ hr0 hok hE hne
  have hsu := fun w' => csum_any [] 1 (.slice none 0 0) w' (Row.nil w') (by simp) (by omega) (by simp)
  obtain ⟨q, hq0⟩ : ∃ q, q = ([] : List Int).sum := ⟨_, rfl⟩
  simp only [← hq0] at hsu
  have hq1 : q = 0 := by rw [hq0, List.sum_nil]
  rw [← hq1]
  clear hq0 hq1
  have HSU := Lib.hid hsu; clear hsu
  have HCK := Lib.hid hck; clear hck
  clear hE hne
  have S0 := Lib.hid s0; clear s0
  have B0 := Lib.hid b0; clear b0
  have B1 := Lib.hid b1; clear b1
  have HR := Lib.hid hr0; clear hr0
  clear hr
  go_enter Tryz.func12, Tryz.ntmps12
  go_wp2_with fail
  go_at_call 10
  refine HCK.out.mono ?_
  rintro e w1 ⟨hq, rfl⟩
  clear x0 x1 x2
  have k0 := B0.out.keep hq
  have y0 := k0.cell (j := 0) rfl
  have y1 := k0.cell (j := 1) rfl
  have y2 := k0.cell (j := 2) rfl
  have k1 := B1.out.keep hq
  have z0 := k1.cell (j := 0) rfl
  have z1 := k1.cell (j := 1) rfl
  have f0 := k1.frozen 0
  have f1 := k1.frozen 1
  have s1 := S0.out.trans (hq.mono S0.out.size)
  have hr1 := HR.out.below hq (Nat.le_refl _)
  have S1 := Lib.hid s1; clear s1
  have HR1 := Lib.hid hr1; clear hr1
  have K0 := Lib.hid k0; clear k0
  have K1 := Lib.hid k1; clear k1
  clear hq
  clear z0 z1 f0 f1
  go_wp2_with fail
  go_at_call 39
  refine (HSU.out _).mono ?_
  rintro e w2 ⟨hq, rfl⟩
  have k1 := K1.out.keep hq
  have z0 := k1.cell (j := 0) rfl
  have z1 := k1.cell (j := 1) rfl
  have f0 := k1.frozen 0
  have f1 := k1.frozen 1
  have s2 := S1.out.trans (hq.mono S1.out.size)
  have r2 := (k1.set 0 (.bool (ineg q))).set 1 (.string (imag q))
  have e0 := r2.cell (j := 0) rfl
  have e1 := r2.cell (j := 1) rfl
  have S2 := Lib.hid s2; clear s2
  clear k1 hq
  go_wp2_with fail
  refine bodyPost_ret (v := .tuple #[IntV q, .int .i64 c]) (by simp [results, Tryz.results12, go_sem, e0, e1, IntV]) rfl ⟨(S2.out.setCell (p := ⟨w.heap.size + 1, 0, none⟩) (Nat.le_succ _) _).setCell (p := ⟨w.heap.size + 1, 1, none⟩) (Nat.le_succ _) _, rfl⟩
end Go.Proofs.YthpgeeaccmgbkaaGreat

/- The refusals of counting.Orbits. -/
namespace Go.Proofs.YthpgeeaccmgbkaaGreat
open Go.RowKit Go.Shelf

attribute [local go_sem] Oper.semAt_some

set_option maxRecDepth 100000 in
set_option maxHeartbeats 3200000 in
theorem corbits_in_e (L S : Int) (n c : Int) (es : List E3) (v : Value) (w : World) (hr : Row w v es.length (ce es)) (hok : okEs es) (hE : errN L S es 1 n = c) (hne : c ≠ 0) :
    CallsIn Fence.wide 8 Tryz.prog 16 #[.agg #[.int .i64 L, .int .i64 S, v], .int .i64 n] w (Ret w (.tuple #[IntV 0, .int .i64 c])) := by
  have s0 := ((Below.refl w.heap.size w).alloc (Nat.le_refl _) (.cells #[.int .i64 L, .int .i64 S, v] 24)).alloc (by simp) (.cells #[.bool false, .string ⟨#[]⟩] 28)
  have b0 := (Blk.new w 24 [.int .i64 L, .int .i64 S, v]).alloc (.cells #[.bool false, .string ⟨#[]⟩] 28)
  have b1 := Blk.new (w.alloc (.cells #[.int .i64 L, .int .i64 S, v] 24)) 28 [.bool false, .string ⟨#[]⟩]
  simp only [World.size_alloc] at b1
  have hnw : w.heap.size < w.heap.size + 1 := by omega
  have hr0 := hr.below s0 (Nat.le_refl _)
  have x0 := b0.cell (j := 0) rfl
  have x1 := b0.cell (j := 1) rfl
  have x2 := b0.cell (j := 2) rfl
  have hck := ccheck_err L S n 1 es v _ hr0 hok
  rw [hE] at hck
  have hn2 : (c != 0) = true := by simpa using hne
  have hn3 : ¬ c = 0 := hne
  obtain ⟨w1, hw1⟩ : ∃ w1, (w.alloc (.cells #[.int .i64 L, .int .i64 S, v] 24)).alloc (.cells #[.bool false, .string ⟨#[]⟩] 28) = w1 := ⟨_, rfl⟩
  rw [hw1] at s0 b0 b1 hck x0 x1 x2
  have HCK := Lib.hid hck; clear hck
  have S0 := Lib.hid s0; clear s0
  have B1 := Lib.hid b1; clear b1
  clear hr hr0 b0 hE hne
  refine callsIn_of_wp_marks Tryz.func16 rfl trivial ?_ rfl
  simp only [Tryz.ntmps16, List.size_toArray, List.length_cons, List.length_nil, Nat.reduceAdd, Nat.reduceSub, Array.replicate_succ, Array.replicate_zero, List.push_toArray, List.append_toArray, List.nil_append, List.cons_append]
  gi_wp2
  refine ⟨trivial, ?_⟩
  refine (callsIn_wide (n := 7)).2 HCK.out |>.mono ?_
  rintro e w2 ⟨hq, rfl⟩
  have k1 := B1.out.keep hq
  have z0 := k1.cell (j := 0) rfl
  have z1 := k1.cell (j := 1) rfl
  have f0 := k1.frozen 0
  have f1 := k1.frozen 1
  have s1 := S0.out.trans (hq.mono S0.out.size)
  have s2 := (s1.setCell (p := ⟨w.heap.size + 1, 0, none⟩) (show w.heap.size ≤ w.heap.size + 1 by omega) (.bool false)).setCell (p := ⟨w.heap.size + 1, 1, none⟩) (show w.heap.size ≤ w.heap.size + 1 by omega) (.string ⟨#[]⟩)
  have k2 := (k1.set 0 (.bool false)).set 1 (.string ⟨#[]⟩)
  have S2 := Lib.hid s2; clear s2
  have K2 := Lib.hid k2; clear k2
  clear hq x0 x1 x2 s1 k1
  gi_wp2
  refine leaves_marks (w.heap.size + 2) (fun W => Below w.heap.size w W ∧ Blk W (w.heap.size + 1) 28 [.bool false, .string ⟨#[]⟩]) (fun W D hB hk hD => ⟨hk.1.grown (grownBy_putObj' W D _) hk.1.size (fun j' e' => by cases e'; omega), hk.2.of_block (World.putObj_heap_other (by omega))⟩) (fun W hk => ?hfin) [] _ ⟨S2.out, K2.out⟩ (by simp) (by simp) (by simp)
  have e0 := hk.2.cell (j := 0) rfl
  have e1 := hk.2.cell (j := 1) rfl
  refine ⟨.tuple #[.agg #[.bool false, .string ⟨#[]⟩], .int .i64 c], ?_, hk.1, by rw [intv_zero]⟩
  simp [results, Tryz.results16, go_sem, e0, e1]
theorem corbits_e (L S : Int) (n c : Int) (es : List E3) (v : Value) (w : World) (hr : Row w v es.length (ce es)) (hok : okEs es) (hE : errN L S es 1 n = c) (hne : c ≠ 0) :
    Calls Tryz.prog 16 #[.agg #[.int .i64 L, .int .i64 S, v], .int .i64 n] w (Ret w (.tuple #[IntV 0, .int .i64 c])) :=
  (callsIn_wide (n := 8)).1 (corbits_in_e L S n c es v w hr hok hE hne)
end Go.Proofs.YthpgeeaccmgbkaaGreat

/- grooveref22.Paths, From, Total, closed, Closed where they answer. -/
namespace Go.Proofs.YthpgeeaccmgbkaaGreat
open Go.RowKit

theorem ind_unit (S t : Nat) : ∀ s : Nat, s < S → ind (t : Int) (s : Int) = (decide ((s : Int) = (t : Int)) || decide ((t : Int) < 0)) := fun s _ => by
  have h : decide ((t : Int) < 0) = false := by simp
  rw [h, Bool.or_false, ind]
  by_cases e : (s : Int) = (t : Int) <;> simp [e]
theorem all_unit (S : Nat) : ∀ s : Nat, s < S → allP (s : Int) = (decide ((s : Int) = -1) || decide ((-1 : Int) < 0)) := fun s _ => by simp [allP]
set_option maxRecDepth 100000 in
set_option maxHeartbeats 3200000 in
theorem rpaths_ok (L : Int) (S s t n : Nat) (es : List E3) (v : Value) (w : World) (hr : Row w v es.length (ce es)) (hc : chk L (S : Int) es = 0) (hs : s < S) (ht : t < S) (hn : n ≤ 4096) :
    Calls Tryz.prog 9 #[.agg #[.int .i64 L, .int .i64 (S : Int), v], .int .i64 (s : Int), .int .i64 (t : Int), .int .i64 (n : Int)] w (Ret w (.tuple #[IntV (cw es (ind (t : Int)) n (s : Int)), .int .i64 0])) := by
  obtain ⟨va, vc, rfl, hle⟩ := hr.slice
  have hca := chk_all hc
  have hin := chk_inS hc
  have s0 := ((Below.refl w.heap.size w).alloc (Nat.le_refl _) (.cells #[.int .i64 L, .int .i64 (S : Int), .slice va es.length vc] 24)).alloc (by simp) (.cells #[.bool false, .string ⟨#[]⟩] 28)
  have b0 := (Blk.new w 24 [.int .i64 L, .int .i64 (S : Int), .slice va es.length vc]).alloc (.cells #[.bool false, .string ⟨#[]⟩] 28)
  have b1 := Blk.new (w.alloc (.cells #[.int .i64 L, .int .i64 (S : Int), .slice va es.length vc] 24)) 28 [.bool false, .string ⟨#[]⟩]
  simp only [World.size_alloc] at b1
  have hr0 := hr.below s0 (Nat.le_refl _)
  have hck := fun w' h => rcheck_any L (S : Int) es (.slice va es.length vc) w' h
  simp only [hc] at hck
  have hun := fun w' (h : Row w' (.slice va es.length vc) es.length (ce es)) => runit_any L S (t : Int) (ind (t : Int)) (.slice va es.length vc) es w' h (by omega) (ind_unit S t)
  rw [row0_full es S] at hun
  have hba := fun b0 w' (h : Row w' (.slice va es.length vc) es.length (ce es)) hb => rback_any L S n b0 es (ind (t : Int)) (.slice va es.length vc) w' h (by omega) hn (by omega) hin hb
  have gx : (rowK es S (ind (t : Int)) n)[s]? = some (cw es (ind (t : Int)) n (s : Int)) := rowK_get hs
  obtain ⟨R, hR⟩ : ∃ R, R = rowK es S (ind (t : Int)) n := ⟨_, rfl⟩
  obtain ⟨R0, hR0⟩ : ∃ R0, R0 = rowK es S (ind (t : Int)) 0 := ⟨_, rfl⟩
  obtain ⟨X, hX⟩ : ∃ X, X = cw es (ind (t : Int)) n (s : Int) := ⟨_, rfl⟩
  rw [← hR, ← hR0] at hba
  rw [← hR0] at hun
  rw [← hR, ← hX] at gx
  rw [← hX]
  obtain ⟨mm, hmm⟩ : ∃ mm, mm = es.length := ⟨_, rfl⟩
  rw [← hmm] at s0 b0 b1 hr0 hck hun hba hle
  have t0 : decide ((n : Int) < 0) = false := decide_eq_false (by omega)
  have t1 : decide (4096 < (n : Int)) = false := decide_eq_false (by omega)
  have t2 : decide ((s : Int) < 0) = false := decide_eq_false (by omega)
  have t3 : decide ((S : Int) ≤ (s : Int)) = false := decide_eq_false (by omega)
  have t4 : decide ((t : Int) < 0) = false := decide_eq_false (by omega)
  have t5 : decide ((S : Int) ≤ (t : Int)) = false := decide_eq_false (by omega)
  have hix1 : (0 : Int) ≤ (s : Int) := by omega
  have hix2 : (s : Int) < (S : Int) := by omega
  have HMM := Lib.hid hmm; clear hmm
  have HCK := Lib.hid hck; clear hck
  have HUN := Lib.hid hun; clear hun
  have HBA := Lib.hid hba; clear hba
  have S0 := Lib.hid s0; clear s0
  have B0 := Lib.hid b0; clear b0
  have B1 := Lib.hid b1; clear b1
  have HR := Lib.hid hr0; clear hr0
  have GX := Lib.hid gx; clear gx
  clear hr hc hca hin hR hR0 hX
  go_enter Tryz.func9, Tryz.ntmps9
  rw [← HMM.out]
  go_wp2_with fail
  go_at_call 35
  refine (HCK.out _ HR.out).mono ?_
  rintro e w1 ⟨hq, rfl⟩
  have s1 := S0.out.trans (hq.mono S0.out.size)
  have hr1 := HR.out.below hq (Nat.le_refl _)
  have tk := B0.out.keep hq; have x0 := tk.cell (j := 0) rfl; have x1 := tk.cell (j := 1) rfl; have x2 := tk.cell (j := 2) rfl; have C0 := Lib.hid tk; clear tk
  have k1 := B1.out.keep hq
  have sw := (Below.refl w1.heap.size w1).drew
  have C1 := Lib.hid k1; clear k1
  have S1 := Lib.hid s1; clear s1
  have HR1 := Lib.hid hr1; clear hr1
  have SW := Lib.hid sw; clear sw
  clear hq
  have hwl : w.heap.size + 1 < w1.heap.size := C1.out.lt
  go_wp2_with fail
  refine wp_region_held_drew (S := fun w' => w'.cell? ⟨w.heap.size, 0, none⟩ = some (.int .i64 L) ∧ w'.cell? ⟨w.heap.size, 1, none⟩ = some (.int .i64 (S : Int)) ∧ w'.cell? ⟨w.heap.size, 2, none⟩ = some (.slice va mm vc)) (by kernel_rfl) ?_ (fun hHeld => ?_)
  · go_keep
  refine wpAnyH_take (i := 0) (v := ?_) rfl (by kernel_rfl) (by kernel_rfl) (by kernel_rfl) (fun _ _ _ h => h) (Or.inl ⟨by rfl, ?_⟩) (by assumption) ?_
  rotate_left
  · (intro wS hSw; (try dsimp only at hSw); go_simp; (try with_reducible rfl))
  (try simp only [Act.put, List.setIfInBounds_toArray, List.set_cons_zero, List.set_cons_succ])
  refine wpAnyH_take (i := 1) (v := ?_) rfl (by kernel_rfl) (by kernel_rfl) (by kernel_rfl) (fun _ _ _ h => h) (Or.inl ⟨by rfl, ?_⟩) (by assumption) ?_
  rotate_left
  · (intro wS hSw; (try dsimp only at hSw); go_simp; (try with_reducible rfl))
  (try simp only [Act.put, List.setIfInBounds_toArray, List.set_cons_zero, List.set_cons_succ])
  refine wpAnyH_take (i := 2) (v := ?_) rfl (by kernel_rfl) (by kernel_rfl) (by kernel_rfl) (fun _ _ _ h => h) (Or.inl ⟨by rfl, ?_⟩) (by assumption) ?_
  rotate_left
  · (intro wS hSw; (try dsimp only at hSw); go_simp; (try with_reducible rfl))
  (try simp only [Act.put, List.setIfInBounds_toArray, List.set_cons_zero, List.set_cons_succ])
  refine wpAnyH_take (i := 4) (v := ?_) rfl (by kernel_rfl) (by kernel_rfl) (by kernel_rfl) (fun _ _ _ h => h) (Or.inl ⟨by rfl, ?_⟩) (by assumption) ?_
  rotate_left
  · (intro wS hSw; (try dsimp only at hSw); go_simp; (try with_reducible rfl))
  (try simp only [Act.put, List.setIfInBounds_toArray, List.set_cons_zero, List.set_cons_succ])
  refine wpAnyH_take (i := 6) (v := ?_) rfl (by kernel_rfl) (by kernel_rfl) (by kernel_rfl) (fun _ _ _ h => h) (Or.inl ⟨by rfl, ?_⟩) (by assumption) ?_
  rotate_left
  · (intro wS hSw; (try dsimp only at hSw); go_simp; (try with_reducible rfl))
  (try simp only [Act.put, List.setIfInBounds_toArray, List.set_cons_zero, List.set_cons_succ])
  refine wpAnyH_ready (rs := [3]) (by kernel_rfl) (by simp) ?_
  refine AllReadyH.cons rfl (fun K hK => ?_) AllReadyH.nil
  go_simp
  go_at_call 37
  refine (HUN.out _ HR1.out.drew).mono ?_
  rintro e w2 ⟨hq, b2, rfl, hb2⟩
  dsimp only
  have z0 := (hq.cell (p := ⟨w.heap.size, 0, none⟩) (show w.heap.size < w1.heap.size by omega)).trans hHeld.1
  have z1 := (hq.cell (p := ⟨w.heap.size, 1, none⟩) (show w.heap.size < w1.heap.size by omega)).trans hHeld.2.1
  have z2 := (hq.cell (p := ⟨w.heap.size, 2, none⟩) (show w.heap.size < w1.heap.size by omega)).trans hHeld.2.2
  refine hK.out _ _ ⟨z0, z1, z2⟩ (fun hHeld2 => ?_)
  clear hK K z0 z1 z2
  (try simp only [Act.put, List.setIfInBounds_toArray, List.set_cons_zero, List.set_cons_succ])
  have sw2 := SW.out.trans (hq.mono SW.out.size)
  have hr2 := HR1.out.below sw2 (Nat.le_refl _)
  have hw2 : w1.heap.size ≤ w2.heap.size := sw2.size
  have hbk := HBA.out b2 w2 hr2 hb2
  have HBK := Lib.hid hbk; clear hbk
  have SW2 := Lib.hid sw2; clear sw2
  clear hq hb2 hr2
  refine wpAnyH_ready (rs := [5]) (by kernel_rfl) (by simp) ?_
  refine AllReadyH.cons rfl (fun K hK => ?_) AllReadyH.nil
  go_simp
  go_at_call 36
  refine HBK.out.mono ?_
  rintro e w3 ⟨hq, b3, rfl, hb3⟩
  dsimp only
  have z0 := (hq.cell (p := ⟨w.heap.size, 0, none⟩) (show w.heap.size < w2.heap.size by omega)).trans hHeld2.1
  have z1 := (hq.cell (p := ⟨w.heap.size, 1, none⟩) (show w.heap.size < w2.heap.size by omega)).trans hHeld2.2.1
  have z2 := (hq.cell (p := ⟨w.heap.size, 2, none⟩) (show w.heap.size < w2.heap.size by omega)).trans hHeld2.2.2
  refine hK.out _ _ ⟨z0, z1, z2⟩ (fun hHeld3 => ?_)
  clear hK K z0 z1 z2
  (try simp only [Act.put, List.setIfInBounds_toArray, List.set_cons_zero, List.set_cons_succ])
  have sw3 := SW2.out.trans (hq.mono SW2.out.size)
  have k3 := C1.out.keep sw3
  have s3 := S1.out.trans (sw3.mono S1.out.size)
  have c0 := hb3.cell (civ_get GX.out).1
  have c1 := hb3.cell (civ_get GX.out).2
  have g0 := k3.frozen 0
  have g1 := k3.frozen 1
  have r0 := k3.cell (j := 0) rfl
  have r1 := k3.cell (j := 1) rfl
  have K3 := Lib.hid k3; clear k3
  have S3 := Lib.hid s3; clear s3
  clear hq hb3 x0 x1 x2
  refine wpAnyH_take (i := 7) (v := ?_) rfl (by kernel_rfl) (by kernel_rfl) (by kernel_rfl) (fun _ _ _ h => h) (Or.inl ⟨by rfl, ?_⟩) (by assumption) ?_
  rotate_left
  · (intro wS hSw; (try dsimp only at hSw); go_simp; (try with_reducible rfl))
  (try simp only [Act.put, List.setIfInBounds_toArray, List.set_cons_zero, List.set_cons_succ])
  refine wpAnyH_ready (rs := [8]) (by kernel_rfl) (by simp) ?_
  refine AllReadyH.cons rfl (fun K hK => ?_) AllReadyH.nil
  go_simp
  refine hK.out _ _ ?_ (fun hHeld => ?_)
  · ((try dsimp only); go_keep)
  clear hK K
  (try simp only [Act.put, List.setIfInBounds_toArray, List.set_cons_zero, List.set_cons_succ])
  refine wpAnyH_ready (rs := [9]) (by kernel_rfl) (by simp) ?_
  refine AllReadyH.cons rfl (fun K hK => ?_) AllReadyH.nil
  go_simp
  refine hK.out _ _ ?_ (fun hHeld => ?_)
  · ((try dsimp only); go_keep)
  clear hK K
  (try simp only [Act.put, List.setIfInBounds_toArray, List.set_cons_zero, List.set_cons_succ])
  refine wpAnyH_take (i := 10) (v := ?_) rfl (by kernel_rfl) (by kernel_rfl) (by kernel_rfl) (fun _ _ _ h => h) (Or.inl ⟨by rfl, ?_⟩) (by assumption) ?_
  rotate_left
  · (intro wS hSw; (try dsimp only at hSw); go_simp; (try with_reducible rfl))
  (try simp only [Act.put, List.setIfInBounds_toArray, List.set_cons_zero, List.set_cons_succ])
  refine wpAnyH_done (by kernel_rfl) ?_ _
  (try simp only [List.getElem_toArray, List.getElem_cons_zero, List.getElem_cons_succ, Act.put, List.setIfInBounds_toArray, List.set_cons_zero, List.set_cons_succ])
  go_wp2_with fail
  refine bodyPost_ret (v := .tuple #[IntV X, .int .i64 0]) ?_ rfl ?_
  · have e0 := ((K3.out.set 0 (.bool (ineg X))).set 1 (.string (imag X))).cell (j := 0) rfl
    have e1 := ((K3.out.set 0 (.bool (ineg X))).set 1 (.string (imag X))).cell (j := 1) rfl
    simp [results, Tryz.results9, go_sem, e0, e1, IntV]
  · exact ⟨(S3.out.setCell (p := ⟨w.heap.size + 1, 0, none⟩) (show w.heap.size ≤ w.heap.size + 1 by omega) _).setCell (p := ⟨w.heap.size + 1, 1, none⟩) (show w.heap.size ≤ w.heap.size + 1 by omega) _, rfl⟩
set_option maxRecDepth 100000 in
set_option maxHeartbeats 3200000 in
theorem rfrom_ok (L : Int) (S n : Nat) (es : List E3) (v : Value) (w : World) (hr : Row w v es.length (ce es)) (hc : chk L (S : Int) es = 0) (hn : n ≤ 4096) :
    Calls Tryz.prog 11 #[.agg #[.int .i64 L, .int .i64 (S : Int), v], .int .i64 (n : Int)] w (LstRet (rowK es S allP n) 0 w) := by
  obtain ⟨va, vc, rfl, hle⟩ := hr.slice
  have hca := chk_all hc
  have hin := chk_inS hc
  have s0 := (Below.refl w.heap.size w).alloc (Nat.le_refl _) (.cells #[.int .i64 L, .int .i64 (S : Int), .slice va es.length vc] 24)
  have b0 := Blk.new w 24 [.int .i64 L, .int .i64 (S : Int), .slice va es.length vc]
  have hr0 := hr.below s0 (Nat.le_refl _)
  have hck := fun w' h => rcheck_any L (S : Int) es (.slice va es.length vc) w' h
  simp only [hc] at hck
  have hun := fun w' (h : Row w' (.slice va es.length vc) es.length (ce es)) => runit_any L S (-1) allP (.slice va es.length vc) es w' h (by omega) (all_unit S)
  rw [row0_full es S] at hun
  have hba := fun b0 w' (h : Row w' (.slice va es.length vc) es.length (ce es)) hb => rback_any L S n b0 es allP (.slice va es.length vc) w' h (by omega) hn (by omega) hin hb
  have hrl : (rowK es S allP n).length = S := by simp [rowK]
  obtain ⟨R, hR⟩ : ∃ R, R = rowK es S allP n := ⟨_, rfl⟩
  obtain ⟨R0, hR0⟩ : ∃ R0, R0 = rowK es S allP 0 := ⟨_, rfl⟩
  rw [← hR, ← hR0] at hba
  rw [← hR0] at hun
  rw [← hR] at hrl
  rw [← hR]
  have hS64 : S ≤ 64 := by omega
  obtain ⟨mm, hmm⟩ : ∃ mm, mm = es.length := ⟨_, rfl⟩
  rw [← hmm] at s0 b0 hr0 hck hun hba hle
  have t0 : decide ((n : Int) < 0) = false := decide_eq_false (by omega)
  have t1 : decide (4096 < (n : Int)) = false := decide_eq_false (by omega)
  have HMM := Lib.hid hmm; clear hmm
  have HCK := Lib.hid hck; clear hck
  have HUN := Lib.hid hun; clear hun
  have HBA := Lib.hid hba; clear hba
  have S0 := Lib.hid s0; clear s0
  have B0 := Lib.hid b0; clear b0
  have HR := Lib.hid hr0; clear hr0
  have HRL := Lib.hid hrl; clear hrl
  clear hr hc hca hin hR hR0
  go_enter Tryz.func11, Tryz.ntmps11
  rw [← HMM.out]
  go_wp2_with fail
  go_at_call 35
  refine (HCK.out _ HR.out).mono ?_
  rintro e w1 ⟨hq, rfl⟩
  have s1 := S0.out.trans (hq.mono S0.out.size)
  have hr1 := HR.out.below hq (Nat.le_refl _)
  have tk := B0.out.keep hq; have x0 := tk.cell (j := 0) rfl; have x1 := tk.cell (j := 1) rfl; have x2 := tk.cell (j := 2) rfl; have C0 := Lib.hid tk; clear tk
  have sw := (Below.refl w1.heap.size w1).drew
  have S1 := Lib.hid s1; clear s1
  have HR1 := Lib.hid hr1; clear hr1
  have SW := Lib.hid sw; clear sw
  clear hq
  have hwl : w.heap.size < w1.heap.size := C0.out.lt
  go_wp2_with fail
  refine wp_region_held_drew (S := fun w' => w'.cell? ⟨w.heap.size, 0, none⟩ = some (.int .i64 L) ∧ w'.cell? ⟨w.heap.size, 1, none⟩ = some (.int .i64 (S : Int)) ∧ w'.cell? ⟨w.heap.size, 2, none⟩ = some (.slice va mm vc)) (by kernel_rfl) ?_ (fun hHeld => ?_)
  · go_keep
  refine wpAnyH_take (i := 0) (v := ?_) rfl (by kernel_rfl) (by kernel_rfl) (by kernel_rfl) (fun _ _ _ h => h) (Or.inl ⟨by rfl, ?_⟩) (by assumption) ?_
  rotate_left
  · (intro wS hSw; (try dsimp only at hSw); go_simp; (try with_reducible rfl))
  (try simp only [Act.put, List.setIfInBounds_toArray, List.set_cons_zero, List.set_cons_succ])
  refine wpAnyH_take (i := 1) (v := ?_) rfl (by kernel_rfl) (by kernel_rfl) (by kernel_rfl) (fun _ _ _ h => h) (Or.inl ⟨by rfl, ?_⟩) (by assumption) ?_
  rotate_left
  · (intro wS hSw; (try dsimp only at hSw); go_simp; (try with_reducible rfl))
  (try simp only [Act.put, List.setIfInBounds_toArray, List.set_cons_zero, List.set_cons_succ])
  refine wpAnyH_take (i := 3) (v := ?_) rfl (by kernel_rfl) (by kernel_rfl) (by kernel_rfl) (fun _ _ _ h => h) (Or.inl ⟨by rfl, ?_⟩) (by assumption) ?_
  rotate_left
  · (intro wS hSw; (try dsimp only at hSw); go_simp; (try with_reducible rfl))
  (try simp only [Act.put, List.setIfInBounds_toArray, List.set_cons_zero, List.set_cons_succ])
  refine wpAnyH_ready (rs := [2]) (by kernel_rfl) (by simp) ?_
  refine AllReadyH.cons rfl (fun K hK => ?_) AllReadyH.nil
  go_simp
  go_at_call 37
  refine (HUN.out _ HR1.out.drew).mono ?_
  rintro e w2 ⟨hq, b2, rfl, hb2⟩
  dsimp only
  have z0 := (hq.cell (p := ⟨w.heap.size, 0, none⟩) (show w.heap.size < w1.heap.size by omega)).trans hHeld.1
  have z1 := (hq.cell (p := ⟨w.heap.size, 1, none⟩) (show w.heap.size < w1.heap.size by omega)).trans hHeld.2.1
  have z2 := (hq.cell (p := ⟨w.heap.size, 2, none⟩) (show w.heap.size < w1.heap.size by omega)).trans hHeld.2.2
  refine hK.out _ _ ⟨z0, z1, z2⟩ (fun hHeld2 => ?_)
  clear hK K z0 z1 z2
  (try simp only [Act.put, List.setIfInBounds_toArray, List.set_cons_zero, List.set_cons_succ])
  have sw2 := SW.out.trans (hq.mono SW.out.size)
  have hr2 := HR1.out.below sw2 (Nat.le_refl _)
  have hw2 : w1.heap.size ≤ w2.heap.size := sw2.size
  have hbk := HBA.out b2 w2 hr2 hb2
  have HBK := Lib.hid hbk; clear hbk
  have SW2 := Lib.hid sw2; clear sw2
  clear hq hb2 hr2
  refine wpAnyH_ready (rs := [4]) (by kernel_rfl) (by simp) ?_
  refine AllReadyH.cons rfl (fun K hK => ?_) AllReadyH.nil
  go_simp
  go_at_call 36
  refine HBK.out.mono ?_
  rintro e w3 ⟨hq, b3, rfl, hb3⟩
  dsimp only
  have z0 := (hq.cell (p := ⟨w.heap.size, 0, none⟩) (show w.heap.size < w2.heap.size by omega)).trans hHeld2.1
  have z1 := (hq.cell (p := ⟨w.heap.size, 1, none⟩) (show w.heap.size < w2.heap.size by omega)).trans hHeld2.2.1
  have z2 := (hq.cell (p := ⟨w.heap.size, 2, none⟩) (show w.heap.size < w2.heap.size by omega)).trans hHeld2.2.2
  refine hK.out _ _ ⟨z0, z1, z2⟩ (fun hHeld3 => ?_)
  clear hK K z0 z1 z2
  (try simp only [Act.put, List.setIfInBounds_toArray, List.set_cons_zero, List.set_cons_succ])
  have sw3 := SW2.out.trans (hq.mono SW2.out.size)
  have s3 := S1.out.trans (sw3.mono S1.out.size)
  have hrow : Row w3 (.slice (some ⟨b3, 0, none⟩) S S) S (civ R) := by
    have h := blk_row hb3 (by rw [HRL.out]; omega)
    rw [HRL.out] at h
    exact h
  have S3 := Lib.hid s3; clear s3
  have HROW := Lib.hid hrow; clear hrow
  clear hq hb3 x0 x1 x2
  refine wpAnyH_take (i := 5) (v := ?_) rfl (by kernel_rfl) (by kernel_rfl) (by kernel_rfl) (fun _ _ _ h => h) (Or.inl ⟨by rfl, ?_⟩) (by assumption) ?_
  rotate_left
  · (intro wS hSw; (try dsimp only at hSw); go_simp; (try with_reducible rfl))
  (try simp only [Act.put, List.setIfInBounds_toArray, List.set_cons_zero, List.set_cons_succ])
  refine wpAnyH_take (i := 6) (v := ?_) rfl (by kernel_rfl) (by kernel_rfl) (by kernel_rfl) (fun _ _ _ h => h) (Or.inl ⟨by rfl, ?_⟩) (by assumption) ?_
  rotate_left
  · (intro wS hSw; (try dsimp only at hSw); go_simp; (try with_reducible rfl))
  (try simp only [Act.put, List.setIfInBounds_toArray, List.set_cons_zero, List.set_cons_succ])
  refine wpAnyH_done (by kernel_rfl) ?_ _
  (try simp only [List.getElem_toArray, List.getElem_cons_zero, List.getElem_cons_succ, Act.put, List.setIfInBounds_toArray, List.set_cons_zero, List.set_cons_succ])
  go_wp2_with fail
  go_ret2
  exact ⟨S3.out, _, rfl, by rw [HRL.out]; exact HROW.out⟩
end Go.Proofs.YthpgeeaccmgbkaaGreat


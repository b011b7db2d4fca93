/- enumerative.unrank outside of the numbers of words. -/
import Derived.Test.YtalipfnbpnkgnaaGreatUnrk
namespace Go.Proofs.YtalipfnbpnkgnaaGreat
open Go.RowKit Go.Shelf

attribute [local go_sem] Oper.semAt_some
def UrOut (w : World) (e : Ending) (w' : World) : Prop := Below w.heap.size w w' ∧ e = .returned (.tuple #[.string ⟨#[]⟩, .int .i64 0, .bool false])

set_option maxRecDepth 100000 in
set_option maxHeartbeats 8000000 in
theorem unrank_neg (L : Int) (S s0 n : Nat) (a0 : Int) (es : List E3) (v tv : Value) (p : Int → Bool) (w : World) (hr : Row w v es.length (ce es)) (ht : Tab w tv (tabL es S p n)) (hS : S ≤ 64) (hl : es.length ≤ 1024) (hin : InS S es) (hlab : ∀ e ∈ es, 0 ≤ e.l ∧ e.l < 16) (hs0 : s0 < S) (hn : n ≤ 4096) (sA : small a0) (ha : a0 < 0) :
    CallsIn Fence.wide 8 Tryz.prog 42 #[.agg #[.int .i64 L, .int .i64 (S : Int), v], tv, .int .i64 (s0 : Int), .int .i64 (n : Int), .agg #[.bool (ineg a0), .string (imag a0)]] w (UrOut w) := by
  obtain ⟨rvs, hrvl, hrt, hrows⟩ := ht
  rw [tabL_length] at hrt
  obtain ⟨at0, ct, rfl, hct⟩ := hrt.slice
  obtain ⟨bt, ot, rfl, hbt, htc⟩ := hrt.at_ (by omega)
  -- the row of length n
  obtain ⟨rv, hrv1, hrv2⟩ := hrows n _ (tabL_get (by omega))
  rw [rowK_length] at hrv2
  obtain ⟨ar, cr, rfl, hcr⟩ := hrv2.slice
  obtain ⟨br, orr, rfl, hbr, hrc⟩ := hrv2.at_ (by omega)
  have r0 := htc n _ hrv1
  have gy : (rowK es S p n)[s0]? = some (cw es p n (s0 : Int)) := rowK_get hs0
  have sY : small (cw es p n (s0 : Int)) := cw_small (by omega) p n (by omega) _
  obtain ⟨Y, hY⟩ : ∃ Y, Y = cw es p n (s0 : Int) := ⟨_, rfl⟩
  rw [← hY] at gy sY
  have y0 := hrc _ _ (civ_get gy).1
  have y1 := hrc _ _ (civ_get gy).2
  rw [← Nat.add_assoc] at y1
  have hc1 := fun w' => icompare_any (ineg a0) false (imag a0) ⟨#[]⟩ w' sA (by decide)
  have hc2 := fun w' => icompare_any (ineg a0) (ineg Y) (imag a0) (imag Y) w' sA sY
  simp only [ival_canon, ival_zero0] at hc1 hc2
  obtain ⟨z1, hz1⟩ : ∃ z, z = cmpZ a0 0 := ⟨_, rfl⟩
  obtain ⟨z2, hz2⟩ : ∃ z, z = cmpZ a0 Y := ⟨_, rfl⟩
  rw [← hz1] at hc1
  rw [← hz2] at hc2
  have t1 : decide (z1 < 0) = true := by rw [hz1]; exact (cmpZ_neg a0 0).trans (by simp; omega)
  have hix1 : (0 : Int) ≤ (n : Int) := by omega
  have hix2 : (n : Int) < (n : Int) + 1 := by omega
  have hix3 : (0 : Int) ≤ (s0 : Int) := by omega
  have hix4 : (s0 : Int) < (S : Int) := by omega
  have hwn : IntKind.i64.wrap ((n : Int) - 1) = (n : Int) - 1 := IntWalk.i64_in _ (by omega)
  have HRVL := Lib.hid hrvl; clear hrvl
  have HROWS := Lib.hid hrows; clear hrows
  have HTC := Lib.hid htc; clear htc
  have HIN := Lib.hid hin; clear hin
  have HLAB := Lib.hid hlab; clear hlab
  have HR := Lib.hid hr; clear hr
  have HC1 := Lib.hid hc1; clear hc1
  have HC2 := Lib.hid hc2; clear hc2
  have HY0 := Lib.hid hY; clear hY
  clear hrt hrv1 hrv2 hrc gy sA sY hz1 hz2
  refine callsIn_of_wp_marks Tryz.func42 rfl trivial ?_ rfl
  simp only [Tryz.ntmps42, List.size_toArray, List.length_cons, List.length_nil, Nat.reduceAdd, Nat.reduceSub, Array.replicate_succ, Array.replicate_zero, List.push_toArray, List.append_toArray, List.nil_append, List.cons_append]
  gi_wp2
  simp only [Nat.add_assoc, Nat.reduceAdd]
  obtain ⟨w1, hw1⟩ : ∃ w1, ((((w.alloc (.cells #[.int .i64 L, .int .i64 (S : Int), v] 24)).alloc (.cells #[.slice (some ⟨bt, ot, none⟩) (n + 1) ct] 69)).alloc (.cells #[.int .i64 (s0 : Int)] 3)).alloc (.cells #[.bool (ineg a0), .string (imag a0)] 33)) = w1 := ⟨_, rfl⟩
  rw [hw1]
  have hsz1 : w1.heap.size = w.heap.size + 4 := by rw [← hw1]; simp
  have hb1 : Below w.heap.size w w1 := by rw [← hw1]; exact ((((Below.refl _ w).alloc (Nat.le_refl _) _).alloc (by simp) _).alloc (by simp; omega) _).alloc (by simp; omega) _
  have bG1 : Blk w1 w.heap.size 24 [.int .i64 L, .int .i64 (S : Int), v] := by rw [← hw1]; exact (((Blk.new w _ _).alloc _).alloc _).alloc _
  have bT1 : Blk w1 (w.heap.size + 1) 69 [.slice (some ⟨bt, ot, none⟩) (n + 1) ct] := by
    have h := Blk.new (w.alloc (.cells #[.int .i64 L, .int .i64 (S : Int), v] 24)) 69 [.slice (some ⟨bt, ot, none⟩) (n + 1) ct]
    rw [World.size_alloc] at h
    rw [← hw1]; exact (h.alloc _).alloc _
  have bS1 : Blk w1 (w.heap.size + 2) 3 [.int .i64 (s0 : Int)] := by
    have h := Blk.new ((w.alloc (.cells #[.int .i64 L, .int .i64 (S : Int), v] 24)).alloc (.cells #[.slice (some ⟨bt, ot, none⟩) (n + 1) ct] 69)) 3 [.int .i64 (s0 : Int)]
    simp only [World.size_alloc, Nat.add_assoc, Nat.reduceAdd] at h
    rw [← hw1]; exact h.alloc _
  have bA1 : Blk w1 (w.heap.size + 3) 33 [.bool (ineg a0), .string (imag a0)] := by
    have h := Blk.new (((w.alloc (.cells #[.int .i64 L, .int .i64 (S : Int), v] 24)).alloc (.cells #[.slice (some ⟨bt, ot, none⟩) (n + 1) ct] 69)).alloc (.cells #[.int .i64 (s0 : Int)] 3)) 33 [.bool (ineg a0), .string (imag a0)]
    simp only [World.size_alloc, Nat.add_assoc, Nat.reduceAdd] at h
    rw [← hw1]; exact h
  clear hw1
  have x0 := bA1.cell (j := 0) rfl
  have x1 := bA1.cell (j := 1) rfl
  have xT := bT1.cell (j := 0) rfl
  have xS := bS1.cell (j := 0) rfl
  have r1 := (hb1.cell (p := ⟨bt, ot + n, none⟩) hbt).trans r0
  have y2 := (hb1.cell (p := ⟨br, orr + s0 * 2, none⟩) hbr).trans y0
  have y3 := (hb1.cell (p := ⟨br, orr + s0 * 2 + 1, none⟩) hbr).trans y1
  clear r0 y0 y1
  have BG1 := Lib.hid bG1; clear bG1
  have BT1 := Lib.hid bT1; clear bT1
  have BS1 := Lib.hid bS1; clear bS1
  have BA1 := Lib.hid bA1; clear bA1
  have HB1 := Lib.hid hb1; clear hb1
  refine wpIn_wide.2 ?_
  refine wp_region_noPanic ?_
  refine wp_region_held_drew (S := fun w' => w'.cell? ⟨w.heap.size + 3, 0, none⟩ = some (.bool (ineg a0)) ∧ w'.cell? ⟨w.heap.size + 3, 1, none⟩ = some (.string (imag a0)) ∧ w'.cell? ⟨w.heap.size + 1, 0, none⟩ = some (.slice (some ⟨bt, ot, none⟩) (n + 1) ct) ∧ w'.cell? ⟨w.heap.size + 2, 0, none⟩ = some (.int .i64 (s0 : Int)) ∧ w'.cell? ⟨bt, ot + n, none⟩ = some (.slice (some ⟨br, orr, none⟩) S cr) ∧ w'.cell? ⟨br, orr + s0 * 2, none⟩ = some (.bool (ineg Y)) ∧ w'.cell? ⟨br, orr + s0 * 2 + 1, none⟩ = some (.string (imag Y))) (by kernel_rfl) ?_ (fun hHeld => ?_)
  · go_keep
  refine wpAnyH_take (i := 0) (v := ?_) rfl (by kernel_rfl) (by kernel_rfl) (by kernel_rfl) (fun _ _ _ h => h) (Or.inl ⟨by rfl, ?_⟩) (by assumption) ?_
  rotate_left
  · (intro wS hSw; (try dsimp only at hSw); go_simp; (try with_reducible rfl))
  (try simp only [Act.put, List.setIfInBounds_toArray, List.set_cons_zero, List.set_cons_succ])
  refine wpAnyH_take (i := 1) (v := ?_) rfl (by kernel_rfl) (by kernel_rfl) (by kernel_rfl) (fun _ _ _ h => h) (Or.inl ⟨by rfl, ?_⟩) (by assumption) ?_
  rotate_left
  · (intro wS hSw; (try dsimp only at hSw); go_simp; (try with_reducible rfl))
  (try simp only [Act.put, List.setIfInBounds_toArray, List.set_cons_zero, List.set_cons_succ])
  refine wpAnyH_ready (rs := [2]) (by kernel_rfl) (by simp) ?_
  refine AllReadyH.cons rfl (fun K hK => ?_) AllReadyH.nil
  go_simp
  go_at_call 62
  refine (HC1.out _).mono ?_
  rintro e w2 ⟨hq2, rfl⟩
  dsimp only
  have q0 := (hq2.cell (p := ⟨w.heap.size + 3, 0, none⟩) (show w.heap.size + 3 < w1.heap.size by omega)).trans hHeld.1
  have q1 := (hq2.cell (p := ⟨w.heap.size + 3, 1, none⟩) (show w.heap.size + 3 < w1.heap.size by omega)).trans hHeld.2.1
  have q2 := (hq2.cell (p := ⟨w.heap.size + 1, 0, none⟩) (show w.heap.size + 1 < w1.heap.size by omega)).trans hHeld.2.2.1
  have q3 := (hq2.cell (p := ⟨w.heap.size + 2, 0, none⟩) (show w.heap.size + 2 < w1.heap.size by omega)).trans hHeld.2.2.2.1
  have q4 := (hq2.cell (p := ⟨bt, ot + n, none⟩) (show bt < w1.heap.size by omega)).trans hHeld.2.2.2.2.1
  have q5 := (hq2.cell (p := ⟨br, orr + s0 * 2, none⟩) (show br < w1.heap.size by omega)).trans hHeld.2.2.2.2.2.1
  have q6 := (hq2.cell (p := ⟨br, orr + s0 * 2 + 1, none⟩) (show br < w1.heap.size by omega)).trans hHeld.2.2.2.2.2.2
  refine hK.out _ _ ⟨q0, q1, q2, q3, q4, q5, q6⟩ (fun hHeld2 => ?_)
  clear hK K hHeld x0 x1 xT xS r1 y2 y3
  (try simp only [Act.put, List.setIfInBounds_toArray, List.set_cons_zero, List.set_cons_succ])
  have hbB := HB1.out.drew.trans (hq2.mono HB1.out.size)
  have k1 := BG1.out.drew.keep hq2
  have k2 := BT1.out.drew.keep hq2
  have k3 := BS1.out.drew.keep hq2
  have k4 := BA1.out.drew.keep hq2
  have hl2 : w.heap.size + 3 < w2.heap.size := k4.lt
  have HB2 := Lib.hid hbB; clear hbB
  have BG2 := Lib.hid k1; clear k1
  have BT2 := Lib.hid k2; clear k2
  have BS2 := Lib.hid k3; clear k3
  have BA2 := Lib.hid k4; clear k4
  clear hq2
  refine wpAnyH_take (i := 3) (v := ?_) rfl (by kernel_rfl) (by kernel_rfl) (by kernel_rfl) (fun _ _ _ h => h) (Or.inl ⟨by rfl, ?_⟩) (by assumption) ?_
  rotate_left
  · (intro wS hSw; (try dsimp only at hSw); go_simp; (try with_reducible rfl))
  (try simp only [Act.put, List.setIfInBounds_toArray, List.set_cons_zero, List.set_cons_succ])
  refine wpAnyH_take (i := 4) (v := ?_) rfl (by kernel_rfl) (by kernel_rfl) (by kernel_rfl) (fun _ _ _ h => h) (Or.inl ⟨by rfl, ?_⟩) (by assumption) ?_
  rotate_left
  · (intro wS hSw; (try dsimp only at hSw); go_simp; (try with_reducible rfl))
  (try simp only [Act.put, List.setIfInBounds_toArray, List.set_cons_zero, List.set_cons_succ])
  refine wpAnyH_take (i := 5) (v := undef) rfl (by kernel_rfl) (by kernel_rfl) (by kernel_rfl) (fun _ _ _ h => h) (Or.inr ⟨by kernel_rfl, rfl⟩) (by assumption) ?_
  (try simp only [Act.put, List.setIfInBounds_toArray, List.set_cons_zero, List.set_cons_succ])
  refine wpAnyH_take (i := 6) (v := undef) rfl (by kernel_rfl) (by kernel_rfl) (by kernel_rfl) (fun _ _ _ h => h) (Or.inr ⟨by kernel_rfl, rfl⟩) (by assumption) ?_
  (try simp only [Act.put, List.setIfInBounds_toArray, List.set_cons_zero, List.set_cons_succ])
  refine wpAnyH_take (i := 7) (v := undef) rfl (by kernel_rfl) (by kernel_rfl) (by kernel_rfl) (fun _ _ _ h => h) (Or.inr ⟨by kernel_rfl, rfl⟩) (by assumption) ?_
  (try simp only [Act.put, List.setIfInBounds_toArray, List.set_cons_zero, List.set_cons_succ])
  refine wpAnyH_take (i := 8) (v := undef) rfl (by kernel_rfl) (by kernel_rfl) (by kernel_rfl) (fun _ _ _ h => h) (Or.inr ⟨by kernel_rfl, rfl⟩) (by assumption) ?_
  (try simp only [Act.put, List.setIfInBounds_toArray, List.set_cons_zero, List.set_cons_succ])
  refine wpAnyH_take (i := 9) (v := undef) rfl (by kernel_rfl) (by kernel_rfl) (by kernel_rfl) (fun _ _ _ h => h) (Or.inr ⟨by kernel_rfl, rfl⟩) (by assumption) ?_
  (try simp only [Act.put, List.setIfInBounds_toArray, List.set_cons_zero, List.set_cons_succ])
  refine wpAnyH_take (i := 10) (v := undef) rfl (by kernel_rfl) (by kernel_rfl) (by kernel_rfl) (fun _ _ _ h => h) (Or.inr ⟨by kernel_rfl, rfl⟩) (by assumption) ?_
  (try simp only [Act.put, List.setIfInBounds_toArray, List.set_cons_zero, List.set_cons_succ])
  refine wpAnyH_take (i := 11) (v := undef) rfl (by kernel_rfl) (by kernel_rfl) (by kernel_rfl) (fun _ _ _ h => h) (Or.inr ⟨by kernel_rfl, rfl⟩) (by assumption) ?_
  (try simp only [Act.put, List.setIfInBounds_toArray, List.set_cons_zero, List.set_cons_succ])
  refine wpAnyH_take (i := 12) (v := undef) rfl (by kernel_rfl) (by kernel_rfl) (by kernel_rfl) (fun _ _ _ h => h) (Or.inr ⟨by kernel_rfl, rfl⟩) (by assumption) ?_
  (try simp only [Act.put, List.setIfInBounds_toArray, List.set_cons_zero, List.set_cons_succ])
  refine wpAnyH_take (i := 13) (v := undef) rfl (by kernel_rfl) (by kernel_rfl) (by kernel_rfl) (fun _ _ _ h => h) (Or.inr ⟨by kernel_rfl, rfl⟩) (by assumption) ?_
  (try simp only [Act.put, List.setIfInBounds_toArray, List.set_cons_zero, List.set_cons_succ])
  refine wpAnyH_take (i := 14) (v := undef) rfl (by kernel_rfl) (by kernel_rfl) (by kernel_rfl) (fun _ _ _ h => h) (Or.inr ⟨by kernel_rfl, rfl⟩) (by assumption) ?_
  (try simp only [Act.put, List.setIfInBounds_toArray, List.set_cons_zero, List.set_cons_succ])
  refine wpAnyH_take (i := 15) (v := ?_) rfl (by kernel_rfl) (by kernel_rfl) (by kernel_rfl) (fun _ _ _ h => h) (Or.inl ⟨by rfl, ?_⟩) (by assumption) ?_
  rotate_left
  · (intro wS hSw; (try dsimp only at hSw); go_simp; (try with_reducible rfl))
  (try simp only [Act.put, List.setIfInBounds_toArray, List.set_cons_zero, List.set_cons_succ])
  refine wpAnyH_done (by kernel_rfl) ?_ _
  (try simp only [List.getElem_toArray, List.getElem_cons_zero, List.getElem_cons_succ, Act.put, List.setIfInBounds_toArray, List.set_cons_zero, List.set_cons_succ])
  refine NoPanic.normal ?_
  clear hHeld2
  gi_wp2
  refine leaves_marks w.heap.size (fun W => Below w.heap.size w W) (fun W D hB hk hD => hk.grown (grownBy_putObj' W D _) (by have := hk.size; omega) (fun j' e' => by cases e'; omega)) (fun W hk => ?hfin) [] _ HB2.out (by simp) (by simp) (by simp)
  case hfin =>
    refine ⟨_, ?_, hk, rfl⟩
    simp [results, Tryz.results42, go_sem]
set_option maxRecDepth 100000 in
set_option maxHeartbeats 8000000 in
theorem unrank_big (L : Int) (S s0 n : Nat) (a0 : Int) (es : List E3) (v tv : Value) (p : Int → Bool) (w : World) (hr : Row w v es.length (ce es)) (ht : Tab w tv (tabL es S p n)) (hS : S ≤ 64) (hl : es.length ≤ 1024) (hin : InS S es) (hlab : ∀ e ∈ es, 0 ≤ e.l ∧ e.l < 16) (hs0 : s0 < S) (hn : n ≤ 4096) (sA : small a0) (ha0 : 0 ≤ a0) (ha1 : cw es p n (s0 : Int) ≤ a0) :
    CallsIn Fence.wide 8 Tryz.prog 42 #[.agg #[.int .i64 L, .int .i64 (S : Int), v], tv, .int .i64 (s0 : Int), .int .i64 (n : Int), .agg #[.bool (ineg a0), .string (imag a0)]] w (UrOut w) := by
  obtain ⟨rvs, hrvl, hrt, hrows⟩ := ht
  rw [tabL_length] at hrt
  obtain ⟨at0, ct, rfl, hct⟩ := hrt.slice
  obtain ⟨bt, ot, rfl, hbt, htc⟩ := hrt.at_ (by omega)
  -- the row of length n
  obtain ⟨rv, hrv1, hrv2⟩ := hrows n _ (tabL_get (by omega))
  rw [rowK_length] at hrv2
  obtain ⟨ar, cr, rfl, hcr⟩ := hrv2.slice
  obtain ⟨br, orr, rfl, hbr, hrc⟩ := hrv2.at_ (by omega)
  have r0 := htc n _ hrv1
  have gy : (rowK es S p n)[s0]? = some (cw es p n (s0 : Int)) := rowK_get hs0
  have sY : small (cw es p n (s0 : Int)) := cw_small (by omega) p n (by omega) _
  obtain ⟨Y, hY⟩ : ∃ Y, Y = cw es p n (s0 : Int) := ⟨_, rfl⟩
  rw [← hY] at gy sY
  have y0 := hrc _ _ (civ_get gy).1
  have y1 := hrc _ _ (civ_get gy).2
  rw [← Nat.add_assoc] at y1
  have hc1 := fun w' => icompare_any (ineg a0) false (imag a0) ⟨#[]⟩ w' sA (by decide)
  have hc2 := fun w' => icompare_any (ineg a0) (ineg Y) (imag a0) (imag Y) w' sA sY
  simp only [ival_canon, ival_zero0] at hc1 hc2
  obtain ⟨z1, hz1⟩ : ∃ z, z = cmpZ a0 0 := ⟨_, rfl⟩
  obtain ⟨z2, hz2⟩ : ∃ z, z = cmpZ a0 Y := ⟨_, rfl⟩
  rw [← hz1] at hc1
  rw [← hz2] at hc2
  have t1 : decide (z1 < 0) = false := by rw [hz1]; exact (cmpZ_neg a0 0).trans (by simp; omega)
  have t2 : decide (0 ≤ z2) = true := by
    have h := cmpZ_neg a0 Y
    rw [← hz2, decide_eq_decide] at h
    have h3 : ¬ z2 < 0 := fun h4 => by have := h.1 h4; omega
    simp; omega
  have hix1 : (0 : Int) ≤ (n : Int) := by omega
  have hix2 : (n : Int) < (n : Int) + 1 := by omega
  have hix3 : (0 : Int) ≤ (s0 : Int) := by omega
  have hix4 : (s0 : Int) < (S : Int) := by omega
  have hwn : IntKind.i64.wrap ((n : Int) - 1) = (n : Int) - 1 := IntWalk.i64_in _ (by omega)
  have HRVL := Lib.hid hrvl; clear hrvl
  have HROWS := Lib.hid hrows; clear hrows
  have HTC := Lib.hid htc; clear htc
  have HIN := Lib.hid hin; clear hin
  have HLAB := Lib.hid hlab; clear hlab
  have HR := Lib.hid hr; clear hr
  have HC1 := Lib.hid hc1; clear hc1
  have HC2 := Lib.hid hc2; clear hc2
  have HY0 := Lib.hid hY; clear hY
  clear hrt hrv1 hrv2 hrc gy sA sY hz1 hz2
  refine callsIn_of_wp_marks Tryz.func42 rfl trivial ?_ rfl
  simp only [Tryz.ntmps42, List.size_toArray, List.length_cons, List.length_nil, Nat.reduceAdd, Nat.reduceSub, Array.replicate_succ, Array.replicate_zero, List.push_toArray, List.append_toArray, List.nil_append, List.cons_append]
  gi_wp2
  simp only [Nat.add_assoc, Nat.reduceAdd]
  obtain ⟨w1, hw1⟩ : ∃ w1, ((((w.alloc (.cells #[.int .i64 L, .int .i64 (S : Int), v] 24)).alloc (.cells #[.slice (some ⟨bt, ot, none⟩) (n + 1) ct] 69)).alloc (.cells #[.int .i64 (s0 : Int)] 3)).alloc (.cells #[.bool (ineg a0), .string (imag a0)] 33)) = w1 := ⟨_, rfl⟩
  rw [hw1]
  have hsz1 : w1.heap.size = w.heap.size + 4 := by rw [← hw1]; simp
  have hb1 : Below w.heap.size w w1 := by rw [← hw1]; exact ((((Below.refl _ w).alloc (Nat.le_refl _) _).alloc (by simp) _).alloc (by simp; omega) _).alloc (by simp; omega) _
  have bG1 : Blk w1 w.heap.size 24 [.int .i64 L, .int .i64 (S : Int), v] := by rw [← hw1]; exact (((Blk.new w _ _).alloc _).alloc _).alloc _
  have bT1 : Blk w1 (w.heap.size + 1) 69 [.slice (some ⟨bt, ot, none⟩) (n + 1) ct] := by
    have h := Blk.new (w.alloc (.cells #[.int .i64 L, .int .i64 (S : Int), v] 24)) 69 [.slice (some ⟨bt, ot, none⟩) (n + 1) ct]
    rw [World.size_alloc] at h
    rw [← hw1]; exact (h.alloc _).alloc _
  have bS1 : Blk w1 (w.heap.size + 2) 3 [.int .i64 (s0 : Int)] := by
    have h := Blk.new ((w.alloc (.cells #[.int .i64 L, .int .i64 (S : Int), v] 24)).alloc (.cells #[.slice (some ⟨bt, ot, none⟩) (n + 1) ct] 69)) 3 [.int .i64 (s0 : Int)]
    simp only [World.size_alloc, Nat.add_assoc, Nat.reduceAdd] at h
    rw [← hw1]; exact h.alloc _
  have bA1 : Blk w1 (w.heap.size + 3) 33 [.bool (ineg a0), .string (imag a0)] := by
    have h := Blk.new (((w.alloc (.cells #[.int .i64 L, .int .i64 (S : Int), v] 24)).alloc (.cells #[.slice (some ⟨bt, ot, none⟩) (n + 1) ct] 69)).alloc (.cells #[.int .i64 (s0 : Int)] 3)) 33 [.bool (ineg a0), .string (imag a0)]
    simp only [World.size_alloc, Nat.add_assoc, Nat.reduceAdd] at h
    rw [← hw1]; exact h
  clear hw1
  have x0 := bA1.cell (j := 0) rfl
  have x1 := bA1.cell (j := 1) rfl
  have xT := bT1.cell (j := 0) rfl
  have xS := bS1.cell (j := 0) rfl
  have r1 := (hb1.cell (p := ⟨bt, ot + n, none⟩) hbt).trans r0
  have y2 := (hb1.cell (p := ⟨br, orr + s0 * 2, none⟩) hbr).trans y0
  have y3 := (hb1.cell (p := ⟨br, orr + s0 * 2 + 1, none⟩) hbr).trans y1
  clear r0 y0 y1
  have BG1 := Lib.hid bG1; clear bG1
  have BT1 := Lib.hid bT1; clear bT1
  have BS1 := Lib.hid bS1; clear bS1
  have BA1 := Lib.hid bA1; clear bA1
  have HB1 := Lib.hid hb1; clear hb1
  refine wpIn_wide.2 ?_
  refine wp_region_noPanic ?_
  refine wp_region_held_drew (S := fun w' => w'.cell? ⟨w.heap.size + 3, 0, none⟩ = some (.bool (ineg a0)) ∧ w'.cell? ⟨w.heap.size + 3, 1, none⟩ = some (.string (imag a0)) ∧ w'.cell? ⟨w.heap.size + 1, 0, none⟩ = some (.slice (some ⟨bt, ot, none⟩) (n + 1) ct) ∧ w'.cell? ⟨w.heap.size + 2, 0, none⟩ = some (.int .i64 (s0 : Int)) ∧ w'.cell? ⟨bt, ot + n, none⟩ = some (.slice (some ⟨br, orr, none⟩) S cr) ∧ w'.cell? ⟨br, orr + s0 * 2, none⟩ = some (.bool (ineg Y)) ∧ w'.cell? ⟨br, orr + s0 * 2 + 1, none⟩ = some (.string (imag Y))) (by kernel_rfl) ?_ (fun hHeld => ?_)
  · go_keep
  refine wpAnyH_take (i := 0) (v := ?_) rfl (by kernel_rfl) (by kernel_rfl) (by kernel_rfl) (fun _ _ _ h => h) (Or.inl ⟨by rfl, ?_⟩) (by assumption) ?_
  rotate_left
  · (intro wS hSw; (try dsimp only at hSw); go_simp; (try with_reducible rfl))
  (try simp only [Act.put, List.setIfInBounds_toArray, List.set_cons_zero, List.set_cons_succ])
  refine wpAnyH_take (i := 1) (v := ?_) rfl (by kernel_rfl) (by kernel_rfl) (by kernel_rfl) (fun _ _ _ h => h) (Or.inl ⟨by rfl, ?_⟩) (by assumption) ?_
  rotate_left
  · (intro wS hSw; (try dsimp only at hSw); go_simp; (try with_reducible rfl))
  (try simp only [Act.put, List.setIfInBounds_toArray, List.set_cons_zero, List.set_cons_succ])
  refine wpAnyH_ready (rs := [2]) (by kernel_rfl) (by simp) ?_
  refine AllReadyH.cons rfl (fun K hK => ?_) AllReadyH.nil
  go_simp
  go_at_call 62
  refine (HC1.out _).mono ?_
  rintro e w2 ⟨hq2, rfl⟩
  dsimp only
  have q0 := (hq2.cell (p := ⟨w.heap.size + 3, 0, none⟩) (show w.heap.size + 3 < w1.heap.size by omega)).trans hHeld.1
  have q1 := (hq2.cell (p := ⟨w.heap.size + 3, 1, none⟩) (show w.heap.size + 3 < w1.heap.size by omega)).trans hHeld.2.1
  have q2 := (hq2.cell (p := ⟨w.heap.size + 1, 0, none⟩) (show w.heap.size + 1 < w1.heap.size by omega)).trans hHeld.2.2.1
  have q3 := (hq2.cell (p := ⟨w.heap.size + 2, 0, none⟩) (show w.heap.size + 2 < w1.heap.size by omega)).trans hHeld.2.2.2.1
  have q4 := (hq2.cell (p := ⟨bt, ot + n, none⟩) (show bt < w1.heap.size by omega)).trans hHeld.2.2.2.2.1
  have q5 := (hq2.cell (p := ⟨br, orr + s0 * 2, none⟩) (show br < w1.heap.size by omega)).trans hHeld.2.2.2.2.2.1
  have q6 := (hq2.cell (p := ⟨br, orr + s0 * 2 + 1, none⟩) (show br < w1.heap.size by omega)).trans hHeld.2.2.2.2.2.2
  refine hK.out _ _ ⟨q0, q1, q2, q3, q4, q5, q6⟩ (fun hHeld2 => ?_)
  clear hK K hHeld x0 x1 xT xS r1 y2 y3
  (try simp only [Act.put, List.setIfInBounds_toArray, List.set_cons_zero, List.set_cons_succ])
  have hbB := HB1.out.drew.trans (hq2.mono HB1.out.size)
  have k1 := BG1.out.drew.keep hq2
  have k2 := BT1.out.drew.keep hq2
  have k3 := BS1.out.drew.keep hq2
  have k4 := BA1.out.drew.keep hq2
  have hl2 : w.heap.size + 3 < w2.heap.size := k4.lt
  have HB2 := Lib.hid hbB; clear hbB
  have BG2 := Lib.hid k1; clear k1
  have BT2 := Lib.hid k2; clear k2
  have BS2 := Lib.hid k3; clear k3
  have BA2 := Lib.hid k4; clear k4
  clear hq2
  refine wpAnyH_take (i := 3) (v := ?_) rfl (by kernel_rfl) (by kernel_rfl) (by kernel_rfl) (fun _ _ _ h => h) (Or.inl ⟨by rfl, ?_⟩) (by assumption) ?_
  rotate_left
  · (intro wS hSw; (try dsimp only at hSw); go_simp; (try with_reducible rfl))
  (try simp only [Act.put, List.setIfInBounds_toArray, List.set_cons_zero, List.set_cons_succ])
  refine wpAnyH_take (i := 4) (v := ?_) rfl (by kernel_rfl) (by kernel_rfl) (by kernel_rfl) (fun _ _ _ h => h) (Or.inl ⟨by rfl, ?_⟩) (by assumption) ?_
  rotate_left
  · (intro wS hSw; (try dsimp only at hSw); go_simp; (try with_reducible rfl))
  (try simp only [Act.put, List.setIfInBounds_toArray, List.set_cons_zero, List.set_cons_succ])
  refine wpAnyH_take (i := 5) (v := ?_) rfl (by kernel_rfl) (by kernel_rfl) (by kernel_rfl) (fun _ _ _ h => h) (Or.inl ⟨by kernel_rfl, ?_⟩) (by assumption) ?_
  rotate_left
  · (intro wS hSw; (try dsimp only at hSw); go_simp; (try with_reducible rfl))
  (try simp only [Act.put, List.setIfInBounds_toArray, List.set_cons_zero, List.set_cons_succ])
  refine wpAnyH_take (i := 6) (v := ?_) rfl (by kernel_rfl) (by kernel_rfl) (by kernel_rfl) (fun _ _ _ h => h) (Or.inl ⟨by kernel_rfl, ?_⟩) (by assumption) ?_
  rotate_left
  · (intro wS hSw; (try dsimp only at hSw); go_simp; (try with_reducible rfl))
  (try simp only [Act.put, List.setIfInBounds_toArray, List.set_cons_zero, List.set_cons_succ])
  refine wpAnyH_take (i := 7) (v := ?_) rfl (by kernel_rfl) (by kernel_rfl) (by kernel_rfl) (fun _ _ _ h => h) (Or.inl ⟨by kernel_rfl, ?_⟩) (by assumption) ?_
  rotate_left
  · (intro wS hSw; (try dsimp only at hSw); go_simp; (try with_reducible rfl))
  (try simp only [Act.put, List.setIfInBounds_toArray, List.set_cons_zero, List.set_cons_succ])
  refine wpAnyH_take (i := 8) (v := ?_) rfl (by kernel_rfl) (by kernel_rfl) (by kernel_rfl) (fun _ _ _ h => h) (Or.inl ⟨by kernel_rfl, ?_⟩) (by assumption) ?_
  rotate_left
  · (intro wS hSw; (try dsimp only at hSw); go_simp; (try with_reducible rfl))
  (try simp only [Act.put, List.setIfInBounds_toArray, List.set_cons_zero, List.set_cons_succ])
  refine wpAnyH_take (i := 9) (v := ?_) rfl (by kernel_rfl) (by kernel_rfl) (by kernel_rfl) (fun _ _ _ h => h) (Or.inl ⟨by kernel_rfl, ?_⟩) (by assumption) ?_
  rotate_left
  · (intro wS hSw; (try dsimp only at hSw); go_simp; (try with_reducible rfl))
  (try simp only [Act.put, List.setIfInBounds_toArray, List.set_cons_zero, List.set_cons_succ])
  refine wpAnyH_take (i := 10) (v := ?_) rfl (by kernel_rfl) (by kernel_rfl) (by kernel_rfl) (fun _ _ _ h => h) (Or.inl ⟨by kernel_rfl, ?_⟩) (by assumption) ?_
  rotate_left
  · (intro wS hSw; (try dsimp only at hSw); go_simp; (try with_reducible rfl))
  (try simp only [Act.put, List.setIfInBounds_toArray, List.set_cons_zero, List.set_cons_succ])
  refine wpAnyH_take (i := 11) (v := ?_) rfl (by kernel_rfl) (by kernel_rfl) (by kernel_rfl) (fun _ _ _ h => h) (Or.inl ⟨by kernel_rfl, ?_⟩) (by assumption) ?_
  rotate_left
  · (intro wS hSw; (try dsimp only at hSw); go_simp; (try with_reducible rfl))
  (try simp only [Act.put, List.setIfInBounds_toArray, List.set_cons_zero, List.set_cons_succ])
  refine wpAnyH_take (i := 12) (v := ?_) rfl (by kernel_rfl) (by kernel_rfl) (by kernel_rfl) (fun _ _ _ h => h) (Or.inl ⟨by kernel_rfl, ?_⟩) (by assumption) ?_
  rotate_left
  · (intro wS hSw; (try dsimp only at hSw); go_simp; (try with_reducible rfl))
  (try simp only [Act.put, List.setIfInBounds_toArray, List.set_cons_zero, List.set_cons_succ])
  refine wpAnyH_ready (rs := [13]) (by kernel_rfl) (by simp) ?_
  refine AllReadyH.cons rfl (fun K hK => ?_) AllReadyH.nil
  rw [if_pos (by kernel_rfl)]
  go_simp
  go_at_call 62
  refine (HC2.out _).mono ?_
  rintro e w3 ⟨hq3, rfl⟩
  dsimp only
  have p0 := (hq3.cell (p := ⟨w.heap.size + 3, 0, none⟩) (show w.heap.size + 3 < w2.heap.size by omega)).trans hHeld2.1
  have p1 := (hq3.cell (p := ⟨w.heap.size + 3, 1, none⟩) (show w.heap.size + 3 < w2.heap.size by omega)).trans hHeld2.2.1
  have p2 := (hq3.cell (p := ⟨w.heap.size + 1, 0, none⟩) (show w.heap.size + 1 < w2.heap.size by omega)).trans hHeld2.2.2.1
  have p3 := (hq3.cell (p := ⟨w.heap.size + 2, 0, none⟩) (show w.heap.size + 2 < w2.heap.size by omega)).trans hHeld2.2.2.2.1
  have p4 := (hq3.cell (p := ⟨bt, ot + n, none⟩) (show bt < w2.heap.size by omega)).trans hHeld2.2.2.2.2.1
  have p5 := (hq3.cell (p := ⟨br, orr + s0 * 2, none⟩) (show br < w2.heap.size by omega)).trans hHeld2.2.2.2.2.2.1
  have p6 := (hq3.cell (p := ⟨br, orr + s0 * 2 + 1, none⟩) (show br < w2.heap.size by omega)).trans hHeld2.2.2.2.2.2.2
  refine hK.out _ _ ⟨p0, p1, p2, p3, p4, p5, p6⟩ (fun hHeld3 => ?_)
  clear hK K hHeld2
  (try simp only [Act.put, List.setIfInBounds_toArray, List.set_cons_zero, List.set_cons_succ])
  have hbB := HB2.out.trans (hq3.mono HB2.out.size)
  have k1 := BG2.out.keep hq3
  have k2 := BT2.out.keep hq3
  have k3 := BS2.out.keep hq3
  have k4 := BA2.out.keep hq3
  have hl3 : w.heap.size + 3 < w3.heap.size := k4.lt
  have HB3 := Lib.hid hbB; clear hbB
  have BG3 := Lib.hid k1; clear k1
  have BT3 := Lib.hid k2; clear k2
  have BS3 := Lib.hid k3; clear k3
  have BA3 := Lib.hid k4; clear k4
  clear hq3 q0 q1 q2 q3 q4 q5 q6 p0 p1 p2 p3 p4 p5 p6
  refine wpAnyH_take (i := 14) (v := ?_) rfl (by kernel_rfl) (by kernel_rfl) (by kernel_rfl) (fun _ _ _ h => h) (Or.inl ⟨by kernel_rfl, ?_⟩) (by assumption) ?_
  rotate_left
  · (intro wS hSw; (try dsimp only at hSw); go_simp; (try with_reducible rfl))
  (try simp only [Act.put, List.setIfInBounds_toArray, List.set_cons_zero, List.set_cons_succ])
  refine wpAnyH_take (i := 15) (v := ?_) rfl (by kernel_rfl) (by kernel_rfl) (by kernel_rfl) (fun _ _ _ h => h) (Or.inl ⟨by rfl, ?_⟩) (by assumption) ?_
  rotate_left
  · (intro wS hSw; (try dsimp only at hSw); go_simp; (try with_reducible rfl))
  (try simp only [Act.put, List.setIfInBounds_toArray, List.set_cons_zero, List.set_cons_succ])
  refine wpAnyH_done (by kernel_rfl) ?_ _
  (try simp only [List.getElem_toArray, List.getElem_cons_zero, List.getElem_cons_succ, Act.put, List.setIfInBounds_toArray, List.set_cons_zero, List.set_cons_succ])
  refine NoPanic.normal ?_
  clear hHeld3
  gi_wp2
  refine leaves_marks w.heap.size (fun W => Below w.heap.size w W) (fun W D hB hk hD => hk.grown (grownBy_putObj' W D _) (by have := hk.size; omega) (fun j' e' => by cases e'; omega)) (fun W hk => ?hfin) [] _ HB3.out (by simp) (by simp) (by simp)
  case hfin =>
    refine ⟨_, ?_, hk, rfl⟩
    simp [results, Tryz.results42, go_sem]
end Go.Proofs.YtalipfnbpnkgnaaGreat

/- enumerative.unrank at numbers of words. -/
import Derived.Test.YtalipfnbpnkgnaaGreatPart14
import Derived.Test.YtalipfnbpnkgnaaGreatPart16
import Derived.Test.YtalipfnbpnkgnaaGreatRank
namespace Go.Proofs.YtalipfnbpnkgnaaGreat
open Go.RowKit Go.Shelf

attribute [local go_sem] Oper.semAt_some

/-- What unrank hands back. -/
def UrRet (R : List UInt8 × Int) (w : World) (e : Ending) (w' : World) : Prop :=
  Below w.heap.size w w' ∧ e = .returned (.tuple #[.string ⟨R.1.toArray⟩, .int .i64 R.2, .bool true])
theorem ival_zero0 : ival false ⟨#[]⟩ = 0 := by rw [← ineg_zero, ← imag_zero, ival_canon]

set_option maxRecDepth 100000 in
set_option maxHeartbeats 8000000 in
theorem unrank_in (L : Int) (S s0 n : Nat) (a0 : Int) (es : List E3) (v tv : Value) (p : Int → Bool) (w : World) (hr : Row w v es.length (ce es)) (ht : Tab w tv (tabL es S p n)) (hS : S ≤ 64) (hl : es.length ≤ 1024) (hin : InS S es) (hlab : ∀ e ∈ es, 0 ≤ e.l ∧ e.l < 16) (hs0 : s0 < S) (hn : n ≤ 4096) (ha0 : 0 ≤ a0) (ha1 : a0 < cw es p n (s0 : Int)) :
    CallsIn Fence.wide 8 Tryz.prog 42 #[.agg #[.int .i64 L, .int .i64 (S : Int), v], tv, .int .i64 (s0 : Int), .int .i64 (n : Int), .agg #[.bool (ineg a0), .string (imag a0)]] w (UrRet (ur es p n (s0 : Int) a0) w) := by
  obtain ⟨R, hR⟩ : ∃ R, R = ur es p n (s0 : Int) a0 := ⟨_, rfl⟩
  rw [← hR]
  obtain ⟨rvs, hrvl, hrt, hrows⟩ := ht
  rw [tabL_length] at hrt
  obtain ⟨at0, ct, rfl, hct⟩ := hrt.slice
  obtain ⟨bt, ot, rfl, hbt, htc⟩ := hrt.at_ (by omega)
  have hmono : ∀ (m : Nat) (s : Int) (a : Int), m ≤ n → 0 ≤ a → a < cw es p m s → small a := fun m s a hm h0 h1 => by
    have hb := (cw_bigM (es := es) (by omega) p m (by omega) s).2
    exact SumOk.small (j := 1) ⟨h0, by omega⟩ (by omega)
  -- the row of length n
  obtain ⟨rv, hrv1, hrv2⟩ := hrows n _ (tabL_get (by omega))
  rw [rowK_length] at hrv2
  obtain ⟨ar, cr, rfl, hcr⟩ := hrv2.slice
  obtain ⟨br, orr, rfl, hbr, hrc⟩ := hrv2.at_ (by omega)
  have r0 := htc n _ hrv1
  have gy : (rowK es S p n)[s0]? = some (cw es p n (s0 : Int)) := rowK_get hs0
  have sA := hmono n (s0 : Int) a0 (Nat.le_refl _) ha0 ha1
  have sY : small (cw es p n (s0 : Int)) := cw_small (by omega) p n (by omega) _
  obtain ⟨Y, hY⟩ : ∃ Y, Y = cw es p n (s0 : Int) := ⟨_, rfl⟩
  rw [← hY] at gy sY
  have y0 := hrc _ _ (civ_get gy).1
  have y1 := hrc _ _ (civ_get gy).2
  rw [← Nat.add_assoc] at y1
  have hc1 := fun w' => icompare_any (ineg a0) false (imag a0) ⟨#[]⟩ w' sA (by decide)
  have hc2 := fun w' => icompare_any (ineg a0) (ineg Y) (imag a0) (imag Y) w' sA sY
  simp only [ival_canon, ival_zero0] at hc1 hc2
  obtain ⟨z1, hz1⟩ : ∃ z, z = cmpZ a0 0 := ⟨_, rfl⟩
  obtain ⟨z2, hz2⟩ : ∃ z, z = cmpZ a0 Y := ⟨_, rfl⟩
  rw [← hz1] at hc1
  rw [← hz2] at hc2
  have t1 : decide (z1 < 0) = false := by rw [hz1]; exact (cmpZ_neg a0 0).trans (by simp; omega)
  have t2 : decide (0 ≤ z2) = false := by
    have h := cmpZ_neg a0 Y
    rw [← hz2, decide_eq_decide] at h
    have h3 := h.2 (by rw [hY]; exact ha1)
    simp; omega
  have hix1 : (0 : Int) ≤ (n : Int) := by omega
  have hix2 : (n : Int) < (n : Int) + 1 := by omega
  have hix3 : (0 : Int) ≤ (s0 : Int) := by omega
  have hix4 : (s0 : Int) < (S : Int) := by omega
  have hwn : IntKind.i64.wrap ((n : Int) - 1) = (n : Int) - 1 := IntWalk.i64_in _ (by omega)
  have HR0 := Lib.hid hR; clear hR
  have HRVL := Lib.hid hrvl; clear hrvl
  have HROWS := Lib.hid hrows; clear hrows
  have HTC := Lib.hid htc; clear htc
  have HIN := Lib.hid hin; clear hin
  have HLAB := Lib.hid hlab; clear hlab
  have HR := Lib.hid hr; clear hr
  have HC1 := Lib.hid hc1; clear hc1
  have HC2 := Lib.hid hc2; clear hc2
  have HMONO := Lib.hid hmono; clear hmono
  have HY0 := Lib.hid hY; clear hY
  clear hrt hrv1 hrv2 hrc gy sA sY hz1 hz2
  refine callsIn_of_wp_marks Tryz.func42 rfl trivial ?_ rfl
  simp only [Tryz.ntmps42, List.size_toArray, List.length_cons, List.length_nil, Nat.reduceAdd, Nat.reduceSub, Array.replicate_succ, Array.replicate_zero, List.push_toArray, List.append_toArray, List.nil_append, List.cons_append]
  gi_wp2
  simp only [Nat.add_assoc, Nat.reduceAdd]
  obtain ⟨w1, hw1⟩ : ∃ w1, ((((w.alloc (.cells #[.int .i64 L, .int .i64 (S : Int), v] 24)).alloc (.cells #[.slice (some ⟨bt, ot, none⟩) (n + 1) ct] 69)).alloc (.cells #[.int .i64 (s0 : Int)] 3)).alloc (.cells #[.bool (ineg a0), .string (imag a0)] 33)) = w1 := ⟨_, rfl⟩
  rw [hw1]
  have hsz1 : w1.heap.size = w.heap.size + 4 := by rw [← hw1]; simp
  have hb1 : Below w.heap.size w w1 := by rw [← hw1]; exact ((((Below.refl _ w).alloc (Nat.le_refl _) _).alloc (by simp) _).alloc (by simp; omega) _).alloc (by simp; omega) _
  have bG1 : Blk w1 w.heap.size 24 [.int .i64 L, .int .i64 (S : Int), v] := by rw [← hw1]; exact (((Blk.new w _ _).alloc _).alloc _).alloc _
  have bT1 : Blk w1 (w.heap.size + 1) 69 [.slice (some ⟨bt, ot, none⟩) (n + 1) ct] := by
    have h := Blk.new (w.alloc (.cells #[.int .i64 L, .int .i64 (S : Int), v] 24)) 69 [.slice (some ⟨bt, ot, none⟩) (n + 1) ct]
    rw [World.size_alloc] at h
    rw [← hw1]; exact (h.alloc _).alloc _
  have bS1 : Blk w1 (w.heap.size + 2) 3 [.int .i64 (s0 : Int)] := by
    have h := Blk.new ((w.alloc (.cells #[.int .i64 L, .int .i64 (S : Int), v] 24)).alloc (.cells #[.slice (some ⟨bt, ot, none⟩) (n + 1) ct] 69)) 3 [.int .i64 (s0 : Int)]
    simp only [World.size_alloc, Nat.add_assoc, Nat.reduceAdd] at h
    rw [← hw1]; exact h.alloc _
  have bA1 : Blk w1 (w.heap.size + 3) 33 [.bool (ineg a0), .string (imag a0)] := by
    have h := Blk.new (((w.alloc (.cells #[.int .i64 L, .int .i64 (S : Int), v] 24)).alloc (.cells #[.slice (some ⟨bt, ot, none⟩) (n + 1) ct] 69)).alloc (.cells #[.int .i64 (s0 : Int)] 3)) 33 [.bool (ineg a0), .string (imag a0)]
    simp only [World.size_alloc, Nat.add_assoc, Nat.reduceAdd] at h
    rw [← hw1]; exact h
  clear hw1
  have x0 := bA1.cell (j := 0) rfl
  have x1 := bA1.cell (j := 1) rfl
  have xT := bT1.cell (j := 0) rfl
  have xS := bS1.cell (j := 0) rfl
  have r1 := (hb1.cell (p := ⟨bt, ot + n, none⟩) hbt).trans r0
  have y2 := (hb1.cell (p := ⟨br, orr + s0 * 2, none⟩) hbr).trans y0
  have y3 := (hb1.cell (p := ⟨br, orr + s0 * 2 + 1, none⟩) hbr).trans y1
  clear r0 y0 y1
  have BG1 := Lib.hid bG1; clear bG1
  have BT1 := Lib.hid bT1; clear bT1
  have BS1 := Lib.hid bS1; clear bS1
  have BA1 := Lib.hid bA1; clear bA1
  have HB1 := Lib.hid hb1; clear hb1
  refine wpIn_wide.2 ?_
  refine wp_region_noPanic ?_
  refine wp_region_held_drew (S := fun w' => w'.cell? ⟨w.heap.size + 3, 0, none⟩ = some (.bool (ineg a0)) ∧ w'.cell? ⟨w.heap.size + 3, 1, none⟩ = some (.string (imag a0)) ∧ w'.cell? ⟨w.heap.size + 1, 0, none⟩ = some (.slice (some ⟨bt, ot, none⟩) (n + 1) ct) ∧ w'.cell? ⟨w.heap.size + 2, 0, none⟩ = some (.int .i64 (s0 : Int)) ∧ w'.cell? ⟨bt, ot + n, none⟩ = some (.slice (some ⟨br, orr, none⟩) S cr) ∧ w'.cell? ⟨br, orr + s0 * 2, none⟩ = some (.bool (ineg Y)) ∧ w'.cell? ⟨br, orr + s0 * 2 + 1, none⟩ = some (.string (imag Y))) (by kernel_rfl) ?_ (fun hHeld => ?_)
  · go_keep
  refine wpAnyH_take (i := 0) (v := ?_) rfl (by kernel_rfl) (by kernel_rfl) (by kernel_rfl) (fun _ _ _ h => h) (Or.inl ⟨by rfl, ?_⟩) (by assumption) ?_
  rotate_left
  · (intro wS hSw; (try dsimp only at hSw); go_simp; (try with_reducible rfl))
  (try simp only [Act.put, List.setIfInBounds_toArray, List.set_cons_zero, List.set_cons_succ])
  refine wpAnyH_take (i := 1) (v := ?_) rfl (by kernel_rfl) (by kernel_rfl) (by kernel_rfl) (fun _ _ _ h => h) (Or.inl ⟨by rfl, ?_⟩) (by assumption) ?_
  rotate_left
  · (intro wS hSw; (try dsimp only at hSw); go_simp; (try with_reducible rfl))
  (try simp only [Act.put, List.setIfInBounds_toArray, List.set_cons_zero, List.set_cons_succ])
  refine wpAnyH_ready (rs := [2]) (by kernel_rfl) (by simp) ?_
  refine AllReadyH.cons rfl (fun K hK => ?_) AllReadyH.nil
  go_simp
  go_at_call 62
  refine (HC1.out _).mono ?_
  rintro e w2 ⟨hq2, rfl⟩
  dsimp only
  have q0 := (hq2.cell (p := ⟨w.heap.size + 3, 0, none⟩) (show w.heap.size + 3 < w1.heap.size by omega)).trans hHeld.1
  have q1 := (hq2.cell (p := ⟨w.heap.size + 3, 1, none⟩) (show w.heap.size + 3 < w1.heap.size by omega)).trans hHeld.2.1
  have q2 := (hq2.cell (p := ⟨w.heap.size + 1, 0, none⟩) (show w.heap.size + 1 < w1.heap.size by omega)).trans hHeld.2.2.1
  have q3 := (hq2.cell (p := ⟨w.heap.size + 2, 0, none⟩) (show w.heap.size + 2 < w1.heap.size by omega)).trans hHeld.2.2.2.1
  have q4 := (hq2.cell (p := ⟨bt, ot + n, none⟩) (show bt < w1.heap.size by omega)).trans hHeld.2.2.2.2.1
  have q5 := (hq2.cell (p := ⟨br, orr + s0 * 2, none⟩) (show br < w1.heap.size by omega)).trans hHeld.2.2.2.2.2.1
  have q6 := (hq2.cell (p := ⟨br, orr + s0 * 2 + 1, none⟩) (show br < w1.heap.size by omega)).trans hHeld.2.2.2.2.2.2
  refine hK.out _ _ ⟨q0, q1, q2, q3, q4, q5, q6⟩ (fun hHeld2 => ?_)
  clear hK K hHeld x0 x1 xT xS r1 y2 y3
  (try simp only [Act.put, List.setIfInBounds_toArray, List.set_cons_zero, List.set_cons_succ])
  have hbB := HB1.out.drew.trans (hq2.mono HB1.out.size)
  have k1 := BG1.out.drew.keep hq2
  have k2 := BT1.out.drew.keep hq2
  have k3 := BS1.out.drew.keep hq2
  have k4 := BA1.out.drew.keep hq2
  have hl2 : w.heap.size + 3 < w2.heap.size := k4.lt
  have HB2 := Lib.hid hbB; clear hbB
  have BG2 := Lib.hid k1; clear k1
  have BT2 := Lib.hid k2; clear k2
  have BS2 := Lib.hid k3; clear k3
  have BA2 := Lib.hid k4; clear k4
  clear hq2
  refine wpAnyH_take (i := 3) (v := ?_) rfl (by kernel_rfl) (by kernel_rfl) (by kernel_rfl) (fun _ _ _ h => h) (Or.inl ⟨by rfl, ?_⟩) (by assumption) ?_
  rotate_left
  · (intro wS hSw; (try dsimp only at hSw); go_simp; (try with_reducible rfl))
  (try simp only [Act.put, List.setIfInBounds_toArray, List.set_cons_zero, List.set_cons_succ])
  refine wpAnyH_take (i := 4) (v := ?_) rfl (by kernel_rfl) (by kernel_rfl) (by kernel_rfl) (fun _ _ _ h => h) (Or.inl ⟨by rfl, ?_⟩) (by assumption) ?_
  rotate_left
  · (intro wS hSw; (try dsimp only at hSw); go_simp; (try with_reducible rfl))
  (try simp only [Act.put, List.setIfInBounds_toArray, List.set_cons_zero, List.set_cons_succ])
  refine wpAnyH_take (i := 5) (v := ?_) rfl (by kernel_rfl) (by kernel_rfl) (by kernel_rfl) (fun _ _ _ h => h) (Or.inl ⟨by kernel_rfl, ?_⟩) (by assumption) ?_
  rotate_left
  · (intro wS hSw; (try dsimp only at hSw); go_simp; (try with_reducible rfl))
  (try simp only [Act.put, List.setIfInBounds_toArray, List.set_cons_zero, List.set_cons_succ])
  refine wpAnyH_take (i := 6) (v := ?_) rfl (by kernel_rfl) (by kernel_rfl) (by kernel_rfl) (fun _ _ _ h => h) (Or.inl ⟨by kernel_rfl, ?_⟩) (by assumption) ?_
  rotate_left
  · (intro wS hSw; (try dsimp only at hSw); go_simp; (try with_reducible rfl))
  (try simp only [Act.put, List.setIfInBounds_toArray, List.set_cons_zero, List.set_cons_succ])
  refine wpAnyH_take (i := 7) (v := ?_) rfl (by kernel_rfl) (by kernel_rfl) (by kernel_rfl) (fun _ _ _ h => h) (Or.inl ⟨by kernel_rfl, ?_⟩) (by assumption) ?_
  rotate_left
  · (intro wS hSw; (try dsimp only at hSw); go_simp; (try with_reducible rfl))
  (try simp only [Act.put, List.setIfInBounds_toArray, List.set_cons_zero, List.set_cons_succ])
  refine wpAnyH_take (i := 8) (v := ?_) rfl (by kernel_rfl) (by kernel_rfl) (by kernel_rfl) (fun _ _ _ h => h) (Or.inl ⟨by kernel_rfl, ?_⟩) (by assumption) ?_
  rotate_left
  · (intro wS hSw; (try dsimp only at hSw); go_simp; (try with_reducible rfl))
  (try simp only [Act.put, List.setIfInBounds_toArray, List.set_cons_zero, List.set_cons_succ])
  refine wpAnyH_take (i := 9) (v := ?_) rfl (by kernel_rfl) (by kernel_rfl) (by kernel_rfl) (fun _ _ _ h => h) (Or.inl ⟨by kernel_rfl, ?_⟩) (by assumption) ?_
  rotate_left
  · (intro wS hSw; (try dsimp only at hSw); go_simp; (try with_reducible rfl))
  (try simp only [Act.put, List.setIfInBounds_toArray, List.set_cons_zero, List.set_cons_succ])
  refine wpAnyH_take (i := 10) (v := ?_) rfl (by kernel_rfl) (by kernel_rfl) (by kernel_rfl) (fun _ _ _ h => h) (Or.inl ⟨by kernel_rfl, ?_⟩) (by assumption) ?_
  rotate_left
  · (intro wS hSw; (try dsimp only at hSw); go_simp; (try with_reducible rfl))
  (try simp only [Act.put, List.setIfInBounds_toArray, List.set_cons_zero, List.set_cons_succ])
  refine wpAnyH_take (i := 11) (v := ?_) rfl (by kernel_rfl) (by kernel_rfl) (by kernel_rfl) (fun _ _ _ h => h) (Or.inl ⟨by kernel_rfl, ?_⟩) (by assumption) ?_
  rotate_left
  · (intro wS hSw; (try dsimp only at hSw); go_simp; (try with_reducible rfl))
  (try simp only [Act.put, List.setIfInBounds_toArray, List.set_cons_zero, List.set_cons_succ])
  refine wpAnyH_take (i := 12) (v := ?_) rfl (by kernel_rfl) (by kernel_rfl) (by kernel_rfl) (fun _ _ _ h => h) (Or.inl ⟨by kernel_rfl, ?_⟩) (by assumption) ?_
  rotate_left
  · (intro wS hSw; (try dsimp only at hSw); go_simp; (try with_reducible rfl))
  (try simp only [Act.put, List.setIfInBounds_toArray, List.set_cons_zero, List.set_cons_succ])
  refine wpAnyH_ready (rs := [13]) (by kernel_rfl) (by simp) ?_
  refine AllReadyH.cons rfl (fun K hK => ?_) AllReadyH.nil
  rw [if_pos (by kernel_rfl)]
  go_simp
  go_at_call 62
  refine (HC2.out _).mono ?_
  rintro e w3 ⟨hq3, rfl⟩
  dsimp only
  have p0 := (hq3.cell (p := ⟨w.heap.size + 3, 0, none⟩) (show w.heap.size + 3 < w2.heap.size by omega)).trans hHeld2.1
  have p1 := (hq3.cell (p := ⟨w.heap.size + 3, 1, none⟩) (show w.heap.size + 3 < w2.heap.size by omega)).trans hHeld2.2.1
  have p2 := (hq3.cell (p := ⟨w.heap.size + 1, 0, none⟩) (show w.heap.size + 1 < w2.heap.size by omega)).trans hHeld2.2.2.1
  have p3 := (hq3.cell (p := ⟨w.heap.size + 2, 0, none⟩) (show w.heap.size + 2 < w2.heap.size by omega)).trans hHeld2.2.2.2.1
  have p4 := (hq3.cell (p := ⟨bt, ot + n, none⟩) (show bt < w2.heap.size by omega)).trans hHeld2.2.2.2.2.1
  have p5 := (hq3.cell (p := ⟨br, orr + s0 * 2, none⟩) (show br < w2.heap.size by omega)).trans hHeld2.2.2.2.2.2.1
  have p6 := (hq3.cell (p := ⟨br, orr + s0 * 2 + 1, none⟩) (show br < w2.heap.size by omega)).trans hHeld2.2.2.2.2.2.2
  refine hK.out _ _ ⟨p0, p1, p2, p3, p4, p5, p6⟩ (fun hHeld3 => ?_)
  clear hK K hHeld2
  (try simp only [Act.put, List.setIfInBounds_toArray, List.set_cons_zero, List.set_cons_succ])
  have hbB := HB2.out.trans (hq3.mono HB2.out.size)
  have k1 := BG2.out.keep hq3
  have k2 := BT2.out.keep hq3
  have k3 := BS2.out.keep hq3
  have k4 := BA2.out.keep hq3
  have hl3 : w.heap.size + 3 < w3.heap.size := k4.lt
  have HB3 := Lib.hid hbB; clear hbB
  have BG3 := Lib.hid k1; clear k1
  have BT3 := Lib.hid k2; clear k2
  have BS3 := Lib.hid k3; clear k3
  have BA3 := Lib.hid k4; clear k4
  clear hq3 q0 q1 q2 q3 q4 q5 q6 p0 p1 p2 p3 p4 p5 p6
  refine wpAnyH_take (i := 14) (v := ?_) rfl (by kernel_rfl) (by kernel_rfl) (by kernel_rfl) (fun _ _ _ h => h) (Or.inl ⟨by kernel_rfl, ?_⟩) (by assumption) ?_
  rotate_left
  · (intro wS hSw; (try dsimp only at hSw); go_simp; (try with_reducible rfl))
  (try simp only [Act.put, List.setIfInBounds_toArray, List.set_cons_zero, List.set_cons_succ])
  refine wpAnyH_take (i := 15) (v := ?_) rfl (by kernel_rfl) (by kernel_rfl) (by kernel_rfl) (fun _ _ _ h => h) (Or.inl ⟨by rfl, ?_⟩) (by assumption) ?_
  rotate_left
  · (intro wS hSw; (try dsimp only at hSw); go_simp; (try with_reducible rfl))
  (try simp only [Act.put, List.setIfInBounds_toArray, List.set_cons_zero, List.set_cons_succ])
  refine wpAnyH_done (by kernel_rfl) ?_ _
  (try simp only [List.getElem_toArray, List.getElem_cons_zero, List.getElem_cons_succ, Act.put, List.setIfInBounds_toArray, List.set_cons_zero, List.set_cons_succ])
  refine NoPanic.normal ?_
  clear hHeld3 t1 t2 hix1 hix2 hix3 hix4
  gi_wp2
  obtain ⟨N, hN⟩ : ∃ N, w3.heap.size = N := ⟨_, rfl⟩
  rw [hN]
  obtain ⟨w4, hw4⟩ : ∃ w4, (w3.alloc (.cells #[.pointer none, .slice none 0 0] 79)).alloc (.cells #[.int .i64 ((n : Int) - 1)] 3) = w4 := ⟨_, rfl⟩
  have hbq : Below w3.heap.size w3 w4 := by rw [← hw4]; exact ((Below.refl _ w3).alloc (Nat.le_refl _) _).alloc (by simp) _
  have isb : IsB N [] w4 := by rw [← hw4, ← hN]; exact isB_alloc (isB_new w3) _
  have bI : Blk w4 (N + 1) 3 [.int .i64 ((n : Int) - 1)] := by
    have h := Blk.new (w3.alloc (.cells #[.pointer none, .slice none 0 0] 79)) 3 [.int .i64 ((n : Int) - 1)]
    rw [World.size_alloc, hN] at h
    rw [← hw4]; exact h
  have k1 := BG3.out.keep hbq
  have k2 := BT3.out.keep hbq
  have k3 := BS3.out.keep hbq
  have k4 := BA3.out.keep hbq
  have hb4 : Below w.heap.size w w4 := HB3.out.trans (hbq.mono HB3.out.size)
  have hNl : w.heap.size + 3 < N := by omega
  have hs4 : w4.heap.size = N + 2 := by rw [← hw4, ← hN]; simp
  rw [hw4]
  clear hw4 hbq
  have ISB := Lib.hid isb; clear isb
  have BI := Lib.hid bI; clear bI
  have BG4 := Lib.hid k1; clear k1
  have BT4 := Lib.hid k2; clear k2
  have BS4 := Lib.hid k3; clear k3
  have BA4 := Lib.hid k4; clear k4
  have HB4 := Lib.hid hb4; clear hb4
  refine wpIn_loop (fun a' W => ∃ (m bi : Nat) (Ds : List Nat) (u15 u16 u17 u18 u19 u20 u21 u22 u23 u24 u25 u26 u27 u28 u29 u30 u31 u32 u33 u34 u35 u36 u37 u38 u39 u40 u41 u42 u43 u44 u45 u46 u47 u48 u49 u50 u51 u52 u53 u54 u55 u56 u57 u58 u59 u60 u61 u62 u63 u64 u65 u66 u67 u68 u69 : Value) (sk : Nat) (ak : Int) (acc : List UInt8), a' = { tmps := (List.toArray ((.agg #[.int .i64 L, .int .i64 (S : Int), v] : Value) :: (.slice (some ⟨bt, ot, none⟩) (n + 1) ct : Value) :: (.int .i64 (s0 : Int) : Value) :: (.int .i64 (n : Int) : Value) :: (.agg #[.bool (ineg a0), .string (imag a0)] : Value) :: (.pointer (some ⟨w.heap.size, 0, none⟩) : Value) :: (.pointer (some ⟨w.heap.size + 1, 0, none⟩) : Value) :: (.pointer (some ⟨w.heap.size + 2, 0, none⟩) : Value) :: (undef : Value) :: (.pointer (some ⟨w.heap.size + 3, 0, none⟩) : Value) :: (.string ⟨#[]⟩ : Value) :: (.int .i64 0 : Value) :: (.bool false : Value) :: (.pointer (some ⟨N, 0, none⟩) : Value) :: (.pointer (some ⟨bi, 0, none⟩) : Value) :: (u15 : Value) :: (u16 : Value) :: (u17 : Value) :: (u18 : Value) :: (u19 : Value) :: (u20 : Value) :: (u21 : Value) :: (u22 : Value) :: (u23 : Value) :: (u24 : Value) :: (u25 : Value) :: (u26 : Value) :: (u27 : Value) :: (u28 : Value) :: (u29 : Value) :: (u30 : Value) :: (u31 : Value) :: (u32 : Value) :: (u33 : Value) :: (u34 : Value) :: (u35 : Value) :: (u36 : Value) :: (u37 : Value) :: (u38 : Value) :: (u39 : Value) :: (u40 : Value) :: (u41 : Value) :: (u42 : Value) :: (u43 : Value) :: (u44 : Value) :: (u45 : Value) :: (u46 : Value) :: (u47 : Value) :: (u48 : Value) :: (u49 : Value) :: (u50 : Value) :: (u51 : Value) :: (u52 : Value) :: (u53 : Value) :: (u54 : Value) :: (u55 : Value) :: (u56 : Value) :: (u57 : Value) :: (u58 : Value) :: (u59 : Value) :: (u60 : Value) :: (u61 : Value) :: (u62 : Value) :: (u63 : Value) :: (u64 : Value) :: (u65 : Value) :: (u66 : Value) :: (u67 : Value) :: (u68 : Value) :: (u69 : Value) :: (undef : Value) :: (undef : Value) :: [])), defers := Ds.map mkD } ∧ m ≤ n ∧ acc.length + m = n ∧ sk < S ∧ (0 ≤ ak ∧ ak < cw es p m (sk : Int)) ∧ (acc ++ (ur es p m (sk : Int) ak).1, (ur es p m (sk : Int) ak).2) = R ∧ Blk W (w.heap.size) 24 [.int .i64 L, .int .i64 (S : Int), v] ∧ Blk W (w.heap.size + 1) 69 [.slice (some ⟨bt, ot, none⟩) (n + 1) ct] ∧ Blk W (w.heap.size + 2) 3 [.int .i64 (sk : Int)] ∧ Blk W (w.heap.size + 3) 33 [.bool (ineg (ak)), .string (imag (ak))] ∧ IsB N acc W ∧ Blk W bi 3 [.int .i64 ((m : Int) - 1)] ∧ N < bi ∧ Below w.heap.size w W ∧ (∀ D ∈ Ds, W.heap[D]? = some (.deferred (some []))) ∧ Ds.Nodup ∧ (∀ D ∈ Ds, N < D)) mI ?h0 ?round
  case h0 =>
    refine ⟨n, N + 1, [], _, _, _, _, _, _, _, _, _, _, _, _, _, _, _, _, _, _, _, _, _, _, _, _, _, _, _, _, _, _, _, _, _, _, _, _, _, _, _, _, _, _, _, _, _, _, _, _, _, _, _, _, _, _, _, s0, a0, [], rfl, Nat.le_refl _, by simp, hs0, ⟨ha0, ha1⟩, by rw [HR0.out]; simp, BG4.out, BT4.out, BS4.out, BA4.out, ISB.out, BI.out, by omega, HB4.out, by simp, by simp, by simp⟩
  case round =>
    intro a' wr hh
    obtain ⟨m, bi, Ds, u15, u16, u17, u18, u19, u20, u21, hh⟩ := hh
    obtain ⟨u22, u23, u24, u25, u26, u27, u28, u29, u30, u31, hh⟩ := hh
    obtain ⟨u32, u33, u34, u35, u36, u37, u38, u39, u40, u41, hh⟩ := hh
    obtain ⟨u42, u43, u44, u45, u46, u47, u48, u49, u50, u51, hh⟩ := hh
    obtain ⟨u52, u53, u54, u55, u56, u57, u58, u59, u60, u61, hh⟩ := hh
    obtain ⟨u62, u63, u64, u65, u66, u67, u68, u69, hh⟩ := hh
    obtain ⟨sk, ak, acc, haa, hh⟩ := hh
    subst haa
    obtain ⟨hm, hacc, hsk, ⟨hak0, hak1⟩, hrk, bG, bT, bS, bA, isb, bI, hbi, hbel, hDs, hnd, hdg⟩ := hh
    have hszr := hbel.size
    have hbil := bI.lt
    have HDS := Lib.hid hDs; clear hDs
    have HND := Lib.hid hnd; clear hnd
    have HDG := Lib.hid hdg; clear hdg
    have g0 := bG.cell (j := 0) rfl
    have g1 := bG.cell (j := 1) rfl
    have g2 := bG.cell (j := 2) rfl
    have gS := bS.cell (j := 0) rfl
    have gI := bI.cell (j := 0) rfl
    have BG := Lib.hid bG; clear bG
    have BT := Lib.hid bT; clear bT
    have BS := Lib.hid bS; clear bS
    have BA := Lib.hid bA; clear bA
    have ISB2 := Lib.hid isb; clear isb
    have BI2 := Lib.hid bI; clear bI
    by_cases hlt : 0 < m
    · obtain ⟨j, rfl⟩ : ∃ j, m = j + 1 := ⟨m - 1, by omega⟩
      have hsj : ((j + 1 : Nat) : Int) - 1 = (j : Int) := by omega
      rw [hsj] at gI
      have hje : decide (0 ≤ (j : Int)) = true := by simp
      have bI3 := BI2.out
      rw [hsj] at bI3
      obtain ⟨rv, hrv1, hrv2⟩ := HROWS.out j _ (tabL_get (by omega))
      rw [rowK_length] at hrv2
      obtain ⟨ar2, cr2, rfl, hcr2⟩ := hrv2.slice
      obtain ⟨br2, or2, rfl, hbr2, hrc2⟩ := hrv2.at_ (by omega)
      have r0 := HTC.out j _ hrv1
      have HRK := Lib.hid hrk; clear hrk
      have HRC := Lib.hid hrc2; clear hrc2
      have R0 := Lib.hid r0; clear r0
      have BI3 := Lib.hid bI3; clear bI3
      have HBEL := Lib.hid hbel; clear hbel
      clear hrv1 hrv2
      gi_wp2_with (refine ⟨trivial, ?_⟩; gi_at_call 69; refine (leaving_in Fence.wide 7 trivial rfl L (S : Int) (sk : Int) v _).mono ?_; rintro e w' ⟨rfl, rfl⟩)
      obtain ⟨q, hq⟩ : ∃ q, wr.heap.size = q := ⟨_, rfl⟩
      simp only [hq, Nat.add_assoc, Nat.reduceAdd]
      obtain ⟨W1, hW1⟩ : ∃ W1, ((wr.alloc (.cells #[.int .i64 L, .int .i64 (S : Int), v] 24)).alloc (.cells #[.int .i64 (sk : Int)] 3)) = W1 := ⟨_, rfl⟩
      have hsW : W1.heap.size = q + 2 := by rw [← hW1, ← hq]; simp
      have hb1 : Below q wr W1 := by
        rw [← hW1, ← hq]
        exact ((Below.refl _ wr).alloc (Nat.le_refl _) _).alloc (by simp) _
      have bGc : Blk W1 q 24 [.int .i64 L, .int .i64 (S : Int), v] := by
        have h := Blk.new wr 24 [.int .i64 L, .int .i64 (S : Int), v]
        rw [hq] at h
        rw [← hW1]; exact h.alloc _
      have bSc : Blk W1 (q + 1) 3 [.int .i64 (sk : Int)] := by
        have h := Blk.new (wr.alloc (.cells #[.int .i64 L, .int .i64 (S : Int), v] 24)) 3 [.int .i64 (sk : Int)]
        simp only [World.size_alloc, hq] at h
        rw [← hW1]; exact h
      rw [hq] at hszr hbil
      have hbq : Below wr.heap.size wr W1 := by rw [hq]; exact hb1
      have bG1 := BG.out.keep hbq
      have bT1 := BT.out.keep hbq
      have bS1 := BS.out.keep hbq
      have bA1 := BA.out.keep hbq
      have bI1 := BI3.out.keep hbq
      have isb1 := isB_keep ISB2.out hbq
      have hbel1 : Below w.heap.size w W1 := HBEL.out.trans (hb1.mono (by omega))
      have hds1 : ∀ D ∈ Ds, W1.heap[D]? = some (.deferred (some [])) := fun D hD => (hb1.block D (by have := (Array.getElem?_eq_some_iff.1 (HDS.out D hD)).1; omega)).trans (HDS.out D hD)
      have hdl1 : ∀ D ∈ Ds, D < q := fun D hD => by have := (Array.getElem?_eq_some_iff.1 (HDS.out D hD)).1; omega
      rw [hW1]
      clear hW1 hq g0 g1 g2 gS gI
      have hvb : ∀ b' off m' c', v = .slice (some ⟨b', off, none⟩) m' c' → 0 < es.length → b' < w.heap.size := by
        intro b' off m' c' e h0
        have hr' := HR.out
        obtain ⟨a1, c1, e1, _⟩ := hr'.slice
        rw [e1] at hr'
        obtain ⟨b2, off2, e2, hb2, _⟩ := hr'.at_ h0
        rw [e1, e2] at e
        simp at e
        omega
      have hrv := HR.out.below hbel1 (Nat.le_refl _)
      have hNq : N + 1 < q := by omega
      have HVB := Lib.hid hvb; clear hvb
      have HRV := Lib.hid hrv; clear hrv
      have HDS1 := Lib.hid hds1; clear hds1
      have HDL := Lib.hid hdl1; clear hdl1
      have BG1' := Lib.hid bG1; clear bG1
      have BT1' := Lib.hid bT1; clear bT1
      have BS1' := Lib.hid bS1; clear bS1
      have BA1' := Lib.hid bA1; clear bA1
      have BI1' := Lib.hid bI1; clear bI1
      have ISB1 := Lib.hid isb1; clear isb1
      have HBEL1 := Lib.hid hbel1; clear hbel1
      have BGC := Lib.hid bGc; clear bGc
      have BSC := Lib.hid bSc; clear bSc
      refine wpIn_rangeFunc_ownH rfl (by decide) (gf := 102) (lb := #[.pointer (some ⟨q, 0, none⟩), .pointer (some ⟨q + 1, 0, none⟩)]) rfl trivial (enters_of Tryz.func102 (by kernel_rfl) rfl)
        (leaving_stops Fence.wide 7 trivial rfl (by decide) q (q + 1) w.heap.size (sk : Int) es v (by omega) W1 (by omega) (by omega) (by omega) (BGC.out.cell (j := 2) rfl) (BSC.out.cell (j := 0) rfl) HRV.out HVB.out) KpS.trans (kpS_b (by omega) (by omega) (by omega)) (Below.refl _ _) (fun _ => rfl)
        (fun pre W => (urGo es p j (pre.map fun e => e.1) ak).1 = none ∧ Blk W (w.heap.size + 3) 33 [.bool (ineg (urGo es p j (pre.map fun e => e.1) ak).2), .string (imag (urGo es p j (pre.map fun e => e.1) ak).2)] ∧ Blk W (w.heap.size + 2) 3 [.int .i64 (sk : Int)] ∧ IsB N acc W ∧ Blk W (w.heap.size) 24 [.int .i64 L, .int .i64 (S : Int), v] ∧ Blk W (w.heap.size + 1) 69 [.slice (some ⟨bt, ot, none⟩) (n + 1) ct] ∧ Blk W bi 3 [.int .i64 (j : Int)] ∧ Below w.heap.size w W ∧ (∀ D ∈ Ds, W.heap[D]? = some (.deferred (some []))) ∧ W1.heap.size ≤ W.heap.size)
        (fun cc pre W => (cc = .exit 2 ∧ ∃ e, (urGo es p j (pre.map fun e => e.1) ak).1 = some e) ∧ Blk W (w.heap.size + 3) 33 [.bool (ineg (urGo es p j (pre.map fun e => e.1) ak).2), .string (imag (urGo es p j (pre.map fun e => e.1) ak).2)] ∧ Blk W (w.heap.size + 2) 3 [.int .i64 (((urGo es p j (pre.map fun e => e.1) ak).1.map E3.t).getD 0)] ∧ IsB N (acc ++ ((urGo es p j (pre.map fun e => e.1) ak).1.map fun e => letL e.l).toList) W ∧ Blk W (w.heap.size) 24 [.int .i64 L, .int .i64 (S : Int), v] ∧ Blk W (w.heap.size + 1) 69 [.slice (some ⟨bt, ot, none⟩) (n + 1) ct] ∧ Blk W bi 3 [.int .i64 (j : Int)] ∧ Below w.heap.size w W ∧ (∀ D ∈ Ds, W.heap[D]? = some (.deferred (some []))) ∧ W1.heap.size ≤ W.heap.size)
        ((ownFrom_pred _ _).and ((blk_ownS _).and ((blk_ownS _).and ((isB_ownS _).and ((blk_ownS _).and ((blk_ownS _).and ((blk_ownS _).and ((ownFrom_below (Nat.le_refl _) (by omega)).and (ownFrom_ds (fun D hD => by have := HDL.out D hD; omega))))))))))
        (fun cc => (ownFrom_pred _ _).and ((blk_ownS _).and ((blk_ownS _).and ((isB_ownS _).and ((blk_ownS _).and ((blk_ownS _).and ((blk_ownS _).and ((ownFrom_below (Nat.le_refl _) (by omega)).and (ownFrom_ds (fun D hD => by have := HDL.out D hD; omega))))))))))
        ⟨rfl, BA1'.out, BS1'.out, ISB1.out, BG1'.out, BT1'.out, BI1'.out, HBEL1.out, HDS1.out, Nat.le_refl _⟩
        (fun x' a' W => ∃ Bx, W1.heap.size ≤ Bx ∧ Blk W Bx 111 [.int .i64 x'.1.f, .int .i64 x'.1.l, .int .i64 x'.1.t] ∧ a' = { tmps := (List.toArray ((.agg #[.int .i64 L, .int .i64 (S : Int), v] : Value) :: (.slice (some ⟨bt, ot, none⟩) (n + 1) ct : Value) :: (.int .i64 (s0 : Int) : Value) :: (.int .i64 (n : Int) : Value) :: (.agg #[.bool (ineg a0), .string (imag a0)] : Value) :: (.pointer (some ⟨w.heap.size, 0, none⟩) : Value) :: (.pointer (some ⟨w.heap.size + 1, 0, none⟩) : Value) :: (.pointer (some ⟨w.heap.size + 2, 0, none⟩) : Value) :: (undef : Value) :: (.pointer (some ⟨w.heap.size + 3, 0, none⟩) : Value) :: (.string ⟨#[]⟩ : Value) :: (.int .i64 0 : Value) :: (.bool false : Value) :: (.pointer (some ⟨N, 0, none⟩) : Value) :: (.pointer (some ⟨bi, 0, none⟩) : Value) :: (.pointer (some ⟨Bx, 0, none⟩) : Value) :: (u16 : Value) :: (u17 : Value) :: (u18 : Value) :: (u19 : Value) :: (u20 : Value) :: (u21 : Value) :: (u22 : Value) :: (u23 : Value) :: (u24 : Value) :: (u25 : Value) :: (u26 : Value) :: (u27 : Value) :: (u28 : Value) :: (u29 : Value) :: (u30 : Value) :: (u31 : Value) :: (u32 : Value) :: (u33 : Value) :: (.int .i64 (j : Int) : Value) :: (.bool true : Value) :: (u36 : Value) :: (u37 : Value) :: (.agg #[.int .i64 L, .int .i64 (S : Int), v] : Value) :: (.int .i64 (sk : Int) : Value) :: (.func (.func 102) #[] #[.pointer (some ⟨q, 0, none⟩), .pointer (some ⟨q + 1, 0, none⟩)] : Value) :: (x'.1.val : Value) :: (u42 : Value) :: (u43 : Value) :: (u44 : Value) :: (u45 : Value) :: (u46 : Value) :: (u47 : Value) :: (u48 : Value) :: (u49 : Value) :: (u50 : Value) :: (u51 : Value) :: (u52 : Value) :: (u53 : Value) :: (u54 : Value) :: (u55 : Value) :: (u56 : Value) :: (u57 : Value) :: (u58 : Value) :: (u59 : Value) :: (u60 : Value) :: (u61 : Value) :: (u62 : Value) :: (u63 : Value) :: (u64 : Value) :: (u65 : Value) :: (u66 : Value) :: (u67 : Value) :: (u68 : Value) :: (u69 : Value) :: (undef : Value) :: (undef : Value) :: [])), defers := [] })
        (fun x' a' _ X Y row hs hg hr => by obtain ⟨Bx, h1, h2, h3⟩ := hs; exact ⟨Bx, h1, blk_ownF () X Y row h2 hg hr, h3⟩)
        ?assign ?body ?done ?stop
      case assign =>
        rintro l pre x' W K ⟨i1, i2, i3, i4, i5, i6, i7, i8, i9, i10⟩ hK
        gi_wp2
        exact hK _ _ ((KeepsOthers.alloc _ _).from _) ((KpS.refl _ _ _ W).alloc (by omega) (by omega) (by omega) _) ⟨i1, i2.alloc _, i3.alloc _, isB_alloc i4 _, i5.alloc _, i6.alloc _, i7.alloc _, i8.alloc (by omega) _, fun D hD => (Below.heap_alloc _ _ _ (Array.getElem?_eq_some_iff.1 (i9 D hD)).1).trans (i9 D hD), by simp; omega⟩ ⟨W.heap.size, i10, Blk.new W _ _, rfl⟩
      case body =>
        rintro l pre ⟨e, hmem⟩ a' W hl' - ⟨i1, i2, i3, i4, i5, i6, i7, i8, i9, i10⟩ ⟨Bx, hBx, bX, rfl⟩ hltp
        dsimp only at bX
        obtain ⟨hl0, hl16⟩ := HLAB.out e hmem
        obtain ⟨-, -, ht0, ht1⟩ := HIN.out e hmem
        obtain ⟨t, ht⟩ : ∃ t : Nat, e.t = t := ⟨e.t.toNat, by omega⟩
        have htS : t < S := by omega
        have hgs := urGo_bd es p j (pre.map fun e => e.1) ak hak0
        have hidx := fun wx => letL_index (P := Tryz.prog) Tryz.underlying9 hl0 hl16 wx
        obtain ⟨gs, hgsd⟩ : ∃ gs, gs = (urGo es p j (pre.map fun e => e.1) ak).2 := ⟨_, rfl⟩
        rw [← hgsd] at hgs i2
        obtain ⟨lb, hlb⟩ : ∃ lb, lb = letL e.l := ⟨_, rfl⟩
        rw [← hlb] at hidx
        have cX1 := bX.cell (j := 1) rfl
        have cX2 := bX.cell (j := 2) rfl
        obtain ⟨el, hel⟩ : ∃ el, el = e.l := ⟨_, rfl⟩
        rw [← hel] at cX1 hidx
        rw [ht] at cX2
        have gy : (rowK es S p j)[t]? = some (cw es p j (t : Int)) := rowK_get htS
        have sG : small gs := HMONO.out (j + 1) (sk : Int) gs hm hgs.1 (by omega)
        have sY : small (cw es p j (t : Int)) := cw_small (by omega) p j (by omega) _
        have hY0 := cw_nonneg es p j (t : Int)
        obtain ⟨Y, hY⟩ : ∃ Y, Y = cw es p j (t : Int) := ⟨_, rfl⟩
        rw [← hY] at gy sY hY0
        have hcp := fun w' => icompare_any (ineg gs) (ineg Y) (imag gs) (imag Y) w' sG sY
        have hsb := fun w' => isub_any (ineg gs) (ineg Y) (imag gs) (imag Y) w' sG sY
        simp only [ival_canon] at hcp hsb
        have cA0 := i2.cell (j := 0) rfl
        have cA1 := i2.cell (j := 1) rfl
        have cT := i6.cell (j := 0) rfl
        have cI := i7.cell (j := 0) rfl
        have cR := (i8.cell (p := ⟨bt, ot + j, none⟩) hbt).trans R0.out
        have y0 := (i8.cell (p := ⟨br2, or2 + t * 2, none⟩) hbr2).trans (HRC.out _ _ (civ_get gy).1)
        have y1 := (i8.cell (p := ⟨br2, or2 + (t * 2 + 1), none⟩) hbr2).trans (HRC.out _ _ (civ_get gy).2)
        rw [← Nat.add_assoc] at y1
        have hix1 : (0 : Int) ≤ (j : Int) := by omega
        have hix2 : (j : Int) < (n : Int) + 1 := by omega
        have hix3 : (0 : Int) ≤ (t : Int) := by omega
        have hix4 : (t : Int) < (S : Int) := by omega
        have hBxl := bX.lt
        have hm2 : (pre ++ [(⟨e, hmem⟩ : {e : E3 // e ∈ es})]).map (fun e => e.1) = (pre.map fun e => e.1) ++ [e] := by simp
        obtain ⟨z, hz⟩ : ∃ z, z = cmpZ gs Y := ⟨_, rfl⟩
        rw [← hz] at hcp
        have hzn := cmpZ_neg gs Y
        rw [← hz] at hzn
        have I2 := Lib.hid i2; clear i2
        have I3 := Lib.hid i3; clear i3
        have I4 := Lib.hid i4; clear i4
        have I5 := Lib.hid i5; clear i5
        have I6 := Lib.hid i6; clear i6
        have I7 := Lib.hid i7; clear i7
        have I8 := Lib.hid i8; clear i8
        have I9 := Lib.hid i9; clear i9
        have HT0 := Lib.hid ht; clear ht
        have HEL := Lib.hid hel; clear hel
        have HCP := Lib.hid hcp; clear hcp
        have HSB := Lib.hid hsb; clear hsb
        have HM2 := Lib.hid hm2; clear hm2
        by_cases hcl : gs < Y
        · have t1 : decide (z < 0) = true := by rw [hzn]; simpa using hcl
          have hsn := urGo_snoc_yes (es := es) (p := p) (k := j) (e := e) i1 (by rw [← hgsd, HT0.out, ← hY]; exact hcl)
          have HSN := Lib.hid hsn; clear hsn
          have HGS := Lib.hid hgsd; clear hgsd
          have HLB := Lib.hid hlb; clear hlb
          clear i1 gy hY sG sY hz hzn hcl
          gi_wp2
          refine wpIn_round_held (S := (fun w' => w'.cell? ⟨w.heap.size + 3, 0, none⟩ = some (.bool (ineg gs)) ∧ w'.cell? ⟨w.heap.size + 3, 1, none⟩ = some (.string (imag gs)) ∧ w'.cell? ⟨w.heap.size + 1, 0, none⟩ = some (.slice (some ⟨bt, ot, none⟩) (n + 1) ct) ∧ w'.cell? ⟨bi, 0, none⟩ = some (.int .i64 (j : Int)) ∧ w'.cell? ⟨Bx, 2, none⟩ = some (.int .i64 (t : Int)) ∧ w'.cell? ⟨bt, ot + j, none⟩ = some (.slice (some ⟨br2, or2, none⟩) S cr2) ∧ w'.cell? ⟨br2, or2 + t * 2, none⟩ = some (.bool (ineg Y)) ∧ w'.cell? ⟨br2, or2 + t * 2 + 1, none⟩ = some (.string (imag Y)))) (by kernel_rfl) (fun ⟨_, _, h⟩ => h) (by rfl) ?_ (fun hHeld => ?_)
          · go_keep
          refine wpAnyH_take (i := 0) (v := ?_) rfl (by kernel_rfl) (by kernel_rfl) (by kernel_rfl) (fun _ _ _ h => h) (Or.inl ⟨by rfl, ?_⟩) (by assumption) ?_
          rotate_left
          · (intro wS hSw; (try dsimp only at hSw); go_simp; (try with_reducible rfl))
          (try simp only [Act.put, List.setIfInBounds_toArray, List.set_cons_zero, List.set_cons_succ])
          refine wpAnyH_take (i := 1) (v := ?_) rfl (by kernel_rfl) (by kernel_rfl) (by kernel_rfl) (fun _ _ _ h => h) (Or.inl ⟨by rfl, ?_⟩) (by assumption) ?_
          rotate_left
          · (intro wS hSw; (try dsimp only at hSw); go_simp; (try with_reducible rfl))
          (try simp only [Act.put, List.setIfInBounds_toArray, List.set_cons_zero, List.set_cons_succ])
          refine wpAnyH_take (i := 2) (v := ?_) rfl (by kernel_rfl) (by kernel_rfl) (by kernel_rfl) (fun _ _ _ h => h) (Or.inl ⟨by rfl, ?_⟩) (by assumption) ?_
          rotate_left
          · (intro wS hSw; (try dsimp only at hSw); go_simp; (try with_reducible rfl))
          (try simp only [Act.put, List.setIfInBounds_toArray, List.set_cons_zero, List.set_cons_succ])
          refine wpAnyH_take (i := 3) (v := ?_) rfl (by kernel_rfl) (by kernel_rfl) (by kernel_rfl) (fun _ _ _ h => h) (Or.inl ⟨by rfl, ?_⟩) (by assumption) ?_
          rotate_left
          · (intro wS hSw; (try dsimp only at hSw); go_simp; (try with_reducible rfl))
          (try simp only [Act.put, List.setIfInBounds_toArray, List.set_cons_zero, List.set_cons_succ])
          refine wpAnyH_take (i := 4) (v := ?_) rfl (by kernel_rfl) (by kernel_rfl) (by kernel_rfl) (fun _ _ _ h => h) (Or.inl ⟨by rfl, ?_⟩) (by assumption) ?_
          rotate_left
          · (intro wS hSw; (try dsimp only at hSw); go_simp; (try with_reducible rfl))
          (try simp only [Act.put, List.setIfInBounds_toArray, List.set_cons_zero, List.set_cons_succ])
          refine wpAnyH_take (i := 5) (v := ?_) rfl (by kernel_rfl) (by kernel_rfl) (by kernel_rfl) (fun _ _ _ h => h) (Or.inl ⟨by rfl, ?_⟩) (by assumption) ?_
          rotate_left
          · (intro wS hSw; (try dsimp only at hSw); go_simp; (try with_reducible rfl))
          (try simp only [Act.put, List.setIfInBounds_toArray, List.set_cons_zero, List.set_cons_succ])
          refine wpAnyH_take (i := 6) (v := ?_) rfl (by kernel_rfl) (by kernel_rfl) (by kernel_rfl) (fun _ _ _ h => h) (Or.inl ⟨by rfl, ?_⟩) (by assumption) ?_
          rotate_left
          · (intro wS hSw; (try dsimp only at hSw); go_simp; (try with_reducible rfl))
          (try simp only [Act.put, List.setIfInBounds_toArray, List.set_cons_zero, List.set_cons_succ])
          refine wpAnyH_take (i := 7) (v := ?_) rfl (by kernel_rfl) (by kernel_rfl) (by kernel_rfl) (fun _ _ _ h => h) (Or.inl ⟨by rfl, ?_⟩) (by assumption) ?_
          rotate_left
          · (intro wS hSw; (try dsimp only at hSw); go_simp; (try with_reducible rfl))
          (try simp only [Act.put, List.setIfInBounds_toArray, List.set_cons_zero, List.set_cons_succ])
          refine wpAnyH_take (i := 8) (v := ?_) rfl (by kernel_rfl) (by kernel_rfl) (by kernel_rfl) (fun _ _ _ h => h) (Or.inl ⟨by rfl, ?_⟩) (by assumption) ?_
          rotate_left
          · (intro wS hSw; (try dsimp only at hSw); go_simp; (try with_reducible rfl))
          (try simp only [Act.put, List.setIfInBounds_toArray, List.set_cons_zero, List.set_cons_succ])
          refine wpAnyH_ready (rs := [9]) (by kernel_rfl) (by simp) ?_
          refine AllReadyH.cons rfl (fun K hK => ?_) AllReadyH.nil
          go_simp
          go_at_call 62
          refine (HCP.out _).mono ?_
          rintro e2 w5 ⟨hq5, rfl⟩
          dsimp only
          have z0 := (hq5.cell (p := ⟨w.heap.size + 3, 0, none⟩) (show w.heap.size + 3 < W.heap.size by omega)).trans hHeld.1
          have z1 := (hq5.cell (p := ⟨w.heap.size + 3, 1, none⟩) (show w.heap.size + 3 < W.heap.size by omega)).trans hHeld.2.1
          have z2 := (hq5.cell (p := ⟨w.heap.size + 1, 0, none⟩) (show w.heap.size + 1 < W.heap.size by omega)).trans hHeld.2.2.1
          have z3 := (hq5.cell (p := ⟨bi, 0, none⟩) (show bi < W.heap.size by omega)).trans hHeld.2.2.2.1
          have z4 := (hq5.cell (p := ⟨Bx, 2, none⟩) (show Bx < W.heap.size by omega)).trans hHeld.2.2.2.2.1
          have z5 := (hq5.cell (p := ⟨bt, ot + j, none⟩) (show bt < W.heap.size by omega)).trans hHeld.2.2.2.2.2.1
          have z6 := (hq5.cell (p := ⟨br2, or2 + t * 2, none⟩) (show br2 < W.heap.size by omega)).trans hHeld.2.2.2.2.2.2.1
          have z7 := (hq5.cell (p := ⟨br2, or2 + t * 2 + 1, none⟩) (show br2 < W.heap.size by omega)).trans hHeld.2.2.2.2.2.2.2
          refine hK.out _ _ ⟨z0, z1, z2, z3, z4, z5, z6, z7⟩ (fun hHeld2 => ?_)
          clear hK K hHeld
          (try simp only [Act.put, List.setIfInBounds_toArray, List.set_cons_zero, List.set_cons_succ])
          have hb5 : Below W.heap.size W w5 := ((Below.refl W.heap.size W).drew).trans (hq5.mono (Nat.le_refl _))
          have HQ5 := Lib.hid hq5; clear hq5
          have HB5 := Lib.hid hb5; clear hb5
          refine wpAnyH_take (i := 10) (v := ?_) rfl (by kernel_rfl) (by kernel_rfl) (by kernel_rfl) (fun _ _ _ h => h) (Or.inl ⟨by rfl, ?_⟩) (by assumption) ?_
          rotate_left
          · (intro wS hSw; (try dsimp only at hSw); go_simp; (try with_reducible rfl))
          (try simp only [Act.put, List.setIfInBounds_toArray, List.set_cons_zero, List.set_cons_succ])
          refine wpAnyH_done (by kernel_rfl) ?_ _
          (try simp only [List.getElem_toArray, List.getElem_cons_zero, List.getElem_cons_succ, Act.put, List.setIfInBounds_toArray, List.set_cons_zero, List.set_cons_succ])
          have cX1' := (HB5.out.cell (p := ⟨Bx, 1, none⟩) (show Bx < W.heap.size by omega)).trans cX1
          have cX2' := (HB5.out.cell (p := ⟨Bx, 2, none⟩) (show Bx < W.heap.size by omega)).trans cX2
          have J2 := I2.out.keep HB5.out
          have J3 := I3.out.keep HB5.out
          have J4 := isB_keep I4.out HB5.out
          have J5 := I5.out.keep HB5.out
          have J6 := I6.out.keep HB5.out
          have J7 := I7.out.keep HB5.out
          have J8 := I8.out.trans (HB5.out.mono I8.out.size)
          have J9 : ∀ D ∈ Ds, w5.heap[D]? = some (.deferred (some [])) := fun D hD => (HB5.out.block D (Array.getElem?_eq_some_iff.1 (I9.out D hD)).1).trans (I9.out D hD)
          have hws : W.heap.size ≤ w5.heap.size := HB5.out.size
          clear cX1 cX2 z0 z1 z2 z3 z4 z5 z6 z7 hHeld2
          clear cA0 cA1 cT cI cR y0 y1
          have fS := J3.frozen 0
          have cS := J3.cell (j := 0) rfl
          have K2 := Lib.hid J2; clear J2
          have K3 := Lib.hid J3; clear J3
          have K4 := Lib.hid J4; clear J4
          have K5 := Lib.hid J5; clear J5
          have K6 := Lib.hid J6; clear J6
          have K7 := Lib.hid J7; clear J7
          have K8 := Lib.hid J8; clear J8
          have K9 := Lib.hid J9; clear J9
          have hwb := wbyte_B N acc lb w5 K4.out (by omega)
          have HWB := Lib.hid hwb; clear hwb
          gi_wp2_with (refine ⟨trivial, ?_⟩; gi_at_call 82; refine (callsIn_round HWB.out).mono ?_; rintro e3 w6 ⟨rfl, isb6, hq6, hot⟩; have M3 := blk_others K3.out hot (by omega) (by decide); have cS6 := M3.cell (j := 0) rfl; have fS6 := M3.frozen 0; have cX6 := (blk_others (bX.keep HB5.out) hot (by omega) (by decide)).cell (j := 2) rfl; rw [HT0.out] at cX6; have ISB6 := Lib.hid isb6; clear isb6; have HQ6 := Lib.hid hq6; clear hq6; have HOT := Lib.hid hot; clear hot; have HM3 := Lib.hid M3; clear M3)
          have hlt6 : w5.heap.size ≤ w6.heap.size := HQ6.out.size
          have hk : ∀ b o, w5.heap[b]? = some o → b ≠ N → (∀ c fz, o ≠ .cells c 5 fz) → b ≠ w.heap.size + 2 → (w6.setCell ⟨w.heap.size + 2, 0, none⟩ (.int .i64 (t : Int))).heap[b]? = some o := fun b o h1 h2 h3 h4 => (Below.heap_setCell _ _ _ b h4).trans (HOT.out b o h1 (fun e => h2 (Option.some.inj e)) h3)
          have hkb : ∀ {b : Nat} {ty : TypeId} {xs : List Value}, Blk w5 b ty xs → b ≠ N → ty ≠ 5 → b ≠ w.heap.size + 2 → Blk (w6.setCell ⟨w.heap.size + 2, 0, none⟩ (.int .i64 (t : Int))) b ty xs := fun h1 h2 h3 h4 => hk _ _ h1 h2 (fun c fz e => by injection e with _ e2; exact h3 e2) h4
          have hb6 : Below w.heap.size w5 (w6.setCell ⟨w.heap.size + 2, 0, none⟩ (.int .i64 (t : Int))) := (HQ6.out.mono (by omega)).setCell (p := ⟨w.heap.size + 2, 0, none⟩) (show w.heap.size ≤ w.heap.size + 2 by omega) _
          have kf : KeepsFrom W1.heap.size W (w6.setCell ⟨w.heap.size + 2, 0, none⟩ (.int .i64 (t : Int))) := ⟨Nat.le_trans hws hb6.size, fun k o hB hk1 ho => hk k o ((HB5.out.block k (Array.getElem?_eq_some_iff.1 hk1).1).trans hk1) (by omega) (fun c fz e => by rw [e] at ho; cases ho) (by omega)⟩
          refine ⟨kf, ⟨rfl, e, by rw [HM2.out, HSN.out]⟩, ?_⟩
          rw [HM2.out, HSN.out]
          refine ⟨by rw [← HGS.out]; exact hkb K2.out (by omega) (by decide) (by omega), ?_, ?_, hkb K5.out (by omega) (by decide) (by omega), hkb K6.out (by omega) (by decide) (by omega), hkb K7.out (by omega) (by decide) (by omega), K8.out.trans hb6, fun D hD => hk D _ (K9.out D hD) (by have := HDG.out D hD; omega) (fun c fz e => by cases e) (by have := HDG.out D hD; omega), Nat.le_trans i10 kf.size⟩
          · have h := HM3.out.set 0 (.int .i64 (t : Int))
            simp only [Option.map_some, Option.getD_some, HT0.out]
            exact h
          · simp only [Option.map_some, Option.toList_some, ← HLB.out]
            exact isB_set ISB6.out HM3.out (by omega) (by decide) 0 _
        · have t1 : decide (z < 0) = false := by rw [hzn]; simpa using hcl
          have hsn := urGo_snoc_no (es := es) (p := p) (k := j) (e := e) i1 (by rw [← hgsd, HT0.out, ← hY]; exact hcl)
          rw [← hgsd, HT0.out, ← hY] at hsn
          have HSN := Lib.hid hsn; clear hsn
          have HGS := Lib.hid hgsd; clear hgsd
          clear i1 gy hY sG sY hz hzn hlb
          gi_wp2
          refine wpIn_round_held (S := (fun w' => w'.cell? ⟨w.heap.size + 3, 0, none⟩ = some (.bool (ineg gs)) ∧ w'.cell? ⟨w.heap.size + 3, 1, none⟩ = some (.string (imag gs)) ∧ w'.cell? ⟨w.heap.size + 1, 0, none⟩ = some (.slice (some ⟨bt, ot, none⟩) (n + 1) ct) ∧ w'.cell? ⟨bi, 0, none⟩ = some (.int .i64 (j : Int)) ∧ w'.cell? ⟨Bx, 2, none⟩ = some (.int .i64 (t : Int)) ∧ w'.cell? ⟨bt, ot + j, none⟩ = some (.slice (some ⟨br2, or2, none⟩) S cr2) ∧ w'.cell? ⟨br2, or2 + t * 2, none⟩ = some (.bool (ineg Y)) ∧ w'.cell? ⟨br2, or2 + t * 2 + 1, none⟩ = some (.string (imag Y)))) (by kernel_rfl) (fun ⟨_, _, h⟩ => h) (by rfl) ?_ (fun hHeld => ?_)
          · go_keep
          refine wpAnyH_take (i := 0) (v := ?_) rfl (by kernel_rfl) (by kernel_rfl) (by kernel_rfl) (fun _ _ _ h => h) (Or.inl ⟨by rfl, ?_⟩) (by assumption) ?_
          rotate_left
          · (intro wS hSw; (try dsimp only at hSw); go_simp; (try with_reducible rfl))
          (try simp only [Act.put, List.setIfInBounds_toArray, List.set_cons_zero, List.set_cons_succ])
          refine wpAnyH_take (i := 1) (v := ?_) rfl (by kernel_rfl) (by kernel_rfl) (by kernel_rfl) (fun _ _ _ h => h) (Or.inl ⟨by rfl, ?_⟩) (by assumption) ?_
          rotate_left
          · (intro wS hSw; (try dsimp only at hSw); go_simp; (try with_reducible rfl))
          (try simp only [Act.put, List.setIfInBounds_toArray, List.set_cons_zero, List.set_cons_succ])
          refine wpAnyH_take (i := 2) (v := ?_) rfl (by kernel_rfl) (by kernel_rfl) (by kernel_rfl) (fun _ _ _ h => h) (Or.inl ⟨by rfl, ?_⟩) (by assumption) ?_
          rotate_left
          · (intro wS hSw; (try dsimp only at hSw); go_simp; (try with_reducible rfl))
          (try simp only [Act.put, List.setIfInBounds_toArray, List.set_cons_zero, List.set_cons_succ])
          refine wpAnyH_take (i := 3) (v := ?_) rfl (by kernel_rfl) (by kernel_rfl) (by kernel_rfl) (fun _ _ _ h => h) (Or.inl ⟨by rfl, ?_⟩) (by assumption) ?_
          rotate_left
          · (intro wS hSw; (try dsimp only at hSw); go_simp; (try with_reducible rfl))
          (try simp only [Act.put, List.setIfInBounds_toArray, List.set_cons_zero, List.set_cons_succ])
          refine wpAnyH_take (i := 4) (v := ?_) rfl (by kernel_rfl) (by kernel_rfl) (by kernel_rfl) (fun _ _ _ h => h) (Or.inl ⟨by rfl, ?_⟩) (by assumption) ?_
          rotate_left
          · (intro wS hSw; (try dsimp only at hSw); go_simp; (try with_reducible rfl))
          (try simp only [Act.put, List.setIfInBounds_toArray, List.set_cons_zero, List.set_cons_succ])
          refine wpAnyH_take (i := 5) (v := ?_) rfl (by kernel_rfl) (by kernel_rfl) (by kernel_rfl) (fun _ _ _ h => h) (Or.inl ⟨by rfl, ?_⟩) (by assumption) ?_
          rotate_left
          · (intro wS hSw; (try dsimp only at hSw); go_simp; (try with_reducible rfl))
          (try simp only [Act.put, List.setIfInBounds_toArray, List.set_cons_zero, List.set_cons_succ])
          refine wpAnyH_take (i := 6) (v := ?_) rfl (by kernel_rfl) (by kernel_rfl) (by kernel_rfl) (fun _ _ _ h => h) (Or.inl ⟨by rfl, ?_⟩) (by assumption) ?_
          rotate_left
          · (intro wS hSw; (try dsimp only at hSw); go_simp; (try with_reducible rfl))
          (try simp only [Act.put, List.setIfInBounds_toArray, List.set_cons_zero, List.set_cons_succ])
          refine wpAnyH_take (i := 7) (v := ?_) rfl (by kernel_rfl) (by kernel_rfl) (by kernel_rfl) (fun _ _ _ h => h) (Or.inl ⟨by rfl, ?_⟩) (by assumption) ?_
          rotate_left
          · (intro wS hSw; (try dsimp only at hSw); go_simp; (try with_reducible rfl))
          (try simp only [Act.put, List.setIfInBounds_toArray, List.set_cons_zero, List.set_cons_succ])
          refine wpAnyH_take (i := 8) (v := ?_) rfl (by kernel_rfl) (by kernel_rfl) (by kernel_rfl) (fun _ _ _ h => h) (Or.inl ⟨by rfl, ?_⟩) (by assumption) ?_
          rotate_left
          · (intro wS hSw; (try dsimp only at hSw); go_simp; (try with_reducible rfl))
          (try simp only [Act.put, List.setIfInBounds_toArray, List.set_cons_zero, List.set_cons_succ])
          refine wpAnyH_ready (rs := [9]) (by kernel_rfl) (by simp) ?_
          refine AllReadyH.cons rfl (fun K hK => ?_) AllReadyH.nil
          go_simp
          go_at_call 62
          refine (HCP.out _).mono ?_
          rintro e2 w5 ⟨hq5, rfl⟩
          dsimp only
          have z0 := (hq5.cell (p := ⟨w.heap.size + 3, 0, none⟩) (show w.heap.size + 3 < W.heap.size by omega)).trans hHeld.1
          have z1 := (hq5.cell (p := ⟨w.heap.size + 3, 1, none⟩) (show w.heap.size + 3 < W.heap.size by omega)).trans hHeld.2.1
          have z2 := (hq5.cell (p := ⟨w.heap.size + 1, 0, none⟩) (show w.heap.size + 1 < W.heap.size by omega)).trans hHeld.2.2.1
          have z3 := (hq5.cell (p := ⟨bi, 0, none⟩) (show bi < W.heap.size by omega)).trans hHeld.2.2.2.1
          have z4 := (hq5.cell (p := ⟨Bx, 2, none⟩) (show Bx < W.heap.size by omega)).trans hHeld.2.2.2.2.1
          have z5 := (hq5.cell (p := ⟨bt, ot + j, none⟩) (show bt < W.heap.size by omega)).trans hHeld.2.2.2.2.2.1
          have z6 := (hq5.cell (p := ⟨br2, or2 + t * 2, none⟩) (show br2 < W.heap.size by omega)).trans hHeld.2.2.2.2.2.2.1
          have z7 := (hq5.cell (p := ⟨br2, or2 + t * 2 + 1, none⟩) (show br2 < W.heap.size by omega)).trans hHeld.2.2.2.2.2.2.2
          refine hK.out _ _ ⟨z0, z1, z2, z3, z4, z5, z6, z7⟩ (fun hHeld2 => ?_)
          clear hK K hHeld
          (try simp only [Act.put, List.setIfInBounds_toArray, List.set_cons_zero, List.set_cons_succ])
          have hb5 : Below W.heap.size W w5 := ((Below.refl W.heap.size W).drew).trans (hq5.mono (Nat.le_refl _))
          have HQ5 := Lib.hid hq5; clear hq5
          have HB5 := Lib.hid hb5; clear hb5
          refine wpAnyH_take (i := 10) (v := ?_) rfl (by kernel_rfl) (by kernel_rfl) (by kernel_rfl) (fun _ _ _ h => h) (Or.inl ⟨by rfl, ?_⟩) (by assumption) ?_
          rotate_left
          · (intro wS hSw; (try dsimp only at hSw); go_simp; (try with_reducible rfl))
          (try simp only [Act.put, List.setIfInBounds_toArray, List.set_cons_zero, List.set_cons_succ])
          refine wpAnyH_done (by kernel_rfl) ?_ _
          (try simp only [List.getElem_toArray, List.getElem_cons_zero, List.getElem_cons_succ, Act.put, List.setIfInBounds_toArray, List.set_cons_zero, List.set_cons_succ])
          have cX1' := (HB5.out.cell (p := ⟨Bx, 1, none⟩) (show Bx < W.heap.size by omega)).trans cX1
          have cX2' := (HB5.out.cell (p := ⟨Bx, 2, none⟩) (show Bx < W.heap.size by omega)).trans cX2
          have J2 := I2.out.keep HB5.out
          have J3 := I3.out.keep HB5.out
          have J4 := isB_keep I4.out HB5.out
          have J5 := I5.out.keep HB5.out
          have J6 := I6.out.keep HB5.out
          have J7 := I7.out.keep HB5.out
          have J8 := I8.out.trans (HB5.out.mono I8.out.size)
          have J9 : ∀ D ∈ Ds, w5.heap[D]? = some (.deferred (some [])) := fun D hD => (HB5.out.block D (Array.getElem?_eq_some_iff.1 (I9.out D hD)).1).trans (I9.out D hD)
          have hws : W.heap.size ≤ w5.heap.size := HB5.out.size
          clear cX1 cX2 z0 z1 z2 z3 z4 z5 z6 z7 hHeld2
          have u0 := J2.cell (j := 0) rfl
          have u1 := J2.cell (j := 1) rfl
          have vT := J6.cell (j := 0) rfl
          have vI := J7.cell (j := 0) rfl
          have vR := (J8.cell (p := ⟨bt, ot + j, none⟩) hbt).trans R0.out
          have v0 := (HB5.out.cell (p := ⟨br2, or2 + t * 2, none⟩) (show br2 < W.heap.size by omega)).trans y0
          have v1 := (HB5.out.cell (p := ⟨br2, or2 + t * 2 + 1, none⟩) (show br2 < W.heap.size by omega)).trans y1
          clear cA0 cA1 cT cI cR y0 y1 cX1'
          have K2 := Lib.hid J2; clear J2
          have K3 := Lib.hid J3; clear J3
          have K4 := Lib.hid J4; clear J4
          have K5 := Lib.hid J5; clear J5
          have K6 := Lib.hid J6; clear J6
          have K7 := Lib.hid J7; clear J7
          have K8 := Lib.hid J8; clear J8
          have K9 := Lib.hid J9; clear J9
          gi_wp2
          refine wpIn_round_held (S := (fun w' => w'.cell? ⟨w.heap.size + 1, 0, none⟩ = some (.slice (some ⟨bt, ot, none⟩) (n + 1) ct) ∧ w'.cell? ⟨bi, 0, none⟩ = some (.int .i64 (j : Int)) ∧ w'.cell? ⟨Bx, 2, none⟩ = some (.int .i64 (t : Int)) ∧ w'.cell? ⟨bt, ot + j, none⟩ = some (.slice (some ⟨br2, or2, none⟩) S cr2) ∧ w'.cell? ⟨br2, or2 + t * 2, none⟩ = some (.bool (ineg Y)) ∧ w'.cell? ⟨br2, or2 + t * 2 + 1, none⟩ = some (.string (imag Y)))) (by kernel_rfl) (fun ⟨_, _, h⟩ => h) (by rfl) ?_ (fun hHeld => ?_)
          · go_keep
          refine wpAnyH_take (i := 1) (v := ?_) rfl (by kernel_rfl) (by kernel_rfl) (by kernel_rfl) (fun _ _ _ h => h) (Or.inl ⟨by rfl, ?_⟩) (by assumption) ?_
          rotate_left
          · (intro wS hSw; (try dsimp only at hSw); go_simp; (try with_reducible rfl))
          (try simp only [Act.put, List.setIfInBounds_toArray, List.set_cons_zero, List.set_cons_succ])
          refine wpAnyH_take (i := 2) (v := ?_) rfl (by kernel_rfl) (by kernel_rfl) (by kernel_rfl) (fun _ _ _ h => h) (Or.inl ⟨by rfl, ?_⟩) (by assumption) ?_
          rotate_left
          · (intro wS hSw; (try dsimp only at hSw); go_simp; (try with_reducible rfl))
          (try simp only [Act.put, List.setIfInBounds_toArray, List.set_cons_zero, List.set_cons_succ])
          refine wpAnyH_take (i := 3) (v := ?_) rfl (by kernel_rfl) (by kernel_rfl) (by kernel_rfl) (fun _ _ _ h => h) (Or.inl ⟨by rfl, ?_⟩) (by assumption) ?_
          rotate_left
          · (intro wS hSw; (try dsimp only at hSw); go_simp; (try with_reducible rfl))
          (try simp only [Act.put, List.setIfInBounds_toArray, List.set_cons_zero, List.set_cons_succ])
          refine wpAnyH_take (i := 4) (v := ?_) rfl (by kernel_rfl) (by kernel_rfl) (by kernel_rfl) (fun _ _ _ h => h) (Or.inl ⟨by rfl, ?_⟩) (by assumption) ?_
          rotate_left
          · (intro wS hSw; (try dsimp only at hSw); go_simp; (try with_reducible rfl))
          (try simp only [Act.put, List.setIfInBounds_toArray, List.set_cons_zero, List.set_cons_succ])
          refine wpAnyH_take (i := 5) (v := ?_) rfl (by kernel_rfl) (by kernel_rfl) (by kernel_rfl) (fun _ _ _ h => h) (Or.inl ⟨by rfl, ?_⟩) (by assumption) ?_
          rotate_left
          · (intro wS hSw; (try dsimp only at hSw); go_simp; (try with_reducible rfl))
          (try simp only [Act.put, List.setIfInBounds_toArray, List.set_cons_zero, List.set_cons_succ])
          refine wpAnyH_take (i := 6) (v := ?_) rfl (by kernel_rfl) (by kernel_rfl) (by kernel_rfl) (fun _ _ _ h => h) (Or.inl ⟨by rfl, ?_⟩) (by assumption) ?_
          rotate_left
          · (intro wS hSw; (try dsimp only at hSw); go_simp; (try with_reducible rfl))
          (try simp only [Act.put, List.setIfInBounds_toArray, List.set_cons_zero, List.set_cons_succ])
          refine wpAnyH_take (i := 7) (v := ?_) rfl (by kernel_rfl) (by kernel_rfl) (by kernel_rfl) (fun _ _ _ h => h) (Or.inl ⟨by rfl, ?_⟩) (by assumption) ?_
          rotate_left
          · (intro wS hSw; (try dsimp only at hSw); go_simp; (try with_reducible rfl))
          (try simp only [Act.put, List.setIfInBounds_toArray, List.set_cons_zero, List.set_cons_succ])
          refine wpAnyH_take (i := 8) (v := ?_) rfl (by kernel_rfl) (by kernel_rfl) (by kernel_rfl) (fun _ _ _ h => h) (Or.inl ⟨by rfl, ?_⟩) (by assumption) ?_
          rotate_left
          · (intro wS hSw; (try dsimp only at hSw); go_simp; (try with_reducible rfl))
          (try simp only [Act.put, List.setIfInBounds_toArray, List.set_cons_zero, List.set_cons_succ])
          refine wpAnyH_ready (rs := [0]) (by kernel_rfl) (by simp) ?_
          refine AllReadyH.cons rfl (fun K hK => ?_) AllReadyH.nil
          go_simp
          refine hK.out _ _ ?_ (fun hHeld => ?_)
          · ((try dsimp only); go_keep)
          clear hK K
          (try simp only [Act.put, List.setIfInBounds_toArray, List.set_cons_zero, List.set_cons_succ])
          refine wpAnyH_ready (rs := [9]) (by kernel_rfl) (by simp) ?_
          refine AllReadyH.cons rfl (fun K hK => ?_) AllReadyH.nil
          go_simp
          go_at_call 83
          refine (HSB.out _).mono ?_
          rintro e2 w6 ⟨hq6, rfl⟩
          dsimp only
          have z2 := (hq6.cell (p := ⟨w.heap.size + 1, 0, none⟩) (show w.heap.size + 1 < w5.heap.size by omega)).trans hHeld.1
          have z3 := (hq6.cell (p := ⟨bi, 0, none⟩) (show bi < w5.heap.size by omega)).trans hHeld.2.1
          have z4 := (hq6.cell (p := ⟨Bx, 2, none⟩) (show Bx < w5.heap.size by omega)).trans hHeld.2.2.1
          have z5 := (hq6.cell (p := ⟨bt, ot + j, none⟩) (show bt < w5.heap.size by omega)).trans hHeld.2.2.2.1
          have z6 := (hq6.cell (p := ⟨br2, or2 + t * 2, none⟩) (show br2 < w5.heap.size by omega)).trans hHeld.2.2.2.2.1
          have z7 := (hq6.cell (p := ⟨br2, or2 + t * 2 + 1, none⟩) (show br2 < w5.heap.size by omega)).trans hHeld.2.2.2.2.2
          refine hK.out _ _ ⟨z2, z3, z4, z5, z6, z7⟩ (fun hHeld2 => ?_)
          clear hK K u0 u1
          have hn2 := K2.out.drew.keep hq6
          have u0 := hn2.cell (j := 0) rfl
          have u1 := hn2.cell (j := 1) rfl
          have f0 := hn2.frozen 0
          have f1 := hn2.frozen 1
          have hne1 : ¬ w.heap.size + 3 = w.heap.size + 1 := by omega
          have hne2 : ¬ w.heap.size + 3 = bi := by omega
          have hne3 : ¬ w.heap.size + 3 = Bx := by omega
          have hne4 : ¬ w.heap.size + 3 = bt := by omega
          have hne5 : ¬ w.heap.size + 3 = br2 := by omega
          have hb6 : Below w5.heap.size w5 w6 := ((Below.refl w5.heap.size w5).drew).trans (hq6.mono (Nat.le_refl _))
          have HN2 := Lib.hid hn2; clear hn2
          have HB6 := Lib.hid hb6; clear hb6
          clear hq6
          (try simp only [Act.put, List.setIfInBounds_toArray, List.set_cons_zero, List.set_cons_succ])
          refine wpAnyH_ready (rs := [10]) (by kernel_rfl) (by simp) ?_
          refine AllReadyH.cons rfl (fun K hK => ?_) AllReadyH.nil
          go_simp
          refine hK.out _ _ ?_ (fun hHeld => ?_)
          · ((try dsimp only); go_keep)
          clear hK K
          (try simp only [Act.put, List.setIfInBounds_toArray, List.set_cons_zero, List.set_cons_succ])
          refine wpAnyH_done (by kernel_rfl) ?_ _
          (try simp only [List.getElem_toArray, List.getElem_cons_zero, List.getElem_cons_succ, Act.put, List.setIfInBounds_toArray, List.set_cons_zero, List.set_cons_succ])
          gi_wp2
          have hk : ∀ b, b < w5.heap.size → b ≠ w.heap.size + 3 → ((w6.setCell ⟨w.heap.size + 3, 0, none⟩ (.bool (ineg (gs - Y)))).setCell ⟨w.heap.size + 3, 1, none⟩ (.string (imag (gs - Y)))).heap[b]? = w5.heap[b]? := fun b h1 h2 =>
            ((Below.heap_setCell _ _ _ b h2).trans (Below.heap_setCell _ _ _ b h2)).trans (HB6.out.block b h1)
          have hk5 : ∀ b, b < W.heap.size → b ≠ w.heap.size + 3 → ((w6.setCell ⟨w.heap.size + 3, 0, none⟩ (.bool (ineg (gs - Y)))).setCell ⟨w.heap.size + 3, 1, none⟩ (.string (imag (gs - Y)))).heap[b]? = W.heap[b]? := fun b h1 h2 => (hk b (by omega) h2).trans (HB5.out.block b h1)
          have hbz : ∀ {X : World}, Below w.heap.size X w5 → Below w.heap.size X ((w6.setCell ⟨w.heap.size + 3, 0, none⟩ (.bool (ineg (gs - Y)))).setCell ⟨w.heap.size + 3, 1, none⟩ (.string (imag (gs - Y)))) := fun hX =>
            ((hX.trans (HB6.out.mono (by omega))).setCell (p := ⟨w.heap.size + 3, 0, none⟩) (show w.heap.size ≤ w.heap.size + 3 by omega) _).setCell (p := ⟨w.heap.size + 3, 1, none⟩) (show w.heap.size ≤ w.heap.size + 3 by omega) _
          have hbW : Below w.heap.size W w5 := HB5.out.mono (by omega)
          have kf : KeepsFrom W1.heap.size W ((w6.setCell ⟨w.heap.size + 3, 0, none⟩ (.bool (ineg (gs - Y)))).setCell ⟨w.heap.size + 3, 1, none⟩ (.string (imag (gs - Y)))) := ⟨(hbz hbW).size, fun k o hB hk1 ho => (hk5 k (Array.getElem?_eq_some_iff.1 hk1).1 (by omega)).trans hk1⟩
          refine ⟨kf, ⟨hbz hbW, hk5 _ (by omega) (by omega), hk5 _ (by omega) (by omega)⟩, ?_⟩
          (try dsimp only)
          rw [HM2.out, HSN.out]
          refine ⟨rfl, (HN2.out.set 0 _).set 1 _, K3.out.of_block (hk _ (by omega) (by omega)), isB_set (isB_set (isB_keep K4.out HB6.out) HN2.out (by omega) (by decide) 0 _) (HN2.out.set 0 _) (by omega) (by decide) 1 _, K5.out.of_block (hk _ (by omega) (by omega)), K6.out.of_block (hk _ (by omega) (by omega)), K7.out.of_block (hk _ (by omega) (by omega)), hbz K8.out, fun D hD => (hk D (Array.getElem?_eq_some_iff.1 (K9.out D hD)).1 (by have := HDG.out D hD; omega)).trans (K9.out D hD), Nat.le_trans i10 kf.size⟩
      case done =>
        rintro D ys W hDge rfl ⟨i1, -⟩ hK
        exfalso
        rw [lvA_out] at i1
        rw [cw_succ] at hak1
        exact urGo_found hak1 hak0 i1
      case stop =>
        rintro D cc pre W hDge hpre ⟨⟨rfl, e, htp⟩, i2, i3, i4, i5, i6, i7, i8, i9, i10⟩ hK
        have hpre2 : (pre.map fun e => e.1) <+: outE es (sk : Int) := by
          rw [← lvA_out]; exact hpre.map _
        have hfull := urGo_prefix hpre2 htp
        obtain ⟨he1, he2⟩ := urGo_mem htp
        obtain ⟨e0, he0, rfl⟩ := List.mem_map.1 he1
        obtain ⟨-, -, ht0, ht1⟩ := HIN.out e0.1 e0.2
        obtain ⟨t', ht'⟩ : ∃ t' : Nat, e0.1.t = t' := ⟨e0.1.t.toNat, by omega⟩
        have hgs := urGo_bd es p j (pre.map fun e => e.1) ak hak0
        have hRn : ((acc ++ [letL e0.1.l]) ++ (ur es p j (t' : Int) (urGo es p j (pre.map fun e => e.1) ak).2).1, (ur es p j (t' : Int) (urGo es p j (pre.map fun e => e.1) ak).2).2) = R := by
          rw [← HRK.out, ur, hfull]
          dsimp only
          rw [ht', List.append_assoc, List.singleton_append]
        have htS : t' < S := by omega
        rw [ht'] at he2
        rw [htp] at i3 i4
        simp only [Option.map_some, Option.getD_some, Option.toList_some, ht'] at i3 i4
        obtain ⟨gs, hgsd⟩ : ∃ gs, gs = (urGo es p j (pre.map fun e => e.1) ak).2 := ⟨_, rfl⟩
        rw [← hgsd] at hgs i2 hRn he2
        have hlen : (acc ++ [letL e0.1.l]).length + j = n := by rw [List.length_append, List.length_singleton]; omega
        obtain ⟨acc2, hacc2⟩ : ∃ acc2, acc2 = acc ++ [letL e0.1.l] := ⟨_, rfl⟩
        rw [← hacc2] at hRn i4 hlen
        have cI := i7.cell (j := 0) rfl
        have hwj : IntKind.i64.wrap ((j : Int) - 1) = (j : Int) - 1 := IntWalk.i64_in _ (by omega)
        have hWs : bi < W.heap.size := i7.lt
        have nI := Blk.new W 3 [.int .i64 (j : Int)]
        have nI0 := nI.cell (j := 0) rfl
        have nIf := nI.frozen 0
        clear hfull hgsd htp hpre2 he1 he0 hacc2
        have I2 := Lib.hid i2; clear i2
        have I3 := Lib.hid i3; clear i3
        have I4 := Lib.hid i4; clear i4
        have I5 := Lib.hid i5; clear i5
        have I6 := Lib.hid i6; clear i6
        have I7 := Lib.hid i7; clear i7
        have I8 := Lib.hid i8; clear i8
        have I9 := Lib.hid i9; clear i9
        have HRN := Lib.hid hRn; clear hRn
        have NI := Lib.hid nI; clear nI
        clear hpre ht'
        gi_wp2
        have hz0 : Below w.heap.size w (W.alloc (.cells #[.int .i64 ((j : Int) - 1)] 3)) := I8.out.alloc (by omega) _
        have hk : ∀ b, b < W.heap.size → (W.alloc (.cells #[.int .i64 ((j : Int) - 1)] 3)).heap[b]? = W.heap[b]? := fun b h => Below.heap_alloc _ _ _ h
        have nz := Blk.new W 3 [.int .i64 ((j : Int) - 1)]
        have hbo := BI2.out.cell (j := 0) rfl
        refine ⟨⟨j, W.heap.size, D :: Ds, _, _, _, _, _, _, _, _, _, _, _, _, _, _, _, _, _, _, _, _, _, _, _, _, _, _, _, _, _, _, _, _, _, _, _, _, _, _, _, _, _, _, _, _, _, _, _, _, _, _, _, _, _, _, _, t', gs, acc2, rfl, by omega, hlen, htS, ⟨hgs.1, he2⟩, HRN.out, I5.out.of_block (hk _ (by omega)), I6.out.of_block (hk _ (by omega)), I3.out.of_block (hk _ (by omega)), I2.out.of_block (hk _ (by omega)), isB_alloc I4.out _, nz, by omega, hz0, ?_, ?_, ?_⟩, ?_⟩
        · intro D' h'
          rcases List.mem_cons.1 h' with rfl | h'
          · exact (hk _ (Array.getElem?_eq_some_iff.1 hK).1).trans hK
          · exact (hk _ (Array.getElem?_eq_some_iff.1 (I9.out D' h')).1).trans (I9.out D' h')
        · rw [List.nodup_cons]
          exact ⟨fun h' => by have := HDL.out D h'; omega, HND.out⟩
        · intro D' h'
          rcases List.mem_cons.1 h' with rfl | h'
          · omega
          · exact HDG.out D' h'
        · rw [mI_eq (p := ⟨W.heap.size, 0, none⟩) rfl (nz.cell (j := 0) rfl), mI_eq (p := ⟨bi, 0, none⟩) rfl hbo]
          omega
    · obtain rfl : m = 0 := by omega
      rw [show ((0 : Nat) : Int) - 1 = -1 by rfl] at gI
      have hRs : R = (acc, (sk : Int)) := by
        rw [← hrk, ur, List.append_nil]
      have hbl : N < wr.heap.size := isB_lt ISB2.out
      have hst := Tryz.Builder_String_any_k N N acc wr.drew (Lib.IsBuilderF.of (show IsB N acc wr.drew from ISB2.out)) (Nat.le_of_lt hbl)
      have HRS := Lib.hid hRs; clear hRs
      have HBEL := Lib.hid hbel; clear hbel
      have HST := Lib.hid hst; clear hst
      clear hrk g0 g1 g2
      gi_wp2
      refine wpIn_wide.2 ?_
      refine wp_region_noPanic ?_
      refine wp_region_held_drew (S := fun w' => w'.cell? ⟨w.heap.size + 2, 0, none⟩ = some (.int .i64 (sk : Int))) (by kernel_rfl) ?_ (fun hHeld => ?_)
      · go_keep
      refine wpAnyH_take (i := 1) (v := ?_) rfl (by kernel_rfl) (by kernel_rfl) (by kernel_rfl) (fun _ _ _ h => h) (Or.inl ⟨by rfl, ?_⟩) (by assumption) ?_
      rotate_left
      · (intro wS hSw; (try dsimp only at hSw); go_simp; (try with_reducible rfl))
      (try simp only [Act.put, List.setIfInBounds_toArray, List.set_cons_zero, List.set_cons_succ])
      refine wpAnyH_ready (rs := [0]) (by kernel_rfl) (by simp) ?_
      refine AllReadyH.cons rfl (fun K hK => ?_) AllReadyH.nil
      go_simp
      go_at_call 45
      refine HST.out.mono ?_
      rintro e ws ⟨rfl, -, hbs, hot⟩
      dsimp only
      have z0 := (hbs.cell (p := ⟨w.heap.size + 2, 0, none⟩) (show w.heap.size + 2 < N by omega)).trans hHeld
      refine hK.out _ _ z0 (fun hHeld2 => ?_)
      clear hK K hHeld
      (try simp only [Act.put, List.setIfInBounds_toArray, List.set_cons_zero, List.set_cons_succ])
      refine wpAnyH_take (i := 2) (v := ?_) rfl (by kernel_rfl) (by kernel_rfl) (by kernel_rfl) (fun _ _ _ h => h) (Or.inl ⟨by rfl, ?_⟩) (by assumption) ?_
      rotate_left
      · (intro wS hSw; (try dsimp only at hSw); go_simp; (try with_reducible rfl))
      (try simp only [Act.put, List.setIfInBounds_toArray, List.set_cons_zero, List.set_cons_succ])
      refine wpAnyH_take (i := 3) (v := ?_) rfl (by kernel_rfl) (by kernel_rfl) (by kernel_rfl) (fun _ _ _ h => h) (Or.inl ⟨by rfl, ?_⟩) (by assumption) ?_
      rotate_left
      · (intro wS hSw; (try dsimp only at hSw); go_simp; (try with_reducible rfl))
      (try simp only [Act.put, List.setIfInBounds_toArray, List.set_cons_zero, List.set_cons_succ])
      refine wpAnyH_take (i := 4) (v := ?_) rfl (by kernel_rfl) (by kernel_rfl) (by kernel_rfl) (fun _ _ _ h => h) (Or.inl ⟨by rfl, ?_⟩) (by assumption) ?_
      rotate_left
      · (intro wS hSw; (try dsimp only at hSw); go_simp; (try with_reducible rfl))
      (try simp only [Act.put, List.setIfInBounds_toArray, List.set_cons_zero, List.set_cons_succ])
      refine wpAnyH_done (by kernel_rfl) ?_ _
      (try simp only [List.getElem_toArray, List.getElem_cons_zero, List.getElem_cons_succ, Act.put, List.setIfInBounds_toArray, List.set_cons_zero, List.set_cons_succ])
      refine NoPanic.normal ?_
      have hbz : Below w.heap.size w ws := HBEL.out.drew.trans (hbs.mono (by omega))
      have hdz : ∀ D ∈ Ds, ws.heap[D]? = some (.deferred (some [])) := fun D hD => hot D _ (HDS.out D hD) (fun e => by have := HDG.out D hD; have := Option.some.inj e; omega) (fun c fz e => by cases e)
      have HBZ := Lib.hid hbz; clear hbz
      have HDZ := Lib.hid hdz; clear hdz
      clear hbs hot z0 hHeld2
      gi_wp2
      rw [HRS.out]
      refine leaves_marks (N + 1) (fun W => Below w.heap.size w W) (fun W D hB hk hD => hk.grown (grownBy_putObj' W D _) (by have := hk.size; omega) (fun j' e' => by cases e'; omega)) (fun W hk => ?hfin) Ds _ HBZ.out HDZ.out HND.out (fun D h => by have := HDG.out D h; omega)
      case hfin =>
        refine ⟨_, ?_, hk, rfl⟩
        simp [results, Tryz.results42, go_sem]
end Go.Proofs.YtalipfnbpnkgnaaGreat

/- grooveref22.backward and unit. -/
import Derived.Deep.RegionHeld3
import Derived.Test.YthpgeeaccmgbkaaGreatRadd
import Derived.Test.YthpgeeaccmgbkaaGreatFrom
import Derived.Test.YthpgeeaccmgbkaaGreatPart6
namespace Go.Proofs.YthpgeeaccmgbkaaGreat
open Go.RowKit

def VecRet (S : Nat) (l : List Int) (w : World) (e : Ending) (w' : World) : Prop := Below w.heap.size w w' ∧ ∃ b, e = .returned (.slice (some ⟨b, 0, none⟩) S S) ∧ Blk w' b 28 (civ l)
set_option maxRecDepth 100000 in
set_option maxHeartbeats 3200000 in
theorem runit_any (L : Int) (S : Nat) (t : Int) (p : Int → Bool) (v : Value) (es : List E3) (w : World) (hr : Row w v es.length (ce es)) (hS : S ≤ 64) (hp : ∀ s : Nat, s < S → p (s : Int) = (decide ((s : Int) = t) || decide (t < 0))) :
  Calls Tryz.prog 37 #[.agg #[.int .i64 L, .int .i64 (S : Int), v], .int .i64 t] w (VecRet S (row0 S p S) w) := by
 obtain ⟨va, vc, rfl, hle⟩ := hr.slice
 obtain ⟨m, hm⟩ : ∃ m, m = es.length := ⟨_, rfl⟩
 rw [← hm]
 have bg := (Blk.new w 24 [.int .i64 L, .int .i64 (S : Int), .slice va m vc])
 have hmk := mkI S (by omega) (S : Int) rfl
 have hof := fun w' => rof_any 1 w' (by decide) (by decide)
 have s0 := (Below.refl w.heap.size w).alloc (Nat.le_refl _) (.cells #[.int .i64 L, .int .i64 (S : Int), .slice va m vc] 24)
 have b1 := blk_mkI (w.alloc (.cells #[.int .i64 L, .int .i64 (S : Int), .slice va m vc] 24)) S
 rw [World.size_alloc, ← row0_zero S p] at b1
 have bg1 := bg.alloc (.cells (zarr (.agg #[.bool false, .string ⟨#[]⟩]) S) 28)
 have s1 := s0.alloc (by simp) (.cells (zarr (.agg #[.bool false, .string ⟨#[]⟩]) S) 28)
 have x1 := bg.cell (j := 1) rfl
 obtain ⟨w1, hw1⟩ : ∃ w1, (w.alloc (.cells #[.int .i64 L, .int .i64 (S : Int), .slice va m vc] 24)).alloc (.cells (zarr (.agg #[.bool false, .string ⟨#[]⟩]) S) 28) = w1 := ⟨_, rfl⟩
 rw [hw1] at b1 bg1 s1
 have HOF := Lib.hid hof; clear hof
 have B1 := Lib.hid b1; clear b1
 have BG1 := Lib.hid bg1; clear bg1
 have S1 := Lib.hid s1; clear s1
 have HP := Lib.hid hp; clear hp
 clear hr hm s0 bg
 go_enter Tryz.func37, Tryz.ntmps37
 go_wp2_with fail
 (try rw [hw1])
 clear hw1 x1 hmk
 go_loopw [6] (fun i wr => ∃ j : Nat, j ≤ S ∧ i = .int .i64 (j : Int) ∧ Below (w.heap.size + 1) w1 wr ∧ Blk wr (w.heap.size + 1) 28 (civ (row0 S p j))) (fun i _ => S - (intOf i).toNat)
 case atStart => exact ⟨0, Nat.zero_le _, rfl, Below.refl _ _, B1.out⟩
 case round =>
  obtain ⟨j, hj, rfl, hbel, hblk⟩ := hrel
  obtain ⟨wo, rfl⟩ : ∃ wo : World, wo = wr := ⟨_, rfl⟩
  have hbl := hblk.lt
  have dg := BG1.out.below hbel (by omega)
  have x1 := dg.cell (j := 1) rfl
  by_cases hjS : j < S
  ·
   have tj : decide ((j : Int) < (S : Int)) = true := by simp; omega
   have hpj := HP.out j hjS
   have hix1 : (0 : Int) ≤ (j : Int) := by omega
   have hix2 : (j : Int) < (S : Int) := by omega
   have HBEL := Lib.hid hbel; clear hbel
   have HBLK := Lib.hid hblk; clear hblk
   by_cases hyes : p (j : Int) = true
   ·
    have hst := row0_yes hjS hyes
    rw [hyes] at hpj
    have hst2 := hst
    have HST := Lib.hid hst2; clear hst2
    have fin : ∀ w4, Below wo.heap.size wo w4 → Blk w4 (w.heap.size + 1) 28 (civ (row0 S p j)) := fun w4 h => HBLK.out.keep h
    have FIN := Lib.hid fin; clear fin
    have hgx : (row0 S p j)[j]? = some 0 := by simp [row0, hjS]
    obtain ⟨gx0, gx1⟩ := civ_get hgx
    have GX0 := Lib.hid gx0; clear gx0
    have GX1 := Lib.hid gx1; clear gx1
    clear hst dg hgx
    by_cases ht : (j : Int) = t
    ·
     have e1 : ((j : Int) == t) = true := by simp [ht]
     subst ht
     clear hpj
     go_wp2_with fail
     go_at_call 49
     refine (HOF.out _).mono ?_
     rintro e w4 ⟨hq, rfl⟩
     have k4 := FIN.out w4 hq
     have hb4 := HBEL.out.trans (hq.mono (by omega))
     have f0 := k4.frozen (j * 2)
     have f1 := k4.frozen (j * 2 + 1)
     have d0 := k4.cell GX0.out
     have d1 := k4.cell GX1.out
     have k5 := (k4.set (j * 2) (.bool (ineg 1))).set (j * 2 + 1) (.string (imag 1))
     rw [civ_set, HST.out] at k5
     have K5 := Lib.hid k5; clear k5
     have HB4 := Lib.hid hb4; clear hb4
     clear hq k4 x1
     go_wp2_with fail
     go_roundw
     case rel => exact ⟨j + 1, by omega, by go_num, (HB4.out.setCell (p := ⟨w.heap.size + 1, j * 2, none⟩) (Nat.le_refl _) _).setCell (p := ⟨w.heap.size + 1, j * 2 + 1, none⟩) (Nat.le_refl _) _, K5.out⟩
     case measure => simp [intOf]; omega
    ·
     have e1 : ((j : Int) == t) = false := by simp [ht]
     have ht0 : t < 0 := by simpa [ht] using hpj
     have e2 : decide (t < 0) = true := by simpa using ht0
     clear hpj
     go_wp2_with fail
     go_at_call 49
     refine (HOF.out _).mono ?_
     rintro e w4 ⟨hq, rfl⟩
     have k4 := FIN.out w4 hq
     have hb4 := HBEL.out.trans (hq.mono (by omega))
     have f0 := k4.frozen (j * 2)
     have f1 := k4.frozen (j * 2 + 1)
     have d0 := k4.cell GX0.out
     have d1 := k4.cell GX1.out
     have k5 := (k4.set (j * 2) (.bool (ineg 1))).set (j * 2 + 1) (.string (imag 1))
     rw [civ_set, HST.out] at k5
     have K5 := Lib.hid k5; clear k5
     have HB4 := Lib.hid hb4; clear hb4
     clear hq k4 x1
     go_wp2_with fail
     go_roundw
     case rel => exact ⟨j + 1, by omega, by go_num, (HB4.out.setCell (p := ⟨w.heap.size + 1, j * 2, none⟩) (Nat.le_refl _) _).setCell (p := ⟨w.heap.size + 1, j * 2 + 1, none⟩) (Nat.le_refl _) _, K5.out⟩
     case measure => simp [intOf]; omega
   ·
    have hno : p (j : Int) = false := by simpa using hyes
    have hst := row0_no (S := S) hno
    rw [hno] at hpj
    have ht : ¬ (j : Int) = t := fun h => by simp [h] at hpj
    have ht0 : ¬ t < 0 := fun h => by simp [h] at hpj
    have e1 : ((j : Int) == t) = false := by simp [ht]
    have e2 : decide (t < 0) = false := by simpa using ht0
    have HST := Lib.hid hst; clear hst
    clear dg hpj
    go_wp2_with fail
    go_roundw
    case rel => exact ⟨j + 1, by omega, by go_num, HBEL.out, by rw [← HST.out]; exact HBLK.out⟩
    case measure => simp [intOf]; omega
  ·
   have hjS2 : j = S := by omega
   have tj : decide ((j : Int) < (S : Int)) = false := by simp; omega
   rw [hjS2] at hblk
   have hb2 := S1.out.trans (hbel.mono (by omega))
   have HB2 := Lib.hid hb2; clear hb2
   have HBLK := Lib.hid hblk; clear hblk
   clear hbel dg hjS2
   go_wp2_with fail
   go_ret
   exact ⟨HB2.out, _, rfl, HBLK.out⟩
set_option maxRecDepth 100000 in
set_option maxHeartbeats 8000000 in
theorem rback_any (L : Int) (S n b0 : Nat) (es : List E3) (p : Int → Bool) (v : Value) (w : World) (hr : Row w v es.length (ce es)) (hS : S ≤ 64) (hn : n ≤ 4096) (hl : es.length ≤ 1024) (hin : InS S es) (hb0 : Blk w b0 28 (civ (rowK es S p 0))) :
  Calls Tryz.prog 36 #[.agg #[.int .i64 L, .int .i64 (S : Int), v], .slice (some ⟨b0, 0, none⟩) S S, .int .i64 (n : Int)] w (VecRet S (rowK es S p n) w) := by
 obtain ⟨va, vc, rfl, hle⟩ := hr.slice
 obtain ⟨m, hm⟩ : ∃ m, m = es.length := ⟨_, rfl⟩
 rw [← hm] at hr hl hle ⊢
 have bg := Blk.new w 24 [.int .i64 L, .int .i64 (S : Int), .slice va m vc]
 have s0 := (Below.refl w.heap.size w).alloc (Nat.le_refl _) (.cells #[.int .i64 L, .int .i64 (S : Int), .slice va m vc] 24)
 have hb1 := hb0.keep s0
 have HR := Lib.hid hr; clear hr
 have BG := Lib.hid bg; clear bg
 have S0 := Lib.hid s0; clear s0
 have HM := Lib.hid hm; clear hm
 have HIN := Lib.hid hin; clear hin
 have HB1 := Lib.hid hb1; clear hb1
 clear hb0
 go_enter Tryz.func36, Tryz.ntmps36
 go_wp2_with fail
 obtain ⟨w1, hw1⟩ : ∃ w1, w1 = w.alloc (.cells #[.int .i64 L, .int .i64 (S : Int), .slice va m vc] 24) := ⟨_, rfl⟩
 rw [← hw1] at HB1 BG S0
 (try rw [← hw1])
 clear hw1
 have hgl := BG.out.lt
 go_loopw [1, 7] (fun u i wr => ∃ k b : Nat, k ≤ n ∧ u = .slice (some ⟨b, 0, none⟩) S S ∧ i = .int .i64 (k : Int) ∧ Below w1.heap.size w1 wr ∧ Blk wr b 28 (civ (rowK es S p k))) (fun _ i _ => n - (intOf i).toNat)
 case atStart => exact ⟨0, b0, Nat.zero_le _, rfl, rfl, Below.refl _ _, HB1.out⟩
 case round =>
  obtain ⟨k, b, hk, rfl, rfl, hbel, hvec⟩ := hrel
  obtain ⟨wq, rfl⟩ : ∃ wq : World, wq = wr := ⟨_, rfl⟩
  have hszq := hbel.size
  have hvl := hvec.lt
  have hbw0 := S0.out.trans (hbel.mono S0.out.size)
  have hbg := BG.out.below hbel hgl
  by_cases hkn : k < n
  ·
   have tk : decide ((k : Int) < (n : Int)) = true := by simp; omega
   have hmk := mkI S (by omega) (S : Int) rfl
   have g1 := hbg.cell (j := 1) rfl
   have g2 := hbg.cell (j := 2) rfl
   have HB2 := Lib.hid hbel; clear hbel
   have HBG := Lib.hid hbg; clear hbg
   have HBW0 := Lib.hid hbw0; clear hbw0
   have HV := Lib.hid hvec; clear hvec
   go_wp2_with fail
   clear g1 g2 hmk
   go_loopw [9] (fun i wr => ∃ q : Nat, q ≤ m ∧ i = .int .i64 (q : Int) ∧ Below wq.heap.size wq wr ∧ Blk wr wq.heap.size 28 (civ (rowP es S p k q))) (fun i _ => m - (intOf i).toNat)
   case atStart => exact ⟨0, Nat.zero_le _, rfl, (Below.refl _ _).alloc (Nat.le_refl _) _, by rw [rowP_zero]; exact blk_mkI wq S⟩
   case round =>
    obtain ⟨q, hq, rfl, hbe, hblk⟩ := hrel
    have hs3 : wq.heap.size < wr.heap.size := hblk.lt
    have dG := HBG.out.keep hbe
    have g2r := dG.cell (j := 2) rfl
    by_cases hlt3 : q < m
    ·
     have tq : decide ((q : Int) < (m : Int)) = true := by simp; omega
     have ge : es[q]? = some (es[q]'(by rw [← HM.out]; exact hlt3)) := List.getElem?_eq_getElem _
     obtain ⟨e, hedef⟩ : ∃ e, e = es[q]'(by rw [← HM.out]; exact hlt3) := ⟨_, rfl⟩
     rw [← hedef] at ge
     obtain ⟨hf0, hf1, ht0, ht1⟩ := HIN.out e (by rw [hedef]; exact List.getElem_mem _)
     clear hedef
     obtain ⟨f, hf⟩ : ∃ f : Nat, e.f = f := ⟨e.f.toNat, by omega⟩
     obtain ⟨t, ht⟩ : ∃ t : Nat, e.t = t := ⟨e.t.toNat, by omega⟩
     have hfS : f < S := by omega
     have htS : t < S := by omega
     obtain ⟨be, off, rfl, hbw, hce⟩ := HR.out.at_ (by omega)
     have hb3 : Below w.heap.size w wr := HBW0.out.trans (hbe.mono HBW0.out.size)
     obtain ⟨q0, q1, q2⟩ := edge_cells hce hb3 hbw ge
     rw [hf] at q0
     rw [ht] at q2
     obtain ⟨l, hl⟩ : ∃ l, l = e.l := ⟨_, rfl⟩
     rw [← hl] at q1
     clear hce hl
     have hvec3 := HV.out.keep hbe
     have gx : (rowP es S p k q)[f]? = some ((rowP es S p k q)[f]'(by rw [rowP_length]; exact hfS)) := List.getElem?_eq_getElem _
     obtain ⟨X, hX⟩ : ∃ X, X = (rowP es S p k q)[f]'(by rw [rowP_length]; exact hfS) := ⟨_, rfl⟩
     rw [← hX] at gx
     have gy : (rowK es S p k)[t]? = some (cw es p k (t : Int)) := rowK_get htS
     obtain ⟨Y, hY⟩ : ∃ Y, Y = cw es p k (t : Int) := ⟨_, rfl⟩
     have sY : small Y := by rw [hY]; exact cw_small (by rw [← HM.out]; omega) p k (by omega) _
     have sX : small X := rowP_small (by rw [← HM.out]; omega) S p k q (by omega) gx
     rw [← hY] at gy
     have hsucc := rowP_succ ge hf ht hfS htS gx gy
     clear hX hY ge hf ht hf0 hf1 ht0 ht1
     have hadd := fun w' => radd_any X Y w' (Nat.le_trans sX (by omega)) (Nat.le_trans sY (by omega))
     have hnow := hblk.alloc (.cells #[.int .i64 (f : Int), .int .i64 l, .int .i64 (t : Int)] 53)
     have n0 := hnow.cell (civ_get gx).1
     have n1 := hnow.cell (civ_get gx).2
     have hrk := hvec3.alloc (.cells #[.int .i64 (f : Int), .int .i64 l, .int .i64 (t : Int)] 53)
     have y0 := hrk.cell (civ_get gy).1
     have y1 := hrk.cell (civ_get gy).2
     have hx := Blk.new wr 53 [.int .i64 (f : Int), .int .i64 l, .int .i64 (t : Int)]
     have x0 := hx.cell (j := 0) rfl
     have x2 := hx.cell (j := 2) rfl
     have hix1 : (0 : Int) ≤ (f : Int) := by omega
     have hix2 : (f : Int) < (S : Int) := by omega
     have hix3 : (0 : Int) ≤ (t : Int) := by omega
     have hix4 : (t : Int) < (S : Int) := by omega
     have hix5 : (0 : Int) ≤ (q : Int) := by omega
     have hix6 : (q : Int) < (m : Int) := by omega
     have gx0 := (civ_get gx).1
     have gx1 := (civ_get gx).2
     have s5 := (hbe.alloc (Nat.le_of_lt hs3) (.cells #[.int .i64 (f : Int), .int .i64 l, .int .i64 (t : Int)] 53)).drew
     have HADD := Lib.hid hadd; clear hadd
     have HSU := Lib.hid hsucc; clear hsucc
     have HNOW := Lib.hid hnow; clear hnow
     have GX0 := Lib.hid gx0; clear gx0
     have GX1 := Lib.hid gx1; clear gx1
     have S5 := Lib.hid s5; clear s5
     clear hrk hx hvec3 hblk gx gy sX sY hb3 dG hbe
     go_wp2_with fail
     refine wp_region_held_drew (S := fun w' => w'.cell? ⟨wr.heap.size, 0, none⟩ = some (.int .i64 (f : Int)) ∧ w'.cell? ⟨wr.heap.size, 2, none⟩ = some (.int .i64 (t : Int)) ∧ w'.cell? ⟨b, t * 2, none⟩ = some (.bool (ineg Y)) ∧ w'.cell? ⟨b, t * 2 + 1, none⟩ = some (.string (imag Y))) (by kernel_rfl) ?_ (fun hHeld => ?_)
     ·
      go_keep
     refine zT 0 (h := ?_)
     (try simp only [Act.put, zA, zB, zC])
     refine zT 1 (h := ?_)
     (try simp only [Act.put, zA, zB, zC])
     refine zT 2 (h := ?_)
     (try simp only [Act.put, zA, zB, zC])
     refine zT 3 (h := ?_)
     (try simp only [Act.put, zA, zB, zC])
     refine zT 4 (h := ?_)
     (try simp only [Act.put, zA, zB, zC])
     refine zT 5 (h := ?_)
     (try simp only [Act.put, zA, zB, zC])
     refine zT 6 (h := ?_)
     (try simp only [Act.put, zA, zB, zC])
     refine zT 8 (h := ?_)
     (try simp only [Act.put, zA, zB, zC])
     refine zT 9 (h := ?_)
     (try simp only [Act.put, zA, zB, zC])
     refine zT 10 (h := ?_)
     (try simp only [Act.put, zA, zB, zC])
     refine zT 11 (h := ?_)
     (try simp only [Act.put, zA, zB, zC])
     refine zT 12 (h := ?_)
     (try simp only [Act.put, zA, zB, zC])
     refine zR 7 (h := fun K hK => ?_)
     go_simp
     refine hK.out _ _ ?_ (fun hHeld => ?_)
     ·
      ((try dsimp only); go_keep)
     clear hK K
     (try simp only [Act.put, zA, zB, zC])
     refine zR 13 (h := fun K hK => ?_)
     go_simp
     go_at_call 40
     refine (HADD.out _).mono ?_
     rintro e w2 ⟨hq2, rfl⟩
     dsimp only
     have z0 := (hq2.cell (p := ⟨wr.heap.size, 0, none⟩) (by simp)).trans hHeld.1
     have z1 := (hq2.cell (p := ⟨wr.heap.size, 2, none⟩) (by simp)).trans hHeld.2.1
     have z2 := (hq2.cell (p := ⟨b, t * 2, none⟩) (by simp; omega)).trans hHeld.2.2.1
     have z3 := (hq2.cell (p := ⟨b, t * 2 + 1, none⟩) (by simp; omega)).trans hHeld.2.2.2
     refine hK.out _ _ ⟨z0, z1, z2, z3⟩ (fun hHeld2 => ?_)
     clear hK K
     have hn2 := HNOW.out.drew.keep hq2
     have u0 := hn2.cell GX0.out
     have u1 := hn2.cell GX1.out
     have v0 := hn2.frozen (f * 2)
     have v1 := hn2.frozen (f * 2 + 1)
     have hne1 : ¬ wq.heap.size = wr.heap.size := by omega
     have hne2 : ¬ wq.heap.size = b := by omega
     have HN2 := Lib.hid hn2; clear hn2
     have HQ2 := Lib.hid hq2; clear hq2
     (try simp only [Act.put, zA, zB, zC])
     refine zT 14 (h := ?_)
     (try simp only [Act.put, zA, zB, zC])
     refine zR 15 (h := fun K hK => ?_)
     go_simp
     refine hK.out _ _ ?_ (fun hHeld => ?_)
     ·
      ((try dsimp only); go_keep)
     clear hK K
     (try simp only [Act.put, zA, zB, zC])
     refine wpAnyH_done (by kernel_rfl) ?_ _
     go_wp2_with fail
     go_roundw
     case rel =>
      have s2 := S5.out.trans (HQ2.out.mono S5.out.size)
      refine ⟨q + 1, by omega, by go_num, (s2.setCell (p := ⟨wq.heap.size, f * 2, none⟩) (Nat.le_refl _) _).setCell (p := ⟨wq.heap.size, f * 2 + 1, none⟩) (Nat.le_refl _) _, ?_⟩
      rw [← HSU.out, ← civ_set]
      exact (HN2.out.set _ _).set _ _
     case measure => simp [intOf]; omega
    ·
     have hqm : q = m := by omega
     have tq : decide ((q : Int) < (m : Int)) = false := by simp; omega
     rw [hqm, HM.out, rowP_full] at hblk
     have hb4 := HB2.out.trans (hbe.mono hszq)
     have HB4 := Lib.hid hb4; clear hb4
     have HBN := Lib.hid hblk; clear hblk
     clear hbe dG hqm
     go_wp2_with fail
     go_roundw
     case rel => exact ⟨k + 1, wq.heap.size, by omega, rfl, by go_num, HB4.out, HBN.out⟩
     case measure => simp [intOf]; omega
  ·
   have hkn2 : k = n := by omega
   have tk : decide ((k : Int) < (n : Int)) = false := by simp; omega
   rw [hkn2] at hvec
   have HBW0 := Lib.hid hbw0; clear hbw0
   have HV := Lib.hid hvec; clear hvec
   clear hbg hbel hkn2
   go_wp2_with fail
   go_ret
   exact ⟨HBW0.out, b, rfl, HV.out⟩
end Go.Proofs.YthpgeeaccmgbkaaGreat

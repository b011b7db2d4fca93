/- Contracts and plain laws of several functions, one after the other: Closed, ClosedC, OrbA. -/
import Derived.Test.YthpgeeaccmgbkaaGreatPart10
import Derived.Test.YthpgeeaccmgbkaaGreatPart12
import Derived.Test.YthpgeeaccmgbkaaGreatPart6
import Derived.Test.YthpgeeaccmgbkaaGreatDivs
import Derived.Test.YthpgeeaccmgbkaaGreatDivI
/- counting.closed, Closed. -/
namespace Go.Proofs.YthpgeeaccmgbkaaGreat
open Go.RowKit

theorem matB_tab {B : Nat} {w : World} {b n m : Nat} {f : Nat → Nat → Int} (h : MatB B w b m (matF n m f)) (hn : n ≤ 1000) (hm : m ≤ 1000) : Tab w (.slice (some ⟨b, 0, none⟩) n n) (matF n m f) := by
 have := (h.tabB (by rw [matF_length]; omega) (by omega)).tab
 rwa [matF_length] at this
/-- The sum of the first j of the diagonal. -/
def trP (es : List E3) (n j : Nat) : Int := ((List.range j).map fun (s : Nat) => pwF es n s s).sum
theorem trP_succ (es : List E3) (n j : Nat) : trP es n (j + 1) = trP es n j + pwF es n j j := by
 unfold trP; rw [List.range_succ, List.map_append]; exact sum_snoc _ _
theorem trP_sm {es : List E3} (h : es.length ≤ 1024) (n j : Nat) (hj : j ≤ 255) : sm (2 * n + 2) (trP es n j) := by
 refine sm_sum' (p := 2 * n + 1) (fun z hz => ?_) (by simpa using hj)
 obtain ⟨s, -, rfl⟩ := List.mem_map.1 hz
 exact pw_sm h n s s
theorem half_inv {a b q N : Nat} (h : a + b * q = N) (hq : q % 2 = 1) : (a + b) + (b + b) * (q / 2) = N := by
 have h1 : q = 2 * (q / 2) + 1 := by omega
 rw [h1, Nat.mul_succ, ← Nat.mul_assoc] at h
 rw [Nat.add_mul]
 have : b * 2 * (q / 2) = b * (q / 2) + b * (q / 2) := by rw [Nat.mul_assoc, Nat.mul_left_comm]; omega
 omega
theorem half_inv0 {a b q N : Nat} (h : a + b * q = N) (hq : q % 2 = 0) : a + (b + b) * (q / 2) = N := by
 have h1 : q = 2 * (q / 2) := by omega
 rw [h1, ← Nat.mul_assoc] at h
 rw [Nat.add_mul]
 have : b * 2 * (q / 2) = b * (q / 2) + b * (q / 2) := by rw [Nat.mul_assoc, Nat.mul_left_comm]; omega
 omega
set_option maxRecDepth 100000 in
set_option maxHeartbeats 8000000 in
theorem closed_any (L : Int) (S N : Nat) (es : List E3) (v : Value) (w : World) (hr : Row w v es.length (ce es)) (hS0 : 0 < S) (hS : S ≤ 32) (hl : es.length ≤ 1024) (hin : InS S es) (hN : N ≤ 4096) :
  Calls Tryz.prog 41 #[.agg #[.int .i64 L, .int .i64 (S : Int), v], .int .i64 (N : Int)] w (Ret w (IntV (clN es S N))) := by
 obtain ⟨va, vc, rfl, hle⟩ := hr.slice
 obtain ⟨m, hm⟩ : ∃ m, m = es.length := ⟨_, rfl⟩
 have bg := (Blk.new w 24 [.int .i64 L, .int .i64 (S : Int), .slice va es.length vc]).alloc (.cells #[.bool false, .string ⟨#[]⟩] 28)
 have br := Blk.new (w.alloc (.cells #[.int .i64 L, .int .i64 (S : Int), .slice va es.length vc] 24)) 28 [.bool false, .string ⟨#[]⟩]
 have s0 := ((Below.refl w.heap.size w).alloc (Nat.le_refl _) (.cells #[.int .i64 L, .int .i64 (S : Int), .slice va es.length vc] 24)).alloc (by simp) (.cells #[.bool false, .string ⟨#[]⟩] 28)
 simp only [World.size_alloc] at br
 obtain ⟨w1, hw1⟩ : ∃ w1, (w.alloc (.cells #[.int .i64 L, .int .i64 (S : Int), .slice va es.length vc] 24)).alloc (.cells #[.bool false, .string ⟨#[]⟩] 28) = w1 := ⟨_, rfl⟩
 rw [hw1] at bg br s0
 have hsz1 : w.heap.size + 1 < w1.heap.size := br.lt
 have hr1 := hr.below s0 (Nat.le_refl _)
 have hid := fun w' => identity_any S w' (by omega) hS
 have hadj := fun v' w' h => adjacency_any L S es v' w' h (by omega) hl hin
 have hmul := fun (a b : Nat) (ha : a ≤ 4096) (hb : b ≤ 4096) (ba bb : Nat) (w' : World) (hA : MatB 0 w' ba S (pwM es S a)) (hB : MatB 0 w' bb S (pwM es S b)) =>
  mul_any S S S (2 * (a + b) + 1) (pwM es S a) (pwM es S b) _ _ w' (matB_tab hA (by omega) (by omega)) (matB_tab hB (by omega) (by omega))
   ⟨(pw_ok hl S a).len, (pw_ok hl S a).row, fun r hr z hz => ((pw_ok hl S a).sm r hr z hz).mono (by omega)⟩ ⟨(pw_ok hl S b).len, (pw_ok hl S b).row, fun r hr z hz => ((pw_ok hl S b).sm r hr z hz).mono (by omega)⟩ hS0 hS hS0 hS hS0 hS (by omega)
 have hpz := pw_zero es S
 have hpo := pw_one es S
 have hpm := fun a b => pw_mul hin a b
 rw [← hm] at hr1 bg hadj hw1
 have y1 := bg.cell (j := 1) rfl
 have hSz : ((S : Int) == 0) = false := by simp; omega
 have HID := Lib.hid hid; clear hid
 have HADJ := Lib.hid hadj; clear hadj
 have HMUL := Lib.hid hmul; clear hmul
 have HPZ := Lib.hid hpz; clear hpz
 have HPO := Lib.hid hpo; clear hpo
 have HPM := Lib.hid hpm; clear hpm
 have HR1 := Lib.hid hr1; clear hr1
 have BG := Lib.hid bg; clear bg
 have BR := Lib.hid br; clear br
 have S0 := Lib.hid s0; clear s0
 have HM := Lib.hid hm; clear hm
 clear hr
 go_enter Tryz.func41, Tryz.ntmps41
 rw [← HM.out]
 go_wp2_with fail
 go_at_call 78
 refine (HID.out _).mono ?_
 rintro e w2 ⟨hq, b2, rfl, hm2⟩
 have s2 := S0.out.trans (hq.mono S0.out.size)
 have bg2 := BG.out.keep hq
 have br2 := BR.out.keep hq
 have hr2 := HR1.out.below hq (Nat.le_refl _)
 rw [HPZ.out] at hm2
 clear y1 hw1
 have y0 := bg2.cell (j := 0) rfl
 have y1 := bg2.cell (j := 1) rfl
 have y2 := bg2.cell (j := 2) rfl
 have S2 := Lib.hid s2; clear s2
 have BG2 := Lib.hid bg2; clear bg2
 have BR2 := Lib.hid br2; clear br2
 have HR2 := Lib.hid hr2; clear hr2
 have HM2 := Lib.hid hm2; clear hm2
 clear hq
 go_wp2_with fail
 go_at_call 52
 refine (HADJ.out _ _ HR2.out).mono ?_
 rintro e w3 ⟨hq, b3, rfl, hm3⟩
 have s3 := S2.out.trans (hq.mono S2.out.size)
 have br3 := BR2.out.keep hq
 have hP3 := (HM2.out.keep hq).mono (Nat.zero_le _)
 rw [HPO.out] at hm3
 have hQ3 := hm3.mono (Nat.zero_le _)
 have hrl3 := br3.lt
 have S3 := Lib.hid s3; clear s3
 have BR3 := Lib.hid br3; clear br3
 have HP3 := Lib.hid hP3; clear hP3
 have HQ3 := Lib.hid hQ3; clear hQ3
 clear hq hm3 y0 y1 y2
 go_wp2_with fail
 obtain ⟨wo, rfl⟩ : ∃ wo : World, wo = w3 := ⟨_, rfl⟩
 go_loopw [1, 5, 7] (fun n p q wr => ∃ (x a b bp bq : Nat), n = .int .i64 (x : Int) ∧ p = .slice (some ⟨bp, 0, none⟩) S S ∧ q = .slice (some ⟨bq, 0, none⟩) S S ∧ 1 ≤ b ∧ a + b * x = N ∧ Below wo.heap.size wo wr ∧ MatB 0 wr bp S (pwM es S a) ∧ MatB 0 wr bq S (pwM es S b)) (fun n _ _ _ => (intOf n).toNat)
 case atStart => exact ⟨N, 0, 1, b2, b3, rfl, rfl, rfl, Nat.le_refl _, by omega, Below.refl _ _, HP3.out, HQ3.out⟩
 case round =>
  obtain ⟨x, a, b, bp, bq, rfl, rfl, rfl, hb1, hinv, hbel, hP, hQ⟩ := hrel
  by_cases hx : 0 < x
  ·
   have hbx : b ≤ b * x := Nat.le_mul_of_pos_right b hx
   have hxz : (0 : Int) < (x : Int) := by omega
   have hxb : x ≤ b * x := Nat.le_mul_of_pos_left x hb1
   have hx4 : x ≤ 4096 := by omega
   have hdiv : ((x : Int)).tdiv 2 = ((x / 2 : Nat) : Int) := by rw [Int.tdiv_eq_ediv_of_nonneg (by omega)]; rfl
   by_cases hodd : x % 2 = 1
   ·
    have t0 : ((x : Int) % 2 == 1) = true := by simp; omega
    have hinv2 := half_inv hinv hodd
    have HP := Lib.hid hP; clear hP
    have HQ := Lib.hid hQ; clear hQ
    have HB := Lib.hid hbel; clear hbel
    have HINV := Lib.hid hinv2; clear hinv2
    go_wp2_with fail
    go_at_call 79
    refine (HMUL.out a b (by omega) (by omega) bp bq wr HP.out HQ.out).mono ?_
    rintro e w4 ⟨hq, bn, rfl, hmn⟩
    rw [HPM.out a b] at hmn
    have hb4 := HB.out.trans (hq.mono HB.out.size)
    have hP4 := hmn.mono (Nat.zero_le _)
    have hQ4 := HQ.out.keep hq
    have HP4 := Lib.hid hP4; clear hP4
    have HQ4 := Lib.hid hQ4; clear hQ4
    have HB4 := Lib.hid hb4; clear hb4
    clear hq hmn
    by_cases hx1 : 1 < x
    ·
     have hxz1 : (1 : Int) < (x : Int) := by omega
     have hb2 : b + b ≤ 4096 := by
      have : b * 2 ≤ b * x := Nat.mul_le_mul_left b (by omega)
      omega
     go_wp2_with fail
     go_at_call 79
     refine (HMUL.out b b (by omega) (by omega) bq bq w4 HQ4.out HQ4.out).mono ?_
     rintro e w5 ⟨hq, b5, rfl, hm5⟩
     rw [HPM.out b b] at hm5
     have hb5 := HB4.out.trans (hq.mono HB4.out.size)
     have hQ5 := hm5.mono (Nat.zero_le _)
     have hP5 := HP4.out.keep hq
     have HP5 := Lib.hid hP5; clear hP5
     have HQ5 := Lib.hid hQ5; clear hQ5
     have HB5 := Lib.hid hb5; clear hb5
     clear hq hm5
     go_wp2_with fail
     go_roundw
     case rel => exact ⟨x / 2, (a + b), b + b, bn, b5, by go_num, rfl, rfl, by omega, HINV.out, HB5.out, HP5.out, HQ5.out⟩
     case measure => simp [intOf]; omega
    ·
     obtain rfl : x = 1 := by omega
     have hxz1 : ¬ (1 : Int) < ((1 : Nat) : Int) := by omega
     go_wp2_with fail
     go_roundw
     case rel => exact ⟨0, (a + b), b, bn, bq, by go_num, rfl, rfl, by omega, by have := HINV.out; simpa using this, HB4.out, HP4.out, HQ4.out⟩
     case measure => simp [intOf]
   ·
    have t0 : ((x : Int) % 2 == 1) = false := by simp; omega
    have hodd0 : x % 2 = 0 := by omega
    have hinv2 := half_inv0 hinv hodd0
    have HP := Lib.hid hP; clear hP
    have HQ := Lib.hid hQ; clear hQ
    have HB := Lib.hid hbel; clear hbel
    have HINV := Lib.hid hinv2; clear hinv2
    by_cases hx1 : 1 < x
    ·
     have hxz1 : (1 : Int) < (x : Int) := by omega
     have hb2 : b + b ≤ 4096 := by
      have : b * 2 ≤ b * x := Nat.mul_le_mul_left b (by omega)
      omega
     go_wp2_with fail
     go_at_call 79
     refine (HMUL.out b b (by omega) (by omega) bq bq wr HQ.out HQ.out).mono ?_
     rintro e w5 ⟨hq, b5, rfl, hm5⟩
     rw [HPM.out b b] at hm5
     have hb5 := HB.out.trans (hq.mono HB.out.size)
     have hQ5 := hm5.mono (Nat.zero_le _)
     have hP5 := HP.out.keep hq
     have HP5 := Lib.hid hP5; clear hP5
     have HQ5 := Lib.hid hQ5; clear hQ5
     have HB5 := Lib.hid hb5; clear hb5
     clear hq hm5
     go_wp2_with fail
     go_roundw
     case rel => exact ⟨x / 2, a, b + b, bp, b5, by go_num, rfl, rfl, by omega, HINV.out, HB5.out, HP5.out, HQ5.out⟩
     case measure => simp [intOf]; omega
    ·
     omega
  ·
   obtain rfl : x = 0 := by omega
   obtain rfl : a = N := by omega
   have hPt := matB_tab hP (by omega) (by omega)
   have s4 := S3.out.trans (hbel.mono S3.out.size)
   have br4 := BR3.out.keep hbel
   have bs := Blk.new wr 28 [.bool false, .string ⟨#[]⟩]
   have hb0 : Below wr.heap.size wr (wr.alloc (.cells #[.bool false, .string ⟨#[]⟩] 28)) := (Below.refl _ _).alloc (Nat.le_refl _) _
   have hrl4 := br4.lt
   have HPT := Lib.hid hPt; clear hPt
   have S4 := Lib.hid s4; clear s4
   have BR4 := Lib.hid br4; clear br4
   have BS := Lib.hid bs; clear bs
   have HB0 := Lib.hid hb0; clear hb0
   clear hP hQ hbel
   rw [show ((0 : Nat) : Int) = 0 from rfl]
   go_wp2_with fail
   obtain ⟨wp, rfl⟩ : ∃ wp : World, wp = wr := ⟨_, rfl⟩
   go_loopw [46] (fun i wx => ∃ j : Nat, j ≤ S ∧ i = .int .i64 (j : Int) ∧ Below wp.heap.size wp wx ∧ Blk wx wp.heap.size 28 [.bool (ineg (trP es a j)), .string (imag (trP es a j))]) (fun i _ => S - (intOf i).toNat)
   case atStart =>
    have h0 : trP es a 0 = 0 := rfl
    exact ⟨0, Nat.zero_le _, rfl, HB0.out, by rw [h0, ineg_zero, imag_zero]; exact BS.out⟩
   case round =>
    obtain ⟨j, hj, rfl, hbx, hbs⟩ := hrel
    obtain ⟨wx, rfl⟩ : ∃ wx : World, wx = wr := ⟨_, rfl⟩
    by_cases hlt : j < S
    ·
     obtain ⟨rvs, h1, h2, h3⟩ := HPT.out
     rw [matF_length] at h2
     obtain ⟨b6, o6, he6, hb6, hc6⟩ := h2.at_ (by omega)
     obtain ⟨rfl, rfl⟩ : bp = b6 ∧ 0 = o6 := by simpa using he6
     obtain ⟨rv, g1, g2⟩ := h3 j _ (matF_get hlt)
     obtain ⟨ra, rc, rfl, -⟩ := g2.slice
     rw [List.length_map, List.length_range] at g2 g1
     obtain ⟨rb, ro, rfl, hrb, hcr⟩ := g2.at_ (by omega)
     have hz : ((List.range S).map (pwF es a j))[j]? = some (pwF es a j j) := by simp [hlt]
     have c0 := (hbx.cell (p := ⟨bp, 0 + j, none⟩) hb6).trans (hc6 j _ g1)
     obtain ⟨z0, z1⟩ := int_cells hcr hbx hrb hz
     rw [Nat.zero_add] at c0
     obtain ⟨X, hX⟩ : ∃ X, X = pwF es a j j := ⟨_, rfl⟩
     obtain ⟨T, hT⟩ : ∃ T, T = trP es a j := ⟨_, rfl⟩
     have hsu := trP_succ es a j
     have sX : sm (2 * a + 1) X := by rw [hX]; exact pw_sm hl a j j
     have sT : sm (2 * a + 2) T := by rw [hT]; exact trP_sm hl a j (by omega)
     rw [← hX] at z0 z1
     rw [← hX, ← hT] at hsu
     rw [← hT] at hbs
     have hadd := fun w' => iadd_any (ineg T) (ineg X) (imag T) (imag X) w' (Nat.le_trans sT.size (by omega)) (Nat.le_trans sX.size (by omega))
     simp only [ival_canon] at hadd
     have cN0 := hbs.cell (j := 0) rfl
     have cN1 := hbs.cell (j := 1) rfl
     have hix1 : (0 : Int) ≤ (j : Int) := by omega
     have hix2 : (j : Int) < (S : Int) := by omega
     have hbsl := hbs.lt
     have hne1 : ¬ rb = wp.heap.size := by omega
     have hne2 : ¬ wp.heap.size = rb := by omega
     clear h1 h2 h3 hc6 hcr g1 g2 hz hX hT sX sT he6
     have HSU := Lib.hid hsu; clear hsu
     have HADD := Lib.hid hadd; clear hadd
     have HBX := Lib.hid hbx; clear hbx
     have HBS := Lib.hid hbs; clear hbs
     go_wp2_with fail
     refine wp_region_held_drew (S := fun w' => w'.cell? ⟨rb, ro + j * 2, none⟩ = some (.bool (ineg X)) ∧ w'.cell? ⟨rb, ro + j * 2 + 1, none⟩ = some (.string (imag X))) (by kernel_rfl) ?_ (fun hHeld => ?_)
     ·
      go_keep
     refine zT 1 (h := ?_)
     (try simp only [Act.put, zA, zB, zC])
     refine zT 2 (h := ?_)
     (try simp only [Act.put, zA, zB, zC])
     refine zT 3 (h := ?_)
     (try simp only [Act.put, zA, zB, zC])
     refine zT 4 (h := ?_)
     (try simp only [Act.put, zA, zB, zC])
     refine zR 0 (h := fun K hK => ?_)
     go_simp
     refine hK.out _ _ ?_ (fun hHeld => ?_)
     ·
      ((try dsimp only); go_keep)
     clear hK K
     (try simp only [Act.put, zA, zB, zC])
     refine zR 5 (h := fun K hK => ?_)
     go_simp
     go_at_call 44
     refine (HADD.out _).mono ?_
     rintro e w5 ⟨hq, rfl⟩
     dsimp only
     have y0 := (hq.cell (p := ⟨rb, ro + j * 2, none⟩) (show rb < wx.heap.size by omega)).trans hHeld.1
     have y1 := (hq.cell (p := ⟨rb, ro + j * 2 + 1, none⟩) (show rb < wx.heap.size by omega)).trans hHeld.2
     refine hK.out _ _ ⟨y0, y1⟩ (fun hHeld2 => ?_)
     clear hK K y0 y1
     (try simp only [Act.put, zA, zB, zC])
     have n5 := Blk.keep (w := wx.drew) HBS.out hq
     have hb5 := HBX.out.drew.trans (hq.mono HBX.out.size)
     have f0 := n5.frozen 0
     have f1 := n5.frozen 1
     have d0 := n5.cell (j := 0) rfl
     have d1 := n5.cell (j := 1) rfl
     have hst := (n5.set 0 (.bool (ineg (T + X)))).set 1 (.string (imag (T + X)))
     have HST := Lib.hid hst; clear hst
     have HB5 := Lib.hid hb5; clear hb5
     clear hq cN0 cN1 n5
     refine zR 6 (h := fun K hK => ?_)
     go_simp
     refine hK.out _ _ ?_ (fun hHeld => ?_)
     ·
      ((try dsimp only); go_keep)
     clear hK K
     (try simp only [Act.put, zA, zB, zC])
     refine wpAnyH_done (by kernel_rfl) ?_ _
     (try simp only [List.getElem_toArray, List.getElem_cons_zero, List.getElem_cons_succ, Act.put, zA, zB, zC])
     clear hHeld hHeld2
     go_wp2_with fail
     go_roundw
     case rel => exact ⟨j + 1, by omega, by go_num, (HB5.out.setCell (p := ⟨wp.heap.size, 0, none⟩) (Nat.le_refl _) _).setCell (p := ⟨wp.heap.size, 1, none⟩) (Nat.le_refl _) _, by rw [HSU.out]; exact HST.out⟩
     case measure => simp [intOf]; omega
    ·
     obtain rfl : j = S := by omega
     have hcl : trP es a j = clN es j a := rfl
     rw [hcl] at hbs
     obtain ⟨Z, hZ⟩ : ∃ Z, Z = clN es j a := ⟨_, rfl⟩
     rw [← hZ] at hbs
     have z0 := hbs.cell (j := 0) rfl
     have z1 := hbs.cell (j := 1) rfl
     have hbr := BR4.out.keep hbx
     have f0 := hbr.frozen 0
     have f1 := hbr.frozen 1
     have d0 := hbr.cell (j := 0) rfl
     have d1 := hbr.cell (j := 1) rfl
     have s5 := S4.out.trans (hbx.mono S4.out.size)
     have HBR := Lib.hid hbr; clear hbr
     have S5 := Lib.hid s5; clear s5
     have HZ := Lib.hid hZ; clear hZ
     clear hbs hbx hcl
     go_wp2_with fail
     rw [← HZ.out]
     have e0 := ((HBR.out.set 0 (.bool (ineg Z))).set 1 (.string (imag Z))).cell (j := 0) rfl
     have e1 := ((HBR.out.set 0 (.bool (ineg Z))).set 1 (.string (imag Z))).cell (j := 1) rfl
     have s6 := (S5.out.setCell (p := ⟨w.heap.size + 1, 0, none⟩) (show w.heap.size ≤ w.heap.size + 1 by omega) (.bool (ineg Z))).setCell (p := ⟨w.heap.size + 1, 1, none⟩) (show w.heap.size ≤ w.heap.size + 1 by omega) (.string (imag Z))
     exact bodyPost_ret (v := IntV Z) (by simp [results, Tryz.results41, go_sem, e0, e1]) rfl ⟨s6, rfl⟩
end Go.Proofs.YthpgeeaccmgbkaaGreat

/- counting.Closed at valid graphs; closed at no states. -/
namespace Go.Proofs.YthpgeeaccmgbkaaGreat
open Go.RowKit

theorem clN_zero (es : List E3) (n : Nat) : clN es 0 n = 0 := rfl
set_option maxRecDepth 100000 in
set_option maxHeartbeats 3200000 in
theorem closed_none (L : Int) (N : Nat) (a : Option Addr) (m c : Nat) (w : World) :
  Calls Tryz.prog 41 #[.agg #[.int .i64 L, .int .i64 0, .slice a m c], .int .i64 (N : Int)] w (Ret w (IntV 0)) := by
 have s0 := ((Below.refl w.heap.size w).alloc (Nat.le_refl _) (.cells #[.int .i64 L, .int .i64 0, .slice a m c] 24)).alloc (by simp) (.cells #[.bool false, .string ⟨#[]⟩] 28)
 have bg := (Blk.new w 24 [.int .i64 L, .int .i64 0, .slice a m c]).alloc (.cells #[.bool false, .string ⟨#[]⟩] 28)
 have y1 := bg.cell (j := 1) rfl
 have S0 := Lib.hid s0; clear s0
 clear bg
 go_enter Tryz.func41, Tryz.ntmps41
 go_wp2_with fail
 have br := Blk.new (w.alloc (.cells #[.int .i64 L, .int .i64 0, .slice a m c] 24)) 28 [.bool false, .string ⟨#[]⟩]
 simp only [World.size_alloc] at br
 have e0 := br.cell (j := 0) rfl
 have e1 := br.cell (j := 1) rfl
 exact bodyPost_ret (v := IntV 0) (by simp [results, Tryz.results41, go_sem, e0, e1]; simp [IntV, ineg_zero, imag_zero]) rfl ⟨S0.out, rfl⟩
theorem closed_all (L : Int) (S N : Nat) (es : List E3) (v : Value) (w : World) (hr : Row w v es.length (ce es)) (hS : S ≤ 32) (hl : es.length ≤ 1024) (hin : InS S es) (hN : N ≤ 4096) :
  Calls Tryz.prog 41 #[.agg #[.int .i64 L, .int .i64 (S : Int), v], .int .i64 (N : Int)] w (Ret w (IntV (clN es S N))) := by
 rcases Nat.eq_zero_or_pos S with rfl | h0
 ·
  obtain ⟨va, vc, rfl, hle⟩ := hr.slice
  rw [clN_zero]
  exact closed_none L N va es.length vc w
 ·
  exact closed_any L S N es v w hr h0 hS hl hin hN
set_option maxRecDepth 100000 in
set_option maxHeartbeats 3200000 in
theorem Closed_ok (L : Int) (S N : Nat) (es : List E3) (v : Value) (w : World) (hr : Row w v es.length (ce es)) (hok : okEs es) (hc : chk L (S : Int) es = 0) (hS : S ≤ 32) (hN : N ≤ 4096) :
  Calls Tryz.prog 14 #[.agg #[.int .i64 L, .int .i64 (S : Int), v], .int .i64 (N : Int)] w (Ret w (.tuple #[IntV (clN es S N), .int .i64 0])) := by
 obtain ⟨va, vc, rfl, hle⟩ := hr.slice
 have hca := chk_all hc
 have hin := chk_inS hc
 have bg := (Blk.new w 24 [.int .i64 L, .int .i64 (S : Int), .slice va es.length vc]).alloc (.cells #[.bool false, .string ⟨#[]⟩] 28)
 have br := Blk.new (w.alloc (.cells #[.int .i64 L, .int .i64 (S : Int), .slice va es.length vc] 24)) 28 [.bool false, .string ⟨#[]⟩]
 have s0 := ((Below.refl w.heap.size w).alloc (Nat.le_refl _) (.cells #[.int .i64 L, .int .i64 (S : Int), .slice va es.length vc] 24)).alloc (by simp) (.cells #[.bool false, .string ⟨#[]⟩] 28)
 simp only [World.size_alloc] at br
 have hr1 := hr.below s0 (Nat.le_refl _)
 have hck := ccheck_ok0 L (S : Int) N es _ _ hr1 hok hc hN
 have hcl := fun w' h => closed_all L S N es (.slice va es.length vc) w' h hS hca.2.2.2.1 hin hN
 obtain ⟨Z, hZ⟩ : ∃ Z, Z = clN es S N := ⟨_, rfl⟩
 rw [← hZ] at hcl ⊢
 obtain ⟨m, hm⟩ : ∃ m, m = es.length := ⟨_, rfl⟩
 rw [← hm] at bg br s0 hr1 hck hcl
 have t0 : ¬ 32 < S := by omega
 have t1 : ¬ (32 : Int) < (S : Int) := by omega
 have HCK := Lib.hid hck; clear hck
 have HCL := Lib.hid hcl; clear hcl
 have HR1 := Lib.hid hr1; clear hr1
 have BG := Lib.hid bg; clear bg
 have BR := Lib.hid br; clear br
 have S0 := Lib.hid s0; clear s0
 have HM := Lib.hid hm; clear hm
 clear hr hca hin hok hc hZ
 go_enter Tryz.func14, Tryz.ntmps14
 rw [← HM.out]
 go_wp2_with fail
 go_at_call 32
 refine HCK.out.mono ?_
 rintro e w1 ⟨hq, rfl⟩
 have s1 := S0.out.trans (hq.mono S0.out.size)
 have bg1 := BG.out.keep hq
 have br1 := BR.out.keep hq
 have hr2 := HR1.out.below hq (Nat.le_refl _)
 have y0 := bg1.cell (j := 0) rfl
 have y1 := bg1.cell (j := 1) rfl
 have y2 := bg1.cell (j := 2) rfl
 have S1 := Lib.hid s1; clear s1
 have BR1 := Lib.hid br1; clear br1
 have HR2 := Lib.hid hr2; clear hr2
 clear hq bg1
 go_wp2_with fail
 go_at_call 41
 refine (HCL.out _ HR2.out).mono ?_
 rintro e w2 ⟨hq, rfl⟩
 have s2 := S1.out.trans (hq.mono S1.out.size)
 have br2 := BR1.out.keep hq
 have f0 := br2.frozen 0
 have f1 := br2.frozen 1
 have d0 := br2.cell (j := 0) rfl
 have d1 := br2.cell (j := 1) rfl
 have S2 := Lib.hid s2; clear s2
 have BR2 := Lib.hid br2; clear br2
 clear hq y0 y1 y2
 go_wp2_with fail
 have e0 := ((BR2.out.set 0 (.bool (ineg Z))).set 1 (.string (imag Z))).cell (j := 0) rfl
 have e1 := ((BR2.out.set 0 (.bool (ineg Z))).set 1 (.string (imag Z))).cell (j := 1) rfl
 have s6 := (S2.out.setCell (p := ⟨w.heap.size + 1, 0, none⟩) (show w.heap.size ≤ w.heap.size + 1 by omega) (.bool (ineg Z))).setCell (p := ⟨w.heap.size + 1, 1, none⟩) (show w.heap.size ≤ w.heap.size + 1 by omega) (.string (imag Z))
 exact bodyPost_ret (v := .tuple #[IntV Z, .int .i64 0]) (by simp [results, Tryz.results14, go_sem, e0, e1]) rfl ⟨s6, rfl⟩
end Go.Proofs.YthpgeeaccmgbkaaGreat

/- counting.divisors as an iterator; counting.check with a least length; sums over divisors. -/
namespace Go.Proofs.YthpgeeaccmgbkaaGreat
open Go.RowKit Go.Shelf

attribute [local go_sem] Oper.semAt_some

set_option maxHeartbeats 1000000 in
theorem divs_in (F : Fence) (n : Nat) (h5 : F.fn 43) (hro : F.round = none) (N : Nat) (w : World) :
  CallsIn F n Tryz.prog 43 #[.int .i64 (N : Int)] w fun e w' => e = .returned (.func (.func 80) #[] #[.pointer (some ⟨w.heap.size, 0, none⟩)]) ∧ w' = w.alloc (.cells #[.int .i64 (N : Int)] 3) := by
 refine callsIn_of_wp Tryz.func43 rfl h5 ?_ hro
 simp only [Tryz.ntmps43, List.size_toArray, List.length_cons, List.length_nil, Nat.reduceAdd, Nat.reduceSub, Array.replicate_succ, Array.replicate_zero, List.push_toArray, List.append_toArray, List.nil_append, List.cons_append]
 gi_wp2
 go_ret
 exact ⟨rfl, rfl⟩
theorem divs_stops (n : Nat) (hn : 1 ≤ n) (Bn N : Nat) (hN : N ≤ 100000) (w0 w : World) {α : Type} (en : α → Nat × Int) (L : List α) (hL : L.map en = divL N N) (hBn : Bn < w.heap.size) (hs : w.cell? ⟨Bn, 0, none⟩ = some (.int .i64 (N : Int))) :
  SeqStopsK Fence.wide n Tryz.prog 80 #[.pointer (some ⟨Bn, 0, none⟩)] (fun x : α => #[Value.int .i64 (((en x).1 : Nat) : Int), Value.int .i64 (en x).2]) (cKpS w0.heap.size Bn Bn) (fun ys => ys = L) (fun _ => True) (divL N N).length w :=
 fun l J Jx W hW hJ _ hY h0 =>
  divs1_in n hn l Bn N hN W.heap.size w0 en L hL J Jx hJ hY W (Nat.le_refl _) (Nat.lt_of_lt_of_le hBn hW.size) ((hW.cell (p := ⟨Bn, 0, none⟩) hBn).trans hs) h0
set_option maxRecDepth 100000 in
set_option maxHeartbeats 3200000 in
theorem ccheck_lo (L S : Int) (n lo : Nat) (es : List E3) (v : Value) (w : World) (hr : Row w v es.length (ce es)) (hok : okEs es) (hc : chk L S es = 0) (hlo : lo ≤ n) (hn : n ≤ 4096) :
  Calls Tryz.prog 32 #[.agg #[.int .i64 L, .int .i64 S, v], .int .i64 (lo : Int), .int .i64 (n : Int)] w (Ret w (.int .i64 0)) := by
 have s0 := (Below.refl w.heap.size w).alloc (Nat.le_refl _) (.cells #[.int .i64 L, .int .i64 S, v] 24)
 have hck := check_any L S es v _ (hr.below s0 (Nat.le_refl _)) hok
 rw [hc] at hck
 have t1 : decide ((n : Int) < (lo : Int)) = false := decide_eq_false (by omega)
 have t2 : decide (4096 < (n : Int)) = false := decide_eq_false (by omega)
 have t3 : ¬ (n : Int) < (lo : Int) := by omega
 have b0 := Blk.new w 24 [.int .i64 L, .int .i64 S, v]
 have x0 := b0.cell (j := 0) rfl
 have x1 := b0.cell (j := 1) rfl
 have x2 := b0.cell (j := 2) rfl
 have HCK := Lib.hid hck; clear hck
 have S0 := Lib.hid s0; clear s0
 clear hr hok hc b0
 go_enter Tryz.func32, Tryz.ntmps32
 go_wp2_with fail
 go_at_call 31
 refine HCK.out.mono ?_
 rintro e w1 ⟨hq, rfl⟩
 have HQ := Lib.hid hq; clear hq
 go_wp2_with fail
 go_ret
 exact ⟨S0.out.trans (HQ.out.mono S0.out.size), rfl⟩
structure DivIt (N : Nat) where
 x : Nat × Int
 d1 : 1 ≤ x.1
 dN : x.1 ≤ N
 s1 : -1 ≤ x.2
 s2 : x.2 ≤ 1
theorem divL_in (N : Nat) : ∃ L : List (DivIt N), L.map (fun x => x.x) = divL N N := by
 have hp : ∀ x ∈ divL N N, 1 ≤ x.1 ∧ x.1 ≤ N ∧ -1 ≤ x.2 ∧ x.2 ≤ 1 := fun x hx => by
  obtain ⟨j, hj, rfl⟩ := List.mem_map.1 hx
  have := List.mem_range.1 (List.mem_filter.1 hj).1
  have := mu_le (N / (j + 1))
  exact ⟨by simp, by simp; omega, this.1, this.2⟩
 generalize divL N N = l at hp
 induction l with
 | nil => exact ⟨[], rfl⟩
 | cons a l ih =>
  obtain ⟨L, hL⟩ := ih (fun x hx => hp x (by simp [hx]))
  obtain ⟨h1, h2, h3, h4⟩ := hp a (by simp)
  exact ⟨⟨a, h1, h2, h3, h4⟩ :: L, by rw [List.map_cons, hL]⟩
theorem divL_length_le (N j : Nat) : (divL N j).length ≤ j := by
 unfold divL
 rw [List.length_map]
 exact Nat.le_trans (List.length_filter_le _ _) (by simp)
/-- The sum over divisors, as far as it is built. -/
def oS {α : Type} (f : Nat → Int) (en : α → Nat × Int) (pre : List α) : Int := (pre.map fun x => (en x).2 * f (en x).1).sum
theorem oS_snoc {α : Type} (f : Nat → Int) (en : α → Nat × Int) (pre : List α) (x : α) : oS f en (pre ++ [x]) = oS f en pre + (en x).2 * f (en x).1 := by
 simp [oS]
theorem oS_sm {p N : Nat} {f : Nat → Int} (hf : ∀ d, d ≤ N → sm p (f d)) (hN : N ≤ 4096) (pre : List (DivIt N)) (hl : pre.length ≤ N) : sm (p + 2) (oS f (fun x : DivIt N => x.x) pre) := by
 have h1 : ∀ z ∈ (pre.map fun x => x.x.2 * f x.x.1), sm p z := fun z hz => by
  obtain ⟨x, -, rfl⟩ := List.mem_map.1 hz
  have h := hf x.x.1 x.dN
  have hs1 := x.s1
  have hs2 := x.s2
  unfold sm at *
  rw [Int.natAbs_mul]
  have : x.x.2.natAbs ≤ 1 := by omega
  calc x.x.2.natAbs * (f x.x.1).natAbs ≤ 1 * (f x.x.1).natAbs := Nat.mul_le_mul_right _ this
   _ < 256 ^ p := by omega
 have h2 := sm_sum h1
 rw [List.length_map] at h2
 show ((pre.map fun x : DivIt N => x.x.2 * f x.x.1).sum).natAbs < 256 ^ (p + 2)
 have h3 : 256 ^ (p + 2) = 65536 * 256 ^ p := by rw [Nat.pow_add, Nat.mul_comm]
 have h4 : 0 < 256 ^ p := Nat.pow_pos (by decide)
 have h5 : pre.length * 256 ^ p ≤ 4096 * 256 ^ p := Nat.mul_le_mul_right _ (by omega)
 rw [h3]
 omega
theorem clN_sm {es : List E3} (hl : es.length ≤ 1024) {S : Nat} (hS : S ≤ 32) {n N : Nat} (hn : n ≤ N) : sm (2 * N + 2) (clN es S n) := by
 refine sm_sum' (p := 2 * N + 1) (fun z hz => ?_) (by simp; omega)
 obtain ⟨k, -, rfl⟩ := List.mem_map.1 hz
 have h1 := cw_nonneg es (ind (k : Int)) n (k : Int)
 have h2 := cw_le_len es (ind (k : Int)) n (k : Int)
 have h3 : es.length ^ n ≤ (256 ^ 2) ^ n := Nat.pow_le_pow_left (by omega) n
 rw [← Nat.pow_mul] at h3
 unfold sm
 have h4 : 256 ^ (2 * n) < 256 ^ (2 * N + 1) := Nat.pow_lt_pow_right (by decide) (by omega)
 omega
end Go.Proofs.YthpgeeaccmgbkaaGreat


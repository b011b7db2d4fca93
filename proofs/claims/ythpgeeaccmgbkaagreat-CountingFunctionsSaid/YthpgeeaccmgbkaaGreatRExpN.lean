/- grooveref22.Expand, where it answers: den begins with -1 (printed by gen_rexp.py). -/
import Derived.Test.YthpgeeaccmgbkaaGreatPart18
import Derived.Test.YthpgeeaccmgbkaaGreatPart15
import Derived.Test.YthpgeeaccmgbkaaGreatRMul
import Derived.Test.YthpgeeaccmgbkaaGreatRNeg
import Derived.Test.YthpgeeaccmgbkaaGreatPart17
namespace Go.Proofs.YthpgeeaccmgbkaaGreat
open Go.RowKit

set_option maxRecDepth 100000 in
set_option maxHeartbeats 8000000 in
theorem rexpand_neg (p n : Nat) (N D : List Int) (v1 v2 : Value) (w : World) (hr1 : Row w v1 N.length (civ N)) (hr2 : Row w v2 D.length (civ D)) (hN : ∀ z ∈ N, sm p z) (hD : ∀ z ∈ D, sm p z) (hp : p ≤ 100) (hl1 : N.length ≤ 65) (hl2 : D.length ≤ 65)
  (h0 : D[0]? = some (-1)) (hn : n ≤ 4096) :
  Calls Tryz.prog 23 #[v1, v2, .int .i64 (n : Int)] w (ExpRet n (exL N D n) w) := by
 have hone : one2 (D.getD 0 0) := by rw [List.getD_eq_getElem?_getD, h0]; simp [one2]
 have hD0 : D.getD 0 0 = -1 := by rw [List.getD_eq_getElem?_getD, h0]; rfl
 have hlp : 0 < D.length := by
  rcases D with _ | ⟨x, t⟩
  ·
   cases h0
  ·
   simp
 have hck := fun (z : Int) w' (h : sm p z) => rcheck01_any (ineg z) (imag z) w' (Nat.le_trans h.size (by omega))
 simp only [cnB_can, chkZ] at hck
 have hNX : ∀ k, k < N.length → ∃ z, N[k]? = some z ∧ sm p z := fun k hk => ⟨N[k], List.getElem?_eq_getElem hk, hN _ (List.getElem_mem hk)⟩
 have hDX : ∀ k, k < D.length → ∃ z, D[k]? = some z ∧ sm p z := fun k hk => ⟨D[k], List.getElem?_eq_getElem hk, hD _ (List.getElem_mem hk)⟩
 obtain ⟨va, vc, rfl, hle1⟩ := hr1.slice
 obtain ⟨vb, vd, rfl, hle2⟩ := hr2.slice
 have hxs := exL_sm hN hD hl2 hone
 have hes := fun (k j : Nat) (hj : j ≤ 255) => ecc_sm hN hD (hxs k) k hj
 have hex : ∀ k, exL N D (k + 1) = exL N D k ++ [ecc N D (exL N D k) k (exT D k) * (-1)] := fun k => by rw [exL, hD0]
 have hxl := exL_length N D
 have heT : ∀ k, exT D k = min (D.length - 1) k := fun k => rfl
 have hDg : ∀ j, j < D.length → ∃ z, D[j]? = some z ∧ D.getD j 0 = z ∧ sm p z := fun j hj => ⟨D[j], List.getElem?_eq_getElem hj, by rw [List.getD_eq_getElem?_getD, List.getElem?_eq_getElem hj]; rfl, hD _ (List.getElem_mem hj)⟩
 have hNg : ∀ k, (k < N.length → ∃ z, N[k]? = some z ∧ ecc N D (exL N D k) k 0 = z) ∧ (¬ k < N.length → ecc N D (exL N D k) k 0 = 0) := fun k => by
  rw [ecc_zero, List.getD_eq_getElem?_getD]
  refine ⟨fun hk => ⟨N[k], List.getElem?_eq_getElem hk, by rw [List.getElem?_eq_getElem hk]; rfl⟩, fun hk => by rw [List.getElem?_eq_none (by omega)]; rfl⟩
 have hog : ∀ k d, d < k → ∃ z, (exL N D k)[d]? = some z ∧ (exL N D k).getD d 0 = z ∧ sm ((p + 2) * k) z := fun k d hd => by
  have hd2 : d < (exL N D k).length := by rw [exL_length]; exact hd
  exact ⟨(exL N D k)[d], List.getElem?_eq_getElem hd2, by rw [List.getD_eq_getElem?_getD, List.getElem?_eq_getElem hd2]; rfl, hxs k _ (List.getElem_mem hd2)⟩
 have hsu := fun (k j : Nat) => ecc_succ N D (exL N D k) k j
 obtain ⟨m1, hm1⟩ : ∃ m, m = N.length := ⟨_, rfl⟩
 obtain ⟨m2, hm2⟩ : ∃ m, m = D.length := ⟨_, rfl⟩
 rw [← hm1] at hr1 hNX hl1 ⊢
 rw [← hm2] at hr2 hDX hl2 hlp ⊢
 simp only [← hm1] at hNg
 simp only [← hm2] at heT hDg
 have t1 : decide (65 < (m1 : Int)) = false := by simp; omega
 have t2 : decide (65 < (m2 : Int)) = false := by simp; omega
 have t3 : ((m2 : Int) == 0) = false := by simp; omega
 have t4 : decide ((n : Int) < 0) = false := by simp
 have t5 : decide (4096 < (n : Int)) = false := by simp; omega
 have hof1 := fun w' => rof_any 1 w' (by decide) (by decide)
 have hof2 := fun w' => rof_any (-1) w' (by decide) (by decide)
 obtain ⟨b, off, rfl, hbw, hce⟩ := hr2.at_ (by omega)
 have HCE := Lib.hid hce; clear hce
 have hn1 : ∀ w', (binOp .neq 28 (.agg #[.bool (ineg (-1)), .string (imag (-1))]) (.agg #[.bool (ineg 1), .string (imag 1)])).run Tryz.prog w' = .ok (.bool true) w' := fun w' => (neq_int (-1) 1 w').trans rfl
 have hn2 : ∀ w', (binOp .neq 28 (.agg #[.bool (ineg (-1)), .string (imag (-1))]) (.agg #[.bool (ineg (-1)), .string (imag (-1))])).run Tryz.prog w' = .ok (.bool false) w' := fun w' => (neq_int (-1) (-1) w').trans rfl
 have HCK := Lib.hid hck; clear hck
 have HNX := Lib.hid hNX; clear hNX
 have HDX := Lib.hid hDX; clear hDX
 have HR1 := Lib.hid hr1; clear hr1
 have HR2 := Lib.hid hr2; clear hr2
 have HXS := Lib.hid hxs; clear hxs
 have HES := Lib.hid hes; clear hes
 have HEX := Lib.hid hex; clear hex
 have HXL := Lib.hid hxl; clear hxl
 have HET := Lib.hid heT; clear heT
 have HDG := Lib.hid hDg; clear hDg
 have HNG := Lib.hid hNg; clear hNg
 have HOG := Lib.hid hog; clear hog
 have HSU := Lib.hid hsu; clear hsu
 have H0 := Lib.hid h0; clear h0
 have HOF1 := Lib.hid hof1; clear hof1
 have HOF2 := Lib.hid hof2; clear hof2
 clear hN hD hone hD0 hm1 hm2
 go_enter Tryz.func23, Tryz.ntmps23
 go_wp2_with fail
 go_loopw [8] (fun i wr => ∃ k : Nat, k ≤ m1 ∧ i = .int .i64 (k : Int) ∧ Below w.heap.size w wr) (fun i _ => m1 - (intOf i).toNat)
 case atStart => exact ⟨0, Nat.zero_le _, rfl, Below.refl _ _⟩
 case round =>
  obtain ⟨ka, hkka, rfl, hbel⟩ := hrel
  by_cases hltka : ka < m1
  ·
   have tk : decide ((ka : Int) < (m1 : Int)) = true := by simp; omega
   obtain ⟨z, hz, hzs⟩ := HNX.out ka hltka
   obtain ⟨b1', o1', rfl, hb1', hc1'⟩ := HR1.out.at_ (by omega)
   obtain ⟨q0, q1⟩ := int_cells hc1' hbel hb1' hz
   clear hc1'
   have hix1 : (0 : Int) ≤ (ka : Int) := by omega
   have hix2 : (ka : Int) < (m1 : Int) := by omega
   have hck := fun w' => HCK.out z w' hzs
   have HCKZ := Lib.hid hck; clear hck
   have HBEL := Lib.hid hbel; clear hbel
   clear hz hzs
   go_wp2_with fail
   go_at_call 62
   refine (HCKZ.out _).mono ?_
   rintro e wk ⟨hq, rfl⟩
   have hb2 := HBEL.out.trans (hq.mono HBEL.out.size)
   have HB2 := Lib.hid hb2; clear hb2
   clear hq q0 q1
   go_wp2_with fail
   go_roundw
   case rel => exact ⟨ka + 1, by omega, by go_num, HB2.out⟩
   case measure => simp [intOf]; omega
  ·
   have tkka : decide ((ka : Int) < (m1 : Int)) = false := by simp; omega
   obtain ⟨wa, rfl⟩ : ∃ wa : World, wa = wr := ⟨_, rfl⟩
   have HBA := Lib.hid hbel; clear hbel
   go_wp2_with fail
   go_loopw [9] (fun i wr => ∃ k : Nat, k ≤ m2 ∧ i = .int .i64 (k : Int) ∧ Below w.heap.size w wr) (fun i _ => m2 - (intOf i).toNat)
   case atStart => exact ⟨0, Nat.zero_le _, rfl, HBA.out⟩
   case round =>
    obtain ⟨kb, hkkb, rfl, hbel⟩ := hrel
    by_cases hltkb : kb < m2
    ·
     have tk : decide ((kb : Int) < (m2 : Int)) = true := by simp; omega
     obtain ⟨z, hz, hzs⟩ := HDX.out kb hltkb
     obtain ⟨q0, q1⟩ := int_cells HCE.out hbel hbw hz
     have hix1 : (0 : Int) ≤ (kb : Int) := by omega
     have hix2 : (kb : Int) < (m2 : Int) := by omega
     have hck := fun w' => HCK.out z w' hzs
     have HCKZ := Lib.hid hck; clear hck
     have HBEL := Lib.hid hbel; clear hbel
     clear hz hzs
     go_wp2_with fail
     go_at_call 62
     refine (HCKZ.out _).mono ?_
     rintro e wk ⟨hq, rfl⟩
     have hb2 := HBEL.out.trans (hq.mono HBEL.out.size)
     have HB2 := Lib.hid hb2; clear hb2
     clear hq q0 q1
     go_wp2_with fail
     go_roundw
     case rel => exact ⟨kb + 1, by omega, by go_num, HB2.out⟩
     case measure => simp [intOf]; omega
    ·
     have tkkb : decide ((kb : Int) < (m2 : Int)) = false := by simp; omega
     obtain ⟨w2, rfl⟩ : ∃ w2 : World, w2 = wr := ⟨_, rfl⟩
     have s2 := hbel
     obtain ⟨c0, c1⟩ := int_cells HCE.out s2 hbw H0.out
     rw [Nat.zero_mul, Nat.add_zero] at c0
     rw [Nat.zero_mul] at c1
     have hbw2 : b < w2.heap.size := by have := s2.size; omega
     have sW := (Below.refl w2.heap.size w2).drew
     have S2 := Lib.hid s2; clear s2
     clear hbel
     go_wp2_with fail
     refine wp_region_held_drew (S := fun w' => w'.cell? ⟨b, off, none⟩ = some (.bool (ineg (-1))) ∧ w'.cell? ⟨b, off + (0 + 1), none⟩ = some (.string (imag (-1)))) (by kernel_rfl) ?_ (fun hHeld => ?_)
     ·
      go_keep
     refine zT 0 (h := ?_)
     (try simp only [Act.put, zA, zB, zC])
     refine zT 1 (h := ?_)
     (try simp only [Act.put, zA, zB, zC])
     refine zT 2 (h := ?_)
     (try simp only [Act.put, zA, zB, zC])
     refine zT 3 (h := ?_)
     (try simp only [Act.put, zA, zB, zC])
     refine zT 4 (h := ?_)
     (try simp only [Act.put, zA, zB, zC])
     refine zT 5 (h := ?_)
     (try simp only [Act.put, zA, zB, zC])
     refine zT 6 (h := ?_)
     (try simp only [Act.put, zA, zB, zC])
     refine zR 7 (h := fun K hK => ?_)
     rw [if_pos (by kernel_rfl)]
     go_simp
     go_at_call 49
     refine (HOF1.out _).mono ?_
     rintro e' wa21 ⟨hq, rfl⟩
     dsimp only
     have z0 := (hq.cell (p := ⟨b, off, none⟩) (show b < w2.heap.size by omega)).trans hHeld.1
     have z1 := (hq.cell (p := ⟨b, off + (0 + 1), none⟩) (show b < w2.heap.size by omega)).trans hHeld.2
     refine hK.out _ _ ⟨z0, z1⟩ (fun hH22 => ?_)
     clear hK K z0  z1
     (try simp only [Act.put, zA, zB, zC])
     have sa23 : Below w2.heap.size w2 wa21 := sW.trans (hq.mono sW.size)
     clear hq
     have hlwa21 : w2.heap.size ≤ wa21.heap.size := sa23.size
     refine zT 8 (h := ?_)
     (try simp only [Act.put, zA, zB, zC])
     refine zT 9 (h := ?_)
     (try simp only [Act.put, zA, zB, zC])
     refine zT 10 (h := ?_)
     (try simp only [Act.put, zA, zB, zC])
     refine zT 11 (h := ?_)
     (try simp only [Act.put, zA, zB, zC])
     refine zT 12 (h := ?_)
     (try simp only [Act.put, zA, zB, zC])
     refine zR 13 (h := fun K hK => ?_)
     rw [if_pos (by kernel_rfl)]
     go_simp
     go_at_call 49
     refine (HOF2.out _).mono ?_
     rintro e' wa25 ⟨hq, rfl⟩
     dsimp only
     have z0 := (hq.cell (p := ⟨b, off, none⟩) (show b < wa21.heap.size by omega)).trans hH22.1
     have z1 := (hq.cell (p := ⟨b, off + (0 + 1), none⟩) (show b < wa21.heap.size by omega)).trans hH22.2
     refine hK.out _ _ ⟨z0, z1⟩ (fun hH26 => ?_)
     clear hK K z0  z1
     (try simp only [Act.put, zA, zB, zC])
     have sa27 : Below w2.heap.size w2 wa25 := sa23.trans (hq.mono sa23.size)
     clear hq
     have hlwa25 : w2.heap.size ≤ wa25.heap.size := sa27.size
     refine zT 14 (h := ?_)
     (try simp only [Act.put, zA, zB, zC])
     refine zT 15 (h := ?_)
     (try simp only [Act.put, zA, zB, zC])
     refine zT 16 (h := ?_)
     (try simp only [Act.put, zA, zB, zC])
     refine wpAnyH_done (by kernel_rfl) ?_ _
     (try simp only [List.getElem_toArray, List.getElem_cons_zero, List.getElem_cons_succ, Act.put, zA, zB, zC])
     have s3 := S2.out.trans (sa27.mono S2.out.size)
     obtain ⟨w3, hw3⟩ : ∃ w3, w3 = wa25 := ⟨_, rfl⟩
     rw [← hw3] at s3
     (try rw [← hw3])
     have S3 := Lib.hid s3; clear s3
     clear hw3 c0 c1 hbw2
     have hmd := World.ownsRow_made w3 (#[] : Array Value) 0 (base := w.heap.size) (e := 28) (size := 2) S3.out.size (Nat.zero_le _) rfl
     have s4 := S3.out.alloc S3.out.size (.cells #[] 28)
     obtain ⟨w4, hw4⟩ : ∃ w4, w3.alloc (.cells #[] 28) = w4 := ⟨_, rfl⟩
     rw [hw4] at hmd s4
     have HMD := Lib.hid hmd; clear hmd
     have S4 := Lib.hid s4; clear s4
     go_wp2_with fail
     (try rw [hw4])
     clear hw4
     go_loopw [10, 11] (fun u i wr => ∃ k : Nat, k ≤ n ∧ i = .int .i64 k ∧ wr.ownsRow w.heap.size 28 2 u k (civ (exL N D k)) ∧ Below w.heap.size w wr) (fun _ i _ => n - (intOf i).toNat)
     case atStart => exact ⟨0, Nat.zero_le _, rfl, HMD.out, S4.out⟩
     case round =>
      obtain ⟨k, hk, rfl, hown, hbel⟩ := hrel
      obtain ⟨wo, rfl⟩ : ∃ wo : World, wo = wr := ⟨_, rfl⟩
      obtain ⟨ua, ucap, rfl⟩ := own_slice hown
      by_cases hkn : k < n
      ·
       have tk : decide ((k : Int) < (n : Int)) = true := by simp; omega
       obtain ⟨hN1, hN2⟩ := HNG.out k
       have hix1 : (0 : Int) ≤ (k : Int) := by omega
       -- the box, and its first value
       obtain ⟨x0, hx0⟩ : ∃ x, x = ecc N D (exL N D k) k 0 := ⟨_, rfl⟩
       have hszo : w.heap.size ≤ wo.heap.size := hbel.size
       have bx := Blk.new wo 28 [.bool false, .string ⟨#[]⟩]
       have sx := (Below.refl wo.heap.size wo).alloc (Nat.le_refl _) (.cells #[.bool false, .string ⟨#[]⟩] 28)
       have hrow := own_row hown
       have HOWN := Lib.hid hown; clear hown
       have HBEL := Lib.hid hbel; clear hbel
       have HROW := Lib.hid hrow; clear hrow
       by_cases hkl : k < m1
       case' pos =>
        have tl : decide ((k : Int) < (m1 : Int)) = true := by simp; omega
        have hix2 : (k : Int) < (m1 : Int) := by omega
        obtain ⟨z, hz1, hz2⟩ := hN1 hkl
        rw [← hx0] at hz2
        obtain ⟨b1, o1, rfl, hb1o, hbc1⟩ := HR1.out.at_ (by omega)
        obtain ⟨q0, q1⟩ := int_cells hbc1 (HBEL.out.trans (sx.mono hszo)) hb1o hz1
        rw [← hz2] at q0 q1
        have bw := Blk.new wo 28 [.bool (ineg x0), .string (imag x0)]
        have sw := (Below.refl wo.heap.size wo).alloc (Nat.le_refl _) (.cells #[.bool (ineg x0), .string (imag x0)] 28)
        have f0 := bx.frozen 0
        have f1 := bx.frozen 1
        have g0 := bx.cell (j := 0) rfl
        have g1 := bx.cell (j := 1) rfl
        rw [hx0] at bw sw
        have BW := Lib.hid bw; clear bw
        have SW0 := Lib.hid sw; clear sw
        clear hN1 hN2 hz1 hz2 hbc1 sx bx
        go_wp2_with fail
       case' neg =>
        have tl : decide ((k : Int) < (m1 : Int)) = false := by simp; omega
        have hz2 := hN2 hkl
        have bw : Blk (wo.alloc (.cells #[.bool false, .string ⟨#[]⟩] 28)) wo.heap.size 28 [.bool (ineg (ecc N D (exL N D k) k 0)), .string (imag (ecc N D (exL N D k) k 0))] := by
         rw [hz2, ineg_zero, imag_zero]; exact bx
        have sw := sx
        have BW := Lib.hid bw; clear bw
        have SW0 := Lib.hid sw; clear sw
        clear hN1 hN2 sx bx hz2
        go_wp2_with fail
       all_goals
        go_loopw [13] (fun i wv => ∃ t : Nat, 1 ≤ t ∧ t ≤ exT D k + 1 ∧ i = .int .i64 (t : Int) ∧ Below wo.heap.size wo wv ∧ Blk wv wo.heap.size 28 [.bool (ineg (ecc N D (exL N D k) k (t - 1))), .string (imag (ecc N D (exL N D k) k (t - 1)))]) (fun i _ => exT D k + 2 - (intOf i).toNat)
        case atStart => exact ⟨1, Nat.le_refl _, by omega, rfl, SW0.out, BW.out⟩
        case round =>
         obtain ⟨t, ht1, htT, rfl, hbe, hblk⟩ := hrel
         obtain ⟨wv, rfl⟩ : ∃ wv : World, wv = wr := ⟨_, rfl⟩
         have hTT := HET.out k
         have hvs := hbe.size
         have hbl := hblk.lt
         by_cases hjT : t ≤ exT D k
         ·
          have tj1 : decide ((t : Int) < (m2 : Int)) = true := by simp; omega
          have tj2 : decide ((t : Int) ≤ (k : Int)) = true := by simp; omega
          obtain ⟨j, hj⟩ : ∃ j, t = j + 1 := ⟨t - 1, by omega⟩
          obtain ⟨d, hd⟩ : ∃ d, d + t = k := ⟨k - t, by omega⟩
          obtain ⟨y, hy1, hy2, hy3⟩ := HDG.out t (by omega)
          obtain ⟨z, hz1, hz2, hz3⟩ := HOG.out k d (by omega)
          have hsu := HSU.out k j
          rw [← hj, hy2, show k - t = d by omega, hz2] at hsu
          rw [show t - 1 = j by omega] at hblk
          have hMs := HES.out k j (by omega)
          obtain ⟨M, hM⟩ : ∃ M, M = ecc N D (exL N D k) k j := ⟨_, rfl⟩
          rw [← hM] at hsu hMs hblk
          have hMS := hsu.symm
          have hk4 : (p + 2) * k ≤ 102 * 4096 := Nat.mul_le_mul (by omega) (by omega)
          have hmul := fun w' => rmul_any y z w' (Nat.le_trans hy3.size (by omega)) (Nat.le_trans hz3.size (by omega))
          have hyz := hy3.mul hz3
          have hsub := fun w' => rsub_any M (y * z) w' (Nat.le_trans hMs.size (by omega)) (Nat.le_trans hyz.size (by omega))
          obtain ⟨q2, q3⟩ := int_cells HCE.out (HBEL.out.trans (hbe.mono hszo)) hbw hy1
          obtain ⟨b3, o3, rfl, hb3o, hbc3⟩ := HROW.out.at_ (by omega)
          obtain ⟨q4, q5⟩ := int_cells hbc3 hbe hb3o hz1
          have hb1v : b < wv.heap.size := by omega
          have hb3v : b3 < wv.heap.size := by omega
          have n1 : ¬ wo.heap.size = b := by omega
          have n2 : ¬ b = wo.heap.size := by omega
          have n3 : ¬ wo.heap.size = b3 := by omega
          have n4 : ¬ b3 = wo.heap.size := by omega
          have hi1 : (0 : Int) ≤ (t : Int) := by omega
          have hi2 : (t : Int) < (m2 : Int) := by omega
          have hi3 : (0 : Int) ≤ (d : Int) := by omega
          have hi4 : (d : Int) < (k : Int) := by omega
          have hdd : (k : Int) - (t : Int) = (d : Int) := by omega
          have hwd : IntKind.i64.wrap (d : Int) = (d : Int) := IntWalk.i64_in _ (by omega)
          have cN0 := hblk.cell (j := 0) rfl
          have cN1 := hblk.cell (j := 1) rfl
          have fr0 := hblk.frozen 0
          have fr1 := hblk.frozen 1
          have nV := hblk.drew
          have sV := (Below.refl wv.heap.size wv).drew
          have HJ := Lib.hid hj; clear hj
          have HD := Lib.hid hd; clear hd
          have HBE := Lib.hid hbe; clear hbe
          have HMS := Lib.hid hMS; clear hMS
          have HMUL := Lib.hid hmul; clear hmul
          have HSUB := Lib.hid hsub; clear hsub
          clear hsu hMs hM hyz hy1 hy2 hy3 hz1 hz2 hz3 hbc3 hblk hk4 hTT
          go_wp2_with fail
          refine wp_region_held_drew (S := fun w' => w'.cell? ⟨b, off + t * 2, none⟩ = some (.bool (ineg y)) ∧ w'.cell? ⟨b, off + t * 2 + 1, none⟩ = some (.string (imag y)) ∧ w'.cell? ⟨b3, o3 + d * 2, none⟩ = some (.bool (ineg z)) ∧ w'.cell? ⟨b3, o3 + d * 2 + 1, none⟩ = some (.string (imag z))) (by kernel_rfl) ?_ (fun hHeld => ?_)
          ·
           go_keep
          refine zT 1 (h := ?_)
          (try simp only [Act.put, zA, zB, zC])
          refine zT 2 (h := ?_)
          (try simp only [Act.put, zA, zB, zC])
          refine zT 3 (h := ?_)
          (try simp only [Act.put, zA, zB, zC])
          refine zT 4 (h := ?_)
          (try simp only [Act.put, zA, zB, zC])
          refine zT 5 (h := ?_)
          (try simp only [Act.put, zA, zB, zC])
          refine zT 6 (h := ?_)
          (try simp only [Act.put, zA, zB, zC])
          refine zT 7 (h := ?_)
          (try simp only [Act.put, zA, zB, zC])
          refine zT 8 (h := ?_)
          (try simp only [Act.put, zA, zB, zC])
          refine zT 9 (h := ?_)
          (try simp only [Act.put, zA, zB, zC])
          refine zT 10 (h := ?_)
          (try simp only [Act.put, zA, zB, zC])
          refine wpAnyH_ready (rs := [0, 11]) (by kernel_rfl) (by simp) ?_
          refine AllReadyH.cons rfl (fun K hK => ?_) (AllReadyH.cons rfl (fun K hK => ?_) (AllReadyH.nil))
          ·
           go_simp
           refine hK.out _ _ ?_ (fun hH1 => ?_)
           ·
            ((try dsimp only); go_keep)
           clear hK K
           (try simp only [Act.put, zA, zB, zC])
           refine zR 11 (h := fun K hK => ?_)
           go_simp
           go_at_call 48
           refine (HMUL.out _).mono ?_
           rintro e' wa2 ⟨hq, rfl⟩
           dsimp only
           have z0 := (hq.cell (p := ⟨b, off + t * 2, none⟩) (show b < wv.heap.size by omega)).trans hH1.1
           have z1 := (hq.cell (p := ⟨b, off + t * 2 + 1, none⟩) (show b < wv.heap.size by omega)).trans hH1.2.1
           have z2 := (hq.cell (p := ⟨b3, o3 + d * 2, none⟩) (show b3 < wv.heap.size by omega)).trans hH1.2.2.1
           have z3 := (hq.cell (p := ⟨b3, o3 + d * 2 + 1, none⟩) (show b3 < wv.heap.size by omega)).trans hH1.2.2.2
           refine hK.out _ _ ⟨z0, z1, z2, z3⟩ (fun hH3 => ?_)
           clear hK K z0  z1  z2  z3
           (try simp only [Act.put, zA, zB, zC])
           have sa4 : Below wv.heap.size wv wa2 := sV.trans (hq.mono sV.size)
           have na5 := Blk.keep (w := wv.drew) nV hq
           clear hq
           have hlwa2 : wv.heap.size ≤ wa2.heap.size := sa4.size
           clear cN0 cN1
           have cN0 := na5.cell (j := 0) rfl
           have cN1 := na5.cell (j := 1) rfl
           have fr0 := na5.frozen 0
           have fr1 := na5.frozen 1
           refine zR 12 (h := fun K hK => ?_)
           go_simp
           go_at_call 47
           refine (HSUB.out _).mono ?_
           rintro e' wa6 ⟨hq, rfl⟩
           dsimp only
           have z0 := (hq.cell (p := ⟨b, off + t * 2, none⟩) (show b < wa2.heap.size by omega)).trans hH3.1
           have z1 := (hq.cell (p := ⟨b, off + t * 2 + 1, none⟩) (show b < wa2.heap.size by omega)).trans hH3.2.1
           have z2 := (hq.cell (p := ⟨b3, o3 + d * 2, none⟩) (show b3 < wa2.heap.size by omega)).trans hH3.2.2.1
           have z3 := (hq.cell (p := ⟨b3, o3 + d * 2 + 1, none⟩) (show b3 < wa2.heap.size by omega)).trans hH3.2.2.2
           refine hK.out _ _ ⟨z0, z1, z2, z3⟩ (fun hH7 => ?_)
           clear hK K z0  z1  z2  z3
           (try simp only [Act.put, zA, zB, zC])
           have sa8 : Below wv.heap.size wv wa6 := sa4.trans (hq.mono sa4.size)
           have na9 := Blk.keep (w := wa2) na5 hq
           clear hq
           have hlwa6 : wv.heap.size ≤ wa6.heap.size := sa8.size
           clear cN0 cN1
           have cN0 := na9.cell (j := 0) rfl
           have cN1 := na9.cell (j := 1) rfl
           have fr0 := na9.frozen 0
           have fr1 := na9.frozen 1
           refine zR 13 (h := fun K hK => ?_)
           go_simp
           refine hK.out _ _ ?_ (fun hH10 => ?_)
           ·
            ((try dsimp only); go_keep)
           clear hK K
           (try simp only [Act.put, zA, zB, zC])
           refine wpAnyH_done (by kernel_rfl) ?_ _
           (try simp only [List.getElem_toArray, List.getElem_cons_zero, List.getElem_cons_succ, Act.put, zA, zB, zC])
           go_wp2_with fail
           go_roundw
           case rel => exact ⟨t + 1, by omega, by omega, by go_num, ((HBE.out.trans (sa8.mono HBE.out.size)).setCell (p := ⟨wo.heap.size, 0, none⟩) (Nat.le_refl _) _).setCell (p := ⟨wo.heap.size, 1, none⟩) (Nat.le_refl _) _, by rw [show t + 1 - 1 = t by omega, ← HMS.out]; exact (na9.set 0 _).set 1 _⟩
           case measure => simp [intOf]; omega
          ·
           go_simp
           go_at_call 48
           refine (HMUL.out _).mono ?_
           rintro e' wa11 ⟨hq, rfl⟩
           dsimp only
           have z0 := (hq.cell (p := ⟨b, off + t * 2, none⟩) (show b < wv.heap.size by omega)).trans hHeld.1
           have z1 := (hq.cell (p := ⟨b, off + t * 2 + 1, none⟩) (show b < wv.heap.size by omega)).trans hHeld.2.1
           have z2 := (hq.cell (p := ⟨b3, o3 + d * 2, none⟩) (show b3 < wv.heap.size by omega)).trans hHeld.2.2.1
           have z3 := (hq.cell (p := ⟨b3, o3 + d * 2 + 1, none⟩) (show b3 < wv.heap.size by omega)).trans hHeld.2.2.2
           refine hK.out _ _ ⟨z0, z1, z2, z3⟩ (fun hH12 => ?_)
           clear hK K z0  z1  z2  z3
           (try simp only [Act.put, zA, zB, zC])
           have sa13 : Below wv.heap.size wv wa11 := sV.trans (hq.mono sV.size)
           have na14 := Blk.keep (w := wv.drew) nV hq
           clear hq
           have hlwa11 : wv.heap.size ≤ wa11.heap.size := sa13.size
           clear cN0 cN1
           have cN0 := na14.cell (j := 0) rfl
           have cN1 := na14.cell (j := 1) rfl
           have fr0 := na14.frozen 0
           have fr1 := na14.frozen 1
           refine zR 0 (h := fun K hK => ?_)
           go_simp
           refine hK.out _ _ ?_ (fun hH15 => ?_)
           ·
            ((try dsimp only); go_keep)
           clear hK K
           (try simp only [Act.put, zA, zB, zC])
           refine zR 12 (h := fun K hK => ?_)
           go_simp
           go_at_call 47
           refine (HSUB.out _).mono ?_
           rintro e' wa16 ⟨hq, rfl⟩
           dsimp only
           have z0 := (hq.cell (p := ⟨b, off + t * 2, none⟩) (show b < wa11.heap.size by omega)).trans hH15.1
           have z1 := (hq.cell (p := ⟨b, off + t * 2 + 1, none⟩) (show b < wa11.heap.size by omega)).trans hH15.2.1
           have z2 := (hq.cell (p := ⟨b3, o3 + d * 2, none⟩) (show b3 < wa11.heap.size by omega)).trans hH15.2.2.1
           have z3 := (hq.cell (p := ⟨b3, o3 + d * 2 + 1, none⟩) (show b3 < wa11.heap.size by omega)).trans hH15.2.2.2
           refine hK.out _ _ ⟨z0, z1, z2, z3⟩ (fun hH17 => ?_)
           clear hK K z0  z1  z2  z3
           (try simp only [Act.put, zA, zB, zC])
           have sa18 : Below wv.heap.size wv wa16 := sa13.trans (hq.mono sa13.size)
           have na19 := Blk.keep (w := wa11) na14 hq
           clear hq
           have hlwa16 : wv.heap.size ≤ wa16.heap.size := sa18.size
           clear cN0 cN1
           have cN0 := na19.cell (j := 0) rfl
           have cN1 := na19.cell (j := 1) rfl
           have fr0 := na19.frozen 0
           have fr1 := na19.frozen 1
           refine zR 13 (h := fun K hK => ?_)
           go_simp
           refine hK.out _ _ ?_ (fun hH20 => ?_)
           ·
            ((try dsimp only); go_keep)
           clear hK K
           (try simp only [Act.put, zA, zB, zC])
           refine wpAnyH_done (by kernel_rfl) ?_ _
           (try simp only [List.getElem_toArray, List.getElem_cons_zero, List.getElem_cons_succ, Act.put, zA, zB, zC])
           go_wp2_with fail
           go_roundw
           case rel => exact ⟨t + 1, by omega, by omega, by go_num, ((HBE.out.trans (sa18.mono HBE.out.size)).setCell (p := ⟨wo.heap.size, 0, none⟩) (Nat.le_refl _) _).setCell (p := ⟨wo.heap.size, 1, none⟩) (Nat.le_refl _) _, by rw [show t + 1 - 1 = t by omega, ← HMS.out]; exact (na19.set 0 _).set 1 _⟩
           case measure => simp [intOf]; omega
         ·
          have htE : t = exT D k + 1 := by omega
          have hMs := HES.out k (exT D k) (by omega)
          have hex := HEX.out k
          rw [show t - 1 = exT D k by omega] at hblk
          obtain ⟨M, hM⟩ : ∃ M, M = ecc N D (exL N D k) k (exT D k) := ⟨_, rfl⟩
          rw [← hM] at hMs hblk hex
          have hk4 : (p + 2) * k ≤ 102 * 4096 := Nat.mul_le_mul (by omega) (by omega)
          have hmul := fun w' => rmul_any M (-1) w' (Nat.le_trans hMs.size (by omega)) (Nat.le_trans (show sm 1 (-1) by unfold sm; decide).size (by decide))
          obtain ⟨X, hX⟩ : ∃ X, X = M * (-1) := ⟨_, rfl⟩
          simp only [← hX] at hmul
          rw [← hX] at hex
          have hciv : civ (exL N D (k + 1)) = civ (exL N D k) ++ [.bool (ineg X), .string (imag X)] := by rw [hex]; exact civ_snoc _ _
          have hnb := hblk
          have HNB := Lib.hid hnb; clear hnb
          obtain ⟨q2, q3⟩ := int_cells HCE.out (HBEL.out.trans (hbe.mono hszo)) hbw H0.out
          rw [Nat.zero_mul, Nat.add_zero] at q2
          rw [Nat.zero_mul] at q3
          have hoV := (own_below HOWN.out hbe).drew
          have hi5 : (0 : Int) < (m2 : Int) := by omega
          have hb1v : b < wv.heap.size := by omega
          have q0 := hblk.cell (j := 0) rfl
          have q1 := hblk.cell (j := 1) rfl
          have hbV := HBEL.out.trans (hbe.mono hszo)
          have sV := (Below.refl wv.heap.size wv).drew
          have HOV := Lib.hid hoV; clear hoV
          have HMUL := Lib.hid hmul; clear hmul
          have HCIV := Lib.hid hciv; clear hciv
          have HBV := Lib.hid hbV; clear hbV
          have HBE := Lib.hid hbe; clear hbe
          clear hMs hM hex hblk hk4 htE hX
          by_cases htm : t < m2
          case' pos =>
           have tj1 : decide ((t : Int) < (m2 : Int)) = true := by simp; omega
           have tj2 : decide ((t : Int) ≤ (k : Int)) = false := by simp; omega
           have tj3 : ¬ (t : Int) ≤ (k : Int) := by omega
           have tj4 : (k : Int) < (t : Int) := by omega
           have tj5 : (t : Int) < (m2 : Int) := by omega
           clear hTT
           go_wp2_with fail
          case' neg =>
           have tj1 : decide ((t : Int) < (m2 : Int)) = false := by simp; omega
           have tj3 : ¬ (t : Int) < (m2 : Int) := by omega
           have tj4 : (m2 : Int) ≤ (t : Int) := by omega
           clear hTT
           go_wp2_with fail
          all_goals
           refine wp_region_held_drew (S := fun w' => w'.cell? ⟨wo.heap.size, 0, none⟩ = some (.bool (ineg M)) ∧ w'.cell? ⟨wo.heap.size, 1, none⟩ = some (.string (imag M)) ∧ w'.cell? ⟨b, off, none⟩ = some (.bool (ineg (-1))) ∧ w'.cell? ⟨b, off + (0 + 1), none⟩ = some (.string (imag (-1)))) (by kernel_rfl) ?_ (fun hHeld => ?_)
           ·
            go_keep
           refine zT 0 (h := ?_)
           (try simp only [Act.put, zA, zB, zC])
           refine zT 1 (h := ?_)
           (try simp only [Act.put, zA, zB, zC])
           refine zT 2 (h := ?_)
           (try simp only [Act.put, zA, zB, zC])
           refine zT 3 (h := ?_)
           (try simp only [Act.put, zA, zB, zC])
           refine zT 4 (h := ?_)
           (try simp only [Act.put, zA, zB, zC])
           refine zR 5 (h := fun K hK => ?_)
           go_simp
           go_at_call 48
           refine (HMUL.out _).mono ?_
           rintro e' wM ⟨hq, rfl⟩
           dsimp only
           have z0 := (hq.cell (p := ⟨wo.heap.size, 0, none⟩) (show wo.heap.size < wv.heap.size by omega)).trans hHeld.1
           have z1 := (hq.cell (p := ⟨wo.heap.size, 1, none⟩) (show wo.heap.size < wv.heap.size by omega)).trans hHeld.2.1
           have z2 := (hq.cell (p := ⟨b, off, none⟩) (show b < wv.heap.size by omega)).trans hHeld.2.2.1
           have z3 := (hq.cell (p := ⟨b, off + (0 + 1), none⟩) (show b < wv.heap.size by omega)).trans hHeld.2.2.2
           refine hK.out _ _ ⟨z0, z1, z2, z3⟩ (fun hHd => ?_)
           clear hK K z0 z1 z2 z3 q0 q1 q2 q3
           (try simp only [Act.put, zA, zB, zC])
           have oM := own_below HOV.out hq
           have sM : Below wv.heap.size wv wM := sV.trans hq
           have bM := HBV.out.trans (sM.mono HBV.out.size)
           have nM := HNB.out.keep sM
           have hMl := sM.size
           have hMw := bM.size
           clear hq
           have oA := oM.alloc (.cells #[.bool (ineg X), .string (imag X)] 28)
           have bA := bM.alloc bM.size (.cells #[.bool (ineg X), .string (imag X)] 28)
           have nA := nM.alloc (.cells #[.bool (ineg X), .string (imag X)] 28)
           have rA : Row (wM.alloc (.cells #[.bool (ineg X), .string (imag X)] 28)) (.slice (some ⟨wM.heap.size, 0, none⟩) 1 1) 1 [.bool (ineg X), .string (imag X)] := Row.ofBlk (Blk.new wM 28 [.bool (ineg X), .string (imag X)]) (m := 1) (cap := 1) (Nat.le_refl _) (by unfold maxLen; omega) 2
           refine zR 6 (h := fun K hK => ?_)
           go_simp
           refine hK.out _ _ ?_ (fun hHe => ?_)
           ·
            ((try dsimp only); go_keep)
           clear hK K
           (try simp only [Act.put, zA, zB, zC])
           refine zR 7 (h := fun K hK => ?_)
           refine step_append_row rfl _ _ 32 rfl w.heap.size 28 _ 2 24 Tryz.underlying32 infoZ rfl (by decide) _ k _ (by rfl) oA _ 1 _ (by rfl) rA rfl (by simp [Value.oneCell']) (by unfold maxLen; omega) (by omega) bA.size ?_
           intro v9 W9 own9 hg9
           have s9 : Below w.heap.size w W9 := bA.grown hg9 bA.size (fun j hj => (oA.lt j hj).1)
           have n9 := nA.grown hg9 (fun e => by have h9 := HOWN.out.lt _ e; omega)
           obtain ⟨p2, p3⟩ := int_cells HCE.out s9 hbw H0.out
           rw [Nat.zero_mul, Nat.add_zero] at p2
           rw [Nat.zero_mul] at p3
           refine hK.out _ _ ⟨n9.cell (j := 0) rfl, n9.cell (j := 1) rfl, p2, p3⟩ (fun hHf => ?_)
           clear hK K oA bA nA rA oM bM nM sM p2 p3 hHe hHd hHeld
           (try simp only [Act.put, zA, zB, zC])
           obtain ⟨a9, c9, rfl⟩ := own_slice own9
           have OWN9 := Lib.hid own9; clear own9
           have S9 := Lib.hid s9; clear s9
           clear n9 hg9
           refine zT 8 (h := ?_)
           (try simp only [Act.put, zA, zB, zC])
           refine wpAnyH_done (by kernel_rfl) ?_ _
           (try simp only [List.getElem_toArray, List.getElem_cons_zero, List.getElem_cons_succ, Act.put, zA, zB, zC])
           go_wp2_with fail
           go_roundw
           case rel => exact ⟨k + 1, by omega, by go_num, by rw [HCIV.out]; exact OWN9.out, S9.out⟩
           case measure => simp [intOf]; omega
      ·
       have tk : decide ((k : Int) < (n : Int)) = false := by simp; omega
       obtain rfl : k = n := by omega
       have HOWN := Lib.hid hown; clear hown
       have HBEL := Lib.hid hbel; clear hbel
       go_wp2_with fail
       go_ret2
       exact ⟨HBEL.out, _, rfl, HOWN.out⟩
end Go.Proofs.YthpgeeaccmgbkaaGreat

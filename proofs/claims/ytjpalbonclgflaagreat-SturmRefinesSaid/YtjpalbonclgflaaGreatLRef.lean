/- groovelaw05.SturmRefines is true (printed by gen_lref.py). -/
import Derived.Test.YtjpalbonclgflaaGreatPart16
import Derived.Test.YtjpalbonclgflaaGreatPart10
namespace Go.Proofs.YtjpalbonclgflaaGreat
open Go.RowKit

theorem cq_inj {a b : Rat} (h : ((ineg a.num == ineg b.num && imag a.num == imag b.num) && (ineg (a.den : Int) == ineg (b.den : Int) && imag (a.den : Int) == imag (b.den : Int))) = true) : a = b := by
 rw [eqZ_dec, eqZ_dec] at h
 simp only [Bool.and_eq_true, decide_eq_true_eq] at h
 have h2 := Rat.num_divInt_den a
 have h3 := Rat.num_divInt_den b
 rw [h.1, h.2, h3] at h2
 exact h2.symm
set_option maxRecDepth 100000 in
theorem eqIn_ivlD (a b c e a' b' c' e' : Bool) (s t u v s' t' u' v' : ByteArray) (w : World) : (Op.equalIn 10000 40 (.agg #[.bool a, .string s, .bool b, .string t, .bool c, .string u, .bool e, .string v]) (.agg #[.bool a', .string s', .bool b', .string t', .bool c', .string u', .bool e', .string v'])).run Tryz.prog w = .ok (((a == a' && s == s') && (b == b' && t == t')) && ((c == c' && u == u') && (e == e' && v == v'))) w := by
 have hk : ∀ fs, (Tryz.prog.fieldsOf 40).toList = fs → (Op.eqFields 9999 #[.bool a, .string s, .bool b, .string t, .bool c, .string u, .bool e, .string v] #[.bool a', .string s', .bool b', .string t', .bool c', .string u', .bool e', .string v'] fs).run Tryz.prog w = .ok (((a == a' && s == s') && (b == b' && t == t')) && ((c == c' && u == u') && (e == e' && v == v'))) w := by
  intro fs hfs
  have hm := ivFlds
  rw [hfs] at hm
  match fs, hm with
  | [f0, f1], hm =>
   simp only [List.map_cons, List.map_nil, List.cons.injEq, Prod.mk.injEq, and_true] at hm
   obtain ⟨⟨t0, o0, n0⟩, ⟨t1, o1, n1⟩⟩ := hm
   rw [beq_eq_false_iff_ne] at n0 n1
   have h1 := fun w => eqIn_ratD 9995 a b a' b' s t s' t' w
   have h2 := fun w => eqIn_ratD 9995 c e c' e' u v u' v' w
   obtain ⟨x, hx⟩ : ∃ x, x = ((a == a' && s == s') && (b == b' && t == t')) := ⟨_, rfl⟩
   obtain ⟨y, hy⟩ : ∃ y, y = ((c == c' && u == u') && (e == e' && v == v')) := ⟨_, rfl⟩
   rw [← hx] at h1 ⊢
   rw [← hy] at h2 ⊢
   simp only [Nat.reduceAdd] at h1 h2
   cases x <;> cases y <;> simp [Op.eqFields, n0, n1, t0, o0, t1, o1, partI0, partI4, h1, h2]
 exact (run_equalIn_struct (P := Tryz.prog) w 9999 40 _ _ ivType ivStood).trans (hk _ rfl)
set_option maxRecDepth 100000 in
set_option maxHeartbeats 12800000 in
theorem lrefines_true (r : List (Bool × ByteArray)) (v : Value) (m1 m2 : Nat) (w : World) (hr0 : Row w v r.length (cnv r)) (hm1 : m1 ≤ 255) (hm2 : m2 ≤ 255) :
  Calls Tryz.prog 5 #[v, .int .u8 (m1 : Int), .int .u8 (m2 : Int)] w (Ret w (.bool true)) := by
 have hfi := fine5_any r v w hr0
 unfold FineRet at hfi
 have HFI := zh hfi; clear hfi
 have HR00 := zh hr0; clear hr0
 go_enter Tryz.func5, Tryz.ntmps5
 go_wp2_with fail
 refine (HFI.out).mono ?_
 rintro e0 wF ⟨hq0, b, rfl, hb⟩
 dsimp only
 have hr1 := HR00.out.below hq0 (Nat.le_refl _)
 have HF0 := zh hq0; clear hq0
 cases b with
 | false =>
  clear hb hr1
  go_wp2_with fail
  refine (awake5_true _).mono ?_
  rintro e w2 ⟨hq, rfl⟩
  dsimp only
  have s2 := HF0.out.trans (hq.mono HF0.out.size)
  have S2 := zh s2; clear s2
  clear hq
  go_wp2_with fail
  go_ret
  exact ⟨S2.out, rfl⟩
 | true =>
 obtain ⟨⟨hg1, hg2⟩, hc1, hc2, hc3, hc4⟩ := hb rfl
 have hs : ∀ x ∈ vals r, zs 3 x := fun x hx => by
  obtain ⟨y, hy, rfl⟩ := List.mem_map.1 hx
  exact ival_sized (hg1 y hy) y.1
 have he : Ends (vals r) := by rw [← hc2]; exact tzI_ends _
 have hl : (vals r).length ≤ 8 := by rw [vals_length]; omega
 have hl0 : 0 < (vals r).length := by rw [vals_length]; exact hc3
 have hr : Row wF v (vals r).length (civ (vals r)) := by rw [vals_length, ← hc1]; exact hr1
 obtain ⟨l, hl9⟩ : ∃ l, l = vals r := ⟨_, rfl⟩
 rw [← hl9] at hs he hl hl0 hr
 clear hl9 hg1 hg2 hc1 hc2 hc3 hc4 hb hr1
 have hf := afine_of hl hl0 hs he
 obtain ⟨res, hres⟩ := T.iso_ex (m := 3) hf hl hs (by decide)
 have hfew := hres.few hf
 have hiso := fun w' h => sIsolate_any l v w' 8000000 800000000 res h hf (by decide) hfew hres.iso
 have hcn := fun a b w' h ha hb hab => count_ok l v a b w' 8000000 800000000 h hf (by decide) ha hb hab
 have hcm := fun a b w' ha hb => qcmp_ok a b w' 800000000 (by decide) ha hb
 have hsb := fun a b w' ha hb => qsub_ok a b w' 800000000 (by decide) ha hb
 have had := fun a b w' ha hb => qadd_ok a b w' 800000000 (by decide) ha hb
 have hrf := fun lo hi wd N w' h hwd hlt hw0 hroot hN hNw hNe hsw hsr => sRefine_any l v lo hi wd w' 8000000 800000000 N h hf (by decide) (by decide) hwd hlt hw0 hroot hN hNw hNe hsw hsr
 obtain ⟨n, hn⟩ : ∃ n, n = res.length := ⟨_, rfl⟩
 rw [← hn] at hfew
 obtain ⟨va, vc, rfl, -⟩ := hr.slice
 obtain ⟨nl, hnl⟩ : ∃ n, n = l.length := ⟨_, rfl⟩
 rw [← hnl] at hr hiso hcn hrf ⊢
 unfold IsoRet at hiso
 rw [← hn] at hiso
 have HRW := zh hr; clear hr
 have HISO := zh hiso; clear hiso
 have HCN := zh hcn; clear hcn
 have HCM := zh hcm; clear hcm
 have HSB := zh hsb; clear hsb
 have HAD := zh had; clear had
 have HRF := zh hrf; clear hrf
 have HRES := zh hres; clear hres
 have HN := zh hn; clear hn
 have hf9 := hf
 have HF9 := zh hf9; clear hf9
 clear hf hs he hl hl0 hnl
 have hi := HISO.out _ HRW.out
 have HI := zh hi; clear hi
 go_wp2_with fail
 refine (HI.out).mono ?_
 rintro e1 w5 ⟨hq5, vi, rfl, hvi⟩
 dsimp only
 have hF := HF0.out.trans (hq5.mono HF0.out.size)
 have hrw := HRW.out.below hq5 (Nat.le_refl _)
 obtain ⟨ai, ci, rfl, hlei⟩ := hvi.slice
 clear hq5 HISO HRW HF0
 have HF5 := zh hF; clear hF
 have HRW := zh hrw; clear hrw
 have HVI := zh hvi; clear hvi
 have tl := Below.refl w5.heap.size w5
 have HBL := zh tl; clear tl
 by_cases hn0 : n = 0
 ·
  subst hn0
  have hz0 : (((0 : Nat) : Int) == 0) = true := rfl
  go_wp2_with fail
  refine (awake5_true _).mono ?_
  rintro e w31 ⟨hq, rfl⟩
  dsimp only
  have tl := HBL.out.trans ((hq).mono HBL.out.size)
  clear HBL 
  have HBL := zh tl; clear tl
  clear hq
  go_wp2_with fail
  go_ret
  exact ⟨HF5.out.trans (HBL.out.mono HF5.out.size), rfl⟩
 ·
  have hnz : ((n : Int) == 0) = false := by simpa using hn0
  obtain ⟨k, hk⟩ : ∃ k, k = m1 % n := ⟨_, rfl⟩
  have hkn : k < n := by rw [hk]; exact Nat.mod_lt _ (by omega)
  have hkt : Int.tmod (m1 : Int) (n : Int) = (k : Int) := by rw [Int.tmod_eq_emod_of_nonneg (by omega), ← Int.natCast_emod, ← hk]
  obtain ⟨s, hs⟩ : ∃ s, s = m2 % 21 := ⟨_, rfl⟩
  have hs20 : s ≤ 20 := by omega
  have hst : Int.tmod (m2 : Int) 21 = (s : Int) := by rw [Int.tmod_eq_emod_of_nonneg (by omega), hs]; omega
  have hpw : (2 : Nat) ^ s ≤ 2 ^ 20 := Nat.pow_le_pow_right (by decide) hs20
  have hpz : 0 < (2 : Nat) ^ s := Nat.pow_pos (by decide)
  obtain ⟨pw, hpwe⟩ : ∃ p : Int, p = ((2 ^ s : Nat) : Int) := ⟨_, rfl⟩
  have hpwb : 1 ≤ pw ∧ pw ≤ 1048576 := by rw [hpwe]; omega
  have hrt := fun w' => lratio_any 1 pw w' (by decide) (by decide) (by omega) (by omega) (by omega)
  obtain ⟨wd, hwd⟩ : ∃ wd, wd = Rat.divInt 1 pw := ⟨_, rfl⟩
  rw [← hwd] at hrt
  have hpr : (0 : Rat) < (pw : Rat) := by
   have h9 := Rat.intCast_lt_intCast.2 (show (0 : Int) < pw by omega)
   exact h9
  have hwe : wd * (pw : Rat) = 1 := by
   rw [hwd, Rat.divInt_eq_div]
   have h9 := Rat.div_mul_cancel (a := ((1 : Int) : Rat)) (b := (pw : Rat)) (by grind)
   exact h9
  have hw2 : wd * (2 : Rat) ^ s = 1 := by rw [T.two_pow, ← hpwe]; exact hwe
  have hw0 : 0 < wd := by
   rw [hwd, Rat.divInt_eq_div]
   exact T.div_pos (by decide) hpr
  have hw3 : rs 3 wd := by
   rw [hwd]
   refine divInt_sized (zs_nat 1 3 (by decide)) ?_ (by decide)
   rw [hpwe]
   exact zs_nat _ _ (Nat.lt_of_le_of_lt hpw (by decide))
  have hwK : rs 800000000 wd := ⟨hw3.1.mono (by decide), hw3.2.mono (by decide)⟩
  clear hw3
  have hkl : k < res.length := by have := HN.out; omega
  have hget : res[k]? = some (res[k]'hkl) := List.getElem?_eq_getElem _
  obtain ⟨xx, hxx⟩ : ∃ xx, xx = res[k]'hkl := ⟨_, rfl⟩
  have hsz := HRES.out.sz _ (List.getElem_mem hkl)
  have hdy := HRES.out.dy _ (List.getElem_mem hkl)
  rw [← hxx] at hget hsz hdy
  obtain ⟨-, g2, g3, -⟩ := HRES.out.asc.get hget
  obtain ⟨b1, o1, rfl, hb1, hbc⟩ := HVI.out.at_ (by omega)
  have hcl := iv_cell hbc HBL.out hb1 hget
  obtain ⟨lo, hi⟩ := xx
  dsimp only at hsz hdy g2 g3
  obtain ⟨dj, dk, dj1, dk1, d1, d2, ab1, ab2⟩ := hdy
  obtain ⟨N, N1, N2, N3, N4, N5, N6, N7⟩ := T.refine_ok HF9.out g2 g3 dj1 dk1 hs20 d1 d2 ab1 ab2 hw2
  have hrr := T.rfn_facts HF9.out g2 g3 d1 d2 ab1 ab2 N
  have hrfc := fun w' h => HRF.out lo hi wd N w' h hwK g2 hw0 g3 N1 N2 N3 N4 N5
  have hszN := N5 N (Nat.le_refl _)
  obtain ⟨X, hX⟩ : ∃ X, X = rfn (stmA l) (lo, hi) N := ⟨_, rfl⟩
  rw [← hX] at hrr hszN N7
  simp only [← hX] at hrfc
  have hX0 : N = 0 → X = (lo, hi) := fun h => by rw [hX, h]; rfl
  obtain ⟨xl, xh⟩ := X
  dsimp only at hrr hszN N7 hX0
  obtain ⟨r1, r2, r3, r4, r5, -, -, -, -⟩ := hrr
  obtain ⟨sz, hsze⟩ : ∃ sz, sz = wds lo hi N := ⟨_, rfl⟩
  rw [← hsze] at r3 N6 N7 N3
  have hszK : rs 800000000 sz := by rw [hsze]; exact N4 N (Nat.le_refl _)
  have hct := fun w' h => HCN.out xl xh w' h hszN.1 hszN.2 (Rat.le_of_lt r4)
  rw [r5] at hct
  have hsub := fun w' => HSB.out xh xl w' hszN.2 hszN.1
  rw [r3] at hsub
  have hm1 := fun w' => HCM.out lo xl w' hsz.1 hszN.1
  have hm2 := fun w' => HCM.out xh hi w' hszN.2 hsz.2
  have hm3 := fun w' => HCM.out sz wd w' hszK hwK
  have c1 := (cmpq_le r1).1
  have c2 := (cmpq_le r2).1
  have c3 := (cmpq_le (Rat.not_lt.1 N3)).1
  obtain ⟨e1, he1⟩ : ∃ c, c = cmpq lo xl := ⟨_, rfl⟩
  obtain ⟨e2, he2⟩ : ∃ c, c = cmpq xh hi := ⟨_, rfl⟩
  obtain ⟨e3, he3⟩ : ∃ c, c = cmpq sz wd := ⟨_, rfl⟩
  rw [← he1] at hm1 c1
  rw [← he2] at hm2 c2
  rw [← he3] at hm3 c3
  have hadd := fun w' => HAD.out sz sz w' hszK hszK
  have hm4 := fun w' => HCM.out (sz + sz) wd w' N6 hwK
  have p0 := hcl 0 _ rfl
  have p1 := hcl 1 _ rfl
  have p2 := hcl 2 _ rfl
  have p3 := hcl 3 _ rfl
  have p4 := hcl 4 _ rfl
  have p5 := hcl 5 _ rfl
  have p6 := hcl 6 _ rfl
  have p7 := hcl 7 _ rfl
  dsimp only at p0 p1 p2 p3 p4 p5 p6 p7
  rw [Nat.add_zero] at p0
  have hix1 : (0 : Int) ≤ (k : Int) := by omega
  have hix2 : (k : Int) < (n : Int) := by omega
  have hwr1 : IntKind.i64.wrap (k : Int) = (k : Int) := IntWalk.i64_in _ (by omega)
  have hwr2 : IntKind.i64.wrap (m1 : Int) = (m1 : Int) := IntWalk.i64_in _ (by omega)
  have hp9 : pw = (2 : Int) ^ s := by rw [hpwe]; simp
  have hpw2 : IntKind.i64.wrap ((2 : Int) ^ s) = pw := by rw [← hp9]; exact IntWalk.i64_in _ (by omega)
  have HPW2 := zh hpw2; clear hpw2
  clear hp9 hpwe hpwb
  have HRT := zh hrt; clear hrt
  have HRFC := zh hrfc; clear hrfc
  have HCT := zh hct; clear hct
  have HSUB := zh hsub; clear hsub
  have HM1 := zh hm1; clear hm1
  have HM2 := zh hm2; clear hm2
  have HM3 := zh hm3; clear hm3
  have HM4 := zh hm4; clear hm4
  have HADD := zh hadd; clear hadd
  have HN7 := zh N7; clear N7
  have HX0 := zh hX0; clear hX0
  clear hcl hbc hget hxx hsz g2 g3 dj1 dk1 d1 d2 ab1 ab2 hw2 hwe hpr hw0 hwK N1 N2 N3 N4 N5 N6 hszN r1 r2 r3 r4 r5 hszK he1 he2 he3 hsze hX hkl hk hs hwd hpz hpw HRES HCN HCM HSB HAD HRF HF9
  go_wp2_with fail
  go_cut [9, 10] from 37 to 48 (fun p q wx => ∃ bi bw : Nat, p = .pointer (some ⟨bi, 0, none⟩) ∧ q = .pointer (some ⟨bw, 0, none⟩) ∧ bi ≠ bw ∧ w5.heap.size ≤ bi ∧ w5.heap.size ≤ bw ∧ Below w5.heap.size w5 wx ∧ Blk wx bi 40 [.bool (ineg lo.num), .string (imag lo.num), .bool (ineg (lo.den : Int)), .string (imag (lo.den : Int)), .bool (ineg hi.num), .string (imag hi.num), .bool (ineg (hi.den : Int)), .string (imag (hi.den : Int))] ∧ Blk wx bw 27 [.bool (ineg wd.num), .string (imag wd.num), .bool (ineg (wd.den : Int)), .string (imag (wd.den : Int))])
  case first =>
   have HBL := zh HBL.out.drew
   refine wp_region_held_drew (S := fun w' => w'.cell? ⟨b1, o1 + k * 8, none⟩ = some (.bool (ineg lo.num)) ∧ w'.cell? ⟨b1, o1 + k * 8 + 1, none⟩ = some (.string (imag lo.num)) ∧ w'.cell? ⟨b1, o1 + k * 8 + 2, none⟩ = some (.bool (ineg (lo.den : Int))) ∧ w'.cell? ⟨b1, o1 + k * 8 + 3, none⟩ = some (.string (imag (lo.den : Int))) ∧ w'.cell? ⟨b1, o1 + k * 8 + 4, none⟩ = some (.bool (ineg hi.num)) ∧ w'.cell? ⟨b1, o1 + k * 8 + 5, none⟩ = some (.string (imag hi.num)) ∧ w'.cell? ⟨b1, o1 + k * 8 + 6, none⟩ = some (.bool (ineg (hi.den : Int))) ∧ w'.cell? ⟨b1, o1 + k * 8 + 7, none⟩ = some (.string (imag (hi.den : Int)))) (by kernel_rfl) ?_ (fun hHeld0 => ?_)
   ·
    go_keep
   refine zT 0 (h := ?_)
   (try simp only [Act.put, zA, zB, zC])
   refine zT 1 (h := ?_)
   (try simp only [Act.put, zA, zB, zC])
   refine zT 2 (h := ?_)
   (try simp only [Act.put, zA, zB, zC])
   refine zT 3 (h := ?_)
   (try simp only [Act.put, zA, zB, zC])
   refine zT 4 (h := ?_)
   (try simp only [Act.put, zA, zB, zC])
   refine zT 5 (h := ?_)
   (try simp only [Act.put, zA, zB, zC])
   refine zT 6 (h := ?_)
   (try simp only [Act.put, zA, zB, zC])
   refine zT 7 (h := ?_)
   (try simp only [Act.put, zA, zB, zC])
   refine zT 8 (h := ?_)
   (try simp only [Act.put, zA, zB, zC])
   refine zT 9 (h := ?_)
   (try simp only [Act.put, zA, zB, zC])
   refine zT 10 (h := ?_)
   (try simp only [Act.put, zA, zB, zC])
   refine wpAnyH_ready (rs := [11, 12, 13]) (by kernel_rfl) (by simp) ?_
   refine (AllReadyH.cons rfl (fun K hK => ?_) (AllReadyH.cons rfl (fun K hK => ?_) (AllReadyH.cons rfl (fun K hK => ?_) AllReadyH.nil)))
   ·
    go_simp
    go_at_call 28
    rw [HPW2.out]
    refine (HRT.out _).mono ?_
    rintro e w61 ⟨hq, rfl⟩
    dsimp only
    have z0 := zK hq (Nat.lt_of_lt_of_le hb1 HBL.out.size) hHeld0.1
    have z1 := zK hq (Nat.lt_of_lt_of_le hb1 HBL.out.size) hHeld0.2.1
    have z2 := zK hq (Nat.lt_of_lt_of_le hb1 HBL.out.size) hHeld0.2.2.1
    have z3 := zK hq (Nat.lt_of_lt_of_le hb1 HBL.out.size) hHeld0.2.2.2.1
    have z4 := zK hq (Nat.lt_of_lt_of_le hb1 HBL.out.size) hHeld0.2.2.2.2.1
    have z5 := zK hq (Nat.lt_of_lt_of_le hb1 HBL.out.size) hHeld0.2.2.2.2.2.1
    have z6 := zK hq (Nat.lt_of_lt_of_le hb1 HBL.out.size) hHeld0.2.2.2.2.2.2.1
    have z7 := zK hq (Nat.lt_of_lt_of_le hb1 HBL.out.size) hHeld0.2.2.2.2.2.2.2
    refine hK.out _ _ ⟨z0, z1, z2, z3, z4, z5, z6, z7⟩ (fun hHeld1 => ?_)
    clear hK K hHeld0 z0 z1 z2 z3 z4 z5 z6 z7
    (try simp only [Act.put, zA, zB, zC])
    have tl := HBL.out.trans ((hq).mono HBL.out.size)
    clear HBL 
    have HBL := zh tl; clear tl
    clear hq
    refine wpAnyH_ready (rs := [12, 13]) (by kernel_rfl) (by simp) ?_
    refine (AllReadyH.cons rfl (fun K hK => ?_) (AllReadyH.cons rfl (fun K hK => ?_) AllReadyH.nil))
    ·
     go_simp
     refine hK.out _ _ ?_ (fun hHeld2 => ?_)
     ·
      ((try dsimp only); go_keep)
     clear hK K
     (try simp only [Act.put, zA, zB, zC])
     have hcs := HBL.out.size
     obtain ⟨b_i, hb_i⟩ : ∃ b, b = w61.heap.size := ⟨_, rfl⟩
     have hal : Below w61.heap.size w61 (w61.alloc (.cells #[.bool false, .string ⟨#[]⟩, .bool false, .string ⟨#[]⟩, .bool false, .string ⟨#[]⟩, .bool false, .string ⟨#[]⟩] 40)) := (Below.refl _ _).alloc (Nat.le_refl _) _
     have k_i : Blk (w61.alloc (.cells #[.bool false, .string ⟨#[]⟩, .bool false, .string ⟨#[]⟩, .bool false, .string ⟨#[]⟩, .bool false, .string ⟨#[]⟩] 40)) b_i 40 [.bool false, .string ⟨#[]⟩, .bool false, .string ⟨#[]⟩, .bool false, .string ⟨#[]⟩, .bool false, .string ⟨#[]⟩] := by rw [hb_i]; exact Blk.new w61 _ _
     have hge_i : w5.heap.size ≤ b_i := by rw [hb_i]; exact HBL.out.size
     have tl := HBL.out.trans ((hal).mono HBL.out.size)
     clear HBL 
     have HBL := zh tl; clear tl
     clear hal
     have HI := zh k_i; clear k_i
     (try simp only [World.size_drew, World.size_alloc] at hb_i)
     (try rw [← hb_i])
     have HB_i := zh hb_i; clear hb_i
     have hgi := hge_i
     have hpi : ¬ b1 = b_i := by omega
     have hqi : ¬ b_i = b1 := by omega
     refine wpAnyH_ready (rs := [13]) (by kernel_rfl) (by simp) ?_
     refine (AllReadyH.cons rfl (fun K hK => ?_) AllReadyH.nil)
     ·
      go_simp
      refine hK.out _ _ ?_ (fun hHeld3 => ?_)
      ·
       ((try dsimp only); go_keep)
      clear hK K
      (try simp only [Act.put, zA, zB, zC])
      have hcs := HBL.out.size
      have hlt_i := HI.out.lt
      obtain ⟨b_w, hb_w⟩ : ∃ b, b = (w61.alloc (.cells #[.bool false, .string ⟨#[]⟩, .bool false, .string ⟨#[]⟩, .bool false, .string ⟨#[]⟩, .bool false, .string ⟨#[]⟩] 40)).heap.size := ⟨_, rfl⟩
      have hal : Below (w61.alloc (.cells #[.bool false, .string ⟨#[]⟩, .bool false, .string ⟨#[]⟩, .bool false, .string ⟨#[]⟩, .bool false, .string ⟨#[]⟩] 40)).heap.size (w61.alloc (.cells #[.bool false, .string ⟨#[]⟩, .bool false, .string ⟨#[]⟩, .bool false, .string ⟨#[]⟩, .bool false, .string ⟨#[]⟩] 40)) ((w61.alloc (.cells #[.bool false, .string ⟨#[]⟩, .bool false, .string ⟨#[]⟩, .bool false, .string ⟨#[]⟩, .bool false, .string ⟨#[]⟩] 40)).alloc (.cells #[.bool false, .string ⟨#[]⟩, .bool false, .string ⟨#[]⟩] 27)) := (Below.refl _ _).alloc (Nat.le_refl _) _
      have k_w : Blk ((w61.alloc (.cells #[.bool false, .string ⟨#[]⟩, .bool false, .string ⟨#[]⟩, .bool false, .string ⟨#[]⟩, .bool false, .string ⟨#[]⟩] 40)).alloc (.cells #[.bool false, .string ⟨#[]⟩, .bool false, .string ⟨#[]⟩] 27)) b_w 27 [.bool false, .string ⟨#[]⟩, .bool false, .string ⟨#[]⟩] := by rw [hb_w]; exact Blk.new (w61.alloc (.cells #[.bool false, .string ⟨#[]⟩, .bool false, .string ⟨#[]⟩, .bool false, .string ⟨#[]⟩, .bool false, .string ⟨#[]⟩] 40)) _ _
      have hge_w : w5.heap.size ≤ b_w := by rw [hb_w]; exact HBL.out.size
      have far_i_w : b_i < b_w := by rw [hb_w]; exact hlt_i
      clear hlt_i
      have k_i := HI.out.keep hal
      have tl := HBL.out.trans ((hal).mono HBL.out.size)
      clear HBL HI
      have HI := zh k_i; clear k_i
      have HBL := zh tl; clear tl
      clear hal
      have HW := zh k_w; clear k_w
      (try simp only [World.size_drew, World.size_alloc] at hb_w)
      (try rw [← hb_w])
      have HB_w := zh hb_w; clear hb_w
      have hgw := hge_w
      have hpw : ¬ b1 = b_w := by omega
      have hqw : ¬ b_w = b1 := by omega
      have hne : b_i ≠ b_w := by omega
      have hne2 : ¬ b_w = b_i := by omega
      have hne3 : ¬ b_i = b_w := by omega
      refine wpAnyH_ready (rs := [14]) (by kernel_rfl) (by simp) ?_
      refine (AllReadyH.cons rfl (fun K hK => ?_) AllReadyH.nil)
      ·
       have k_i := HI.out
       obtain ⟨i_0, i_f0, i_1, i_f1, i_2, i_f2, i_3, i_f3, i_4, i_f4, i_5, i_f5, i_6, i_f6, i_7, i_f7⟩ := k_i.f8
       clear k_i
       go_simp
       refine hK.out _ _ ?_ (fun hHeld4 => ?_)
       ·
        ((try dsimp only); go_keep)
       clear hK K
       (try simp only [Act.put, zA, zB, zC])
       clear i_0 i_f0 i_1 i_f1 i_2 i_f2 i_3 i_f3 i_4 i_f4 i_5 i_f5 i_6 i_f6 i_7 i_f7
       obtain ⟨w62, hw_⟩ : ∃ x, x = ((((((((((w61.alloc (.cells #[.bool false, .string ⟨#[]⟩, .bool false, .string ⟨#[]⟩, .bool false, .string ⟨#[]⟩, .bool false, .string ⟨#[]⟩] 40)).alloc (.cells #[.bool false, .string ⟨#[]⟩, .bool false, .string ⟨#[]⟩] 27))).setCell ⟨b_i, 0, none⟩ (.bool (ineg lo.num))).setCell ⟨b_i, 1, none⟩ (.string (imag lo.num))).setCell ⟨b_i, 2, none⟩ (.bool (ineg (lo.den : Int)))).setCell ⟨b_i, 3, none⟩ (.string (imag (lo.den : Int)))).setCell ⟨b_i, 4, none⟩ (.bool (ineg hi.num))).setCell ⟨b_i, 5, none⟩ (.string (imag hi.num))).setCell ⟨b_i, 6, none⟩ (.bool (ineg (hi.den : Int)))).setCell ⟨b_i, 7, none⟩ (.string (imag (hi.den : Int))) := ⟨_, rfl⟩
       (try rw [← hw_])
       (try rw [← hw_] at hHeld4)
       have k_i : Blk w62 (b_i) 40 [.bool (ineg lo.num), .string (imag lo.num), .bool (ineg (lo.den : Int)), .string (imag (lo.den : Int)), .bool (ineg hi.num), .string (imag hi.num), .bool (ineg (hi.den : Int)), .string (imag (hi.den : Int))] := by rw [hw_]; exact HI.out.s8
       have k_w : Blk w62 (b_w) 27 [.bool false, .string ⟨#[]⟩, .bool false, .string ⟨#[]⟩] := by rw [hw_]; exact HW.out.o8 (by omega)
       have tl : Below w5.heap.size w5 w62 := by rw [hw_]; exact bc8 HBL.out (by omega)
       clear HBL hw_ HI HW
       have HI := zh k_i; clear k_i
       have HW := zh k_w; clear k_w
       have HBL := zh tl; clear tl
       refine wpAnyH_ready (rs := [15]) (by kernel_rfl) (by simp) ?_
       refine (AllReadyH.cons rfl (fun K hK => ?_) AllReadyH.nil)
       ·
        have k_w := HW.out
        obtain ⟨w_0, w_f0, w_1, w_f1, w_2, w_f2, w_3, w_f3⟩ := k_w.f4
        clear k_w
        go_simp
        refine hK.out _ _ ?_ (fun hHeld5 => ?_)
        ·
         ((try dsimp only); go_keep)
        clear hK K
        (try simp only [Act.put, zA, zB, zC])
        clear w_0 w_f0 w_1 w_f1 w_2 w_f2 w_3 w_f3
        obtain ⟨w63, hw_⟩ : ∃ x, x = ((((w62).setCell ⟨b_w, 0, none⟩ (.bool (ineg wd.num))).setCell ⟨b_w, 1, none⟩ (.string (imag wd.num))).setCell ⟨b_w, 2, none⟩ (.bool (ineg (wd.den : Int)))).setCell ⟨b_w, 3, none⟩ (.string (imag (wd.den : Int))) := ⟨_, rfl⟩
        (try rw [← hw_])
        (try rw [← hw_] at hHeld5)
        have k_i : Blk w63 (b_i) 40 [.bool (ineg lo.num), .string (imag lo.num), .bool (ineg (lo.den : Int)), .string (imag (lo.den : Int)), .bool (ineg hi.num), .string (imag hi.num), .bool (ineg (hi.den : Int)), .string (imag (hi.den : Int))] := by rw [hw_]; exact HI.out.o4 (by omega)
        have k_w : Blk w63 (b_w) 27 [.bool (ineg wd.num), .string (imag wd.num), .bool (ineg (wd.den : Int)), .string (imag (wd.den : Int))] := by rw [hw_]; exact HW.out.s4
        have tl : Below w5.heap.size w5 w63 := by rw [hw_]; exact bc4 HBL.out (by omega)
        clear HBL hw_ HI HW
        have HI := zh k_i; clear k_i
        have HW := zh k_w; clear k_w
        have HBL := zh tl; clear tl
        refine wpAnyH_done (by kernel_rfl) ?_ _
        (try simp only [List.getElem_toArray, List.getElem_cons_zero, List.getElem_cons_succ, Act.put, zA, zB, zC])
        go_wp2_with fail
        go_meet
        exact ⟨_, _, rfl, rfl, hne, hgi, hgw, HBL.out, HI.out, HW.out⟩
    ·
     go_simp
     refine hK.out _ _ ?_ (fun hHeld2 => ?_)
     ·
      ((try dsimp only); go_keep)
     clear hK K
     (try simp only [Act.put, zA, zB, zC])
     have hcs := HBL.out.size
     obtain ⟨b_w, hb_w⟩ : ∃ b, b = w61.heap.size := ⟨_, rfl⟩
     have hal : Below w61.heap.size w61 (w61.alloc (.cells #[.bool false, .string ⟨#[]⟩, .bool false, .string ⟨#[]⟩] 27)) := (Below.refl _ _).alloc (Nat.le_refl _) _
     have k_w : Blk (w61.alloc (.cells #[.bool false, .string ⟨#[]⟩, .bool false, .string ⟨#[]⟩] 27)) b_w 27 [.bool false, .string ⟨#[]⟩, .bool false, .string ⟨#[]⟩] := by rw [hb_w]; exact Blk.new w61 _ _
     have hge_w : w5.heap.size ≤ b_w := by rw [hb_w]; exact HBL.out.size
     have tl := HBL.out.trans ((hal).mono HBL.out.size)
     clear HBL 
     have HBL := zh tl; clear tl
     clear hal
     have HW := zh k_w; clear k_w
     (try simp only [World.size_drew, World.size_alloc] at hb_w)
     (try rw [← hb_w])
     have HB_w := zh hb_w; clear hb_w
     have hgw := hge_w
     have hpw : ¬ b1 = b_w := by omega
     have hqw : ¬ b_w = b1 := by omega
     refine wpAnyH_ready (rs := [12]) (by kernel_rfl) (by simp) ?_
     refine (AllReadyH.cons rfl (fun K hK => ?_) AllReadyH.nil)
     ·
      go_simp
      refine hK.out _ _ ?_ (fun hHeld3 => ?_)
      ·
       ((try dsimp only); go_keep)
      clear hK K
      (try simp only [Act.put, zA, zB, zC])
      have hcs := HBL.out.size
      have hlt_w := HW.out.lt
      obtain ⟨b_i, hb_i⟩ : ∃ b, b = (w61.alloc (.cells #[.bool false, .string ⟨#[]⟩, .bool false, .string ⟨#[]⟩] 27)).heap.size := ⟨_, rfl⟩
      have hal : Below (w61.alloc (.cells #[.bool false, .string ⟨#[]⟩, .bool false, .string ⟨#[]⟩] 27)).heap.size (w61.alloc (.cells #[.bool false, .string ⟨#[]⟩, .bool false, .string ⟨#[]⟩] 27)) ((w61.alloc (.cells #[.bool false, .string ⟨#[]⟩, .bool false, .string ⟨#[]⟩] 27)).alloc (.cells #[.bool false, .string ⟨#[]⟩, .bool false, .string ⟨#[]⟩, .bool false, .string ⟨#[]⟩, .bool false, .string ⟨#[]⟩] 40)) := (Below.refl _ _).alloc (Nat.le_refl _) _
      have k_i : Blk ((w61.alloc (.cells #[.bool false, .string ⟨#[]⟩, .bool false, .string ⟨#[]⟩] 27)).alloc (.cells #[.bool false, .string ⟨#[]⟩, .bool false, .string ⟨#[]⟩, .bool false, .string ⟨#[]⟩, .bool false, .string ⟨#[]⟩] 40)) b_i 40 [.bool false, .string ⟨#[]⟩, .bool false, .string ⟨#[]⟩, .bool false, .string ⟨#[]⟩, .bool false, .string ⟨#[]⟩] := by rw [hb_i]; exact Blk.new (w61.alloc (.cells #[.bool false, .string ⟨#[]⟩, .bool false, .string ⟨#[]⟩] 27)) _ _
      have hge_i : w5.heap.size ≤ b_i := by rw [hb_i]; exact HBL.out.size
      have far_w_i : b_w < b_i := by rw [hb_i]; exact hlt_w
      clear hlt_w
      have k_w := HW.out.keep hal
      have tl := HBL.out.trans ((hal).mono HBL.out.size)
      clear HBL HW
      have HW := zh k_w; clear k_w
      have HBL := zh tl; clear tl
      clear hal
      have HI := zh k_i; clear k_i
      (try simp only [World.size_drew, World.size_alloc] at hb_i)
      (try rw [← hb_i])
      have HB_i := zh hb_i; clear hb_i
      have hgi := hge_i
      have hpi : ¬ b1 = b_i := by omega
      have hqi : ¬ b_i = b1 := by omega
      have hne : b_i ≠ b_w := by omega
      have hne2 : ¬ b_w = b_i := by omega
      have hne3 : ¬ b_i = b_w := by omega
      refine wpAnyH_ready (rs := [14]) (by kernel_rfl) (by simp) ?_
      refine (AllReadyH.cons rfl (fun K hK => ?_) AllReadyH.nil)
      ·
       have k_i := HI.out
       obtain ⟨i_0, i_f0, i_1, i_f1, i_2, i_f2, i_3, i_f3, i_4, i_f4, i_5, i_f5, i_6, i_f6, i_7, i_f7⟩ := k_i.f8
       clear k_i
       go_simp
       refine hK.out _ _ ?_ (fun hHeld4 => ?_)
       ·
        ((try dsimp only); go_keep)
       clear hK K
       (try simp only [Act.put, zA, zB, zC])
       clear i_0 i_f0 i_1 i_f1 i_2 i_f2 i_3 i_f3 i_4 i_f4 i_5 i_f5 i_6 i_f6 i_7 i_f7
       obtain ⟨w62, hw_⟩ : ∃ x, x = ((((((((((w61.alloc (.cells #[.bool false, .string ⟨#[]⟩, .bool false, .string ⟨#[]⟩] 27)).alloc (.cells #[.bool false, .string ⟨#[]⟩, .bool false, .string ⟨#[]⟩, .bool false, .string ⟨#[]⟩, .bool false, .string ⟨#[]⟩] 40))).setCell ⟨b_i, 0, none⟩ (.bool (ineg lo.num))).setCell ⟨b_i, 1, none⟩ (.string (imag lo.num))).setCell ⟨b_i, 2, none⟩ (.bool (ineg (lo.den : Int)))).setCell ⟨b_i, 3, none⟩ (.string (imag (lo.den : Int)))).setCell ⟨b_i, 4, none⟩ (.bool (ineg hi.num))).setCell ⟨b_i, 5, none⟩ (.string (imag hi.num))).setCell ⟨b_i, 6, none⟩ (.bool (ineg (hi.den : Int)))).setCell ⟨b_i, 7, none⟩ (.string (imag (hi.den : Int))) := ⟨_, rfl⟩
       (try rw [← hw_])
       (try rw [← hw_] at hHeld4)
       have k_w : Blk w62 (b_w) 27 [.bool false, .string ⟨#[]⟩, .bool false, .string ⟨#[]⟩] := by rw [hw_]; exact HW.out.o8 (by omega)
       have k_i : Blk w62 (b_i) 40 [.bool (ineg lo.num), .string (imag lo.num), .bool (ineg (lo.den : Int)), .string (imag (lo.den : Int)), .bool (ineg hi.num), .string (imag hi.num), .bool (ineg (hi.den : Int)), .string (imag (hi.den : Int))] := by rw [hw_]; exact HI.out.s8
       have tl : Below w5.heap.size w5 w62 := by rw [hw_]; exact bc8 HBL.out (by omega)
       clear HBL hw_ HW HI
       have HW := zh k_w; clear k_w
       have HI := zh k_i; clear k_i
       have HBL := zh tl; clear tl
       refine wpAnyH_ready (rs := [15]) (by kernel_rfl) (by simp) ?_
       refine (AllReadyH.cons rfl (fun K hK => ?_) AllReadyH.nil)
       ·
        have k_w := HW.out
        obtain ⟨w_0, w_f0, w_1, w_f1, w_2, w_f2, w_3, w_f3⟩ := k_w.f4
        clear k_w
        go_simp
        refine hK.out _ _ ?_ (fun hHeld5 => ?_)
        ·
         ((try dsimp only); go_keep)
        clear hK K
        (try simp only [Act.put, zA, zB, zC])
        clear w_0 w_f0 w_1 w_f1 w_2 w_f2 w_3 w_f3
        obtain ⟨w63, hw_⟩ : ∃ x, x = ((((w62).setCell ⟨b_w, 0, none⟩ (.bool (ineg wd.num))).setCell ⟨b_w, 1, none⟩ (.string (imag wd.num))).setCell ⟨b_w, 2, none⟩ (.bool (ineg (wd.den : Int)))).setCell ⟨b_w, 3, none⟩ (.string (imag (wd.den : Int))) := ⟨_, rfl⟩
        (try rw [← hw_])
        (try rw [← hw_] at hHeld5)
        have k_w : Blk w63 (b_w) 27 [.bool (ineg wd.num), .string (imag wd.num), .bool (ineg (wd.den : Int)), .string (imag (wd.den : Int))] := by rw [hw_]; exact HW.out.s4
        have k_i : Blk w63 (b_i) 40 [.bool (ineg lo.num), .string (imag lo.num), .bool (ineg (lo.den : Int)), .string (imag (lo.den : Int)), .bool (ineg hi.num), .string (imag hi.num), .bool (ineg (hi.den : Int)), .string (imag (hi.den : Int))] := by rw [hw_]; exact HI.out.o4 (by omega)
        have tl : Below w5.heap.size w5 w63 := by rw [hw_]; exact bc4 HBL.out (by omega)
        clear HBL hw_ HW HI
        have HW := zh k_w; clear k_w
        have HI := zh k_i; clear k_i
        have HBL := zh tl; clear tl
        refine wpAnyH_done (by kernel_rfl) ?_ _
        (try simp only [List.getElem_toArray, List.getElem_cons_zero, List.getElem_cons_succ, Act.put, zA, zB, zC])
        go_wp2_with fail
        go_meet
        exact ⟨_, _, rfl, rfl, hne, hgi, hgw, HBL.out, HI.out, HW.out⟩
   ·
    go_simp
    refine hK.out _ _ ?_ (fun hHeld1 => ?_)
    ·
     ((try dsimp only); go_keep)
    clear hK K
    (try simp only [Act.put, zA, zB, zC])
    have hcs := HBL.out.size
    obtain ⟨b_i, hb_i⟩ : ∃ b, b = w5.drew.heap.size := ⟨_, rfl⟩
    have hal : Below w5.drew.heap.size w5.drew (w5.drew.alloc (.cells #[.bool false, .string ⟨#[]⟩, .bool false, .string ⟨#[]⟩, .bool false, .string ⟨#[]⟩, .bool false, .string ⟨#[]⟩] 40)) := (Below.refl _ _).alloc (Nat.le_refl _) _
    have k_i : Blk (w5.drew.alloc (.cells #[.bool false, .string ⟨#[]⟩, .bool false, .string ⟨#[]⟩, .bool false, .string ⟨#[]⟩, .bool false, .string ⟨#[]⟩] 40)) b_i 40 [.bool false, .string ⟨#[]⟩, .bool false, .string ⟨#[]⟩, .bool false, .string ⟨#[]⟩, .bool false, .string ⟨#[]⟩] := by rw [hb_i]; exact Blk.new w5.drew _ _
    have hge_i : w5.heap.size ≤ b_i := by rw [hb_i]; exact HBL.out.size
    have tl := HBL.out.trans ((hal).mono HBL.out.size)
    clear HBL 
    have HBL := zh tl; clear tl
    clear hal
    have HI := zh k_i; clear k_i
    (try simp only [World.size_drew, World.size_alloc] at hb_i)
    (try rw [← hb_i])
    have HB_i := zh hb_i; clear hb_i
    have hgi := hge_i
    have hpi : ¬ b1 = b_i := by omega
    have hqi : ¬ b_i = b1 := by omega
    refine wpAnyH_ready (rs := [11, 13]) (by kernel_rfl) (by simp) ?_
    refine (AllReadyH.cons rfl (fun K hK => ?_) (AllReadyH.cons rfl (fun K hK => ?_) AllReadyH.nil))
    ·
     go_simp
     go_at_call 28
     rw [HPW2.out]
     refine (HRT.out _).mono ?_
     rintro e w61 ⟨hq, rfl⟩
     dsimp only
     have z0 := zK hq (Nat.lt_of_lt_of_le hb1 HBL.out.size) hHeld1.1
     have z1 := zK hq (Nat.lt_of_lt_of_le hb1 HBL.out.size) hHeld1.2.1
     have z2 := zK hq (Nat.lt_of_lt_of_le hb1 HBL.out.size) hHeld1.2.2.1
     have z3 := zK hq (Nat.lt_of_lt_of_le hb1 HBL.out.size) hHeld1.2.2.2.1
     have z4 := zK hq (Nat.lt_of_lt_of_le hb1 HBL.out.size) hHeld1.2.2.2.2.1
     have z5 := zK hq (Nat.lt_of_lt_of_le hb1 HBL.out.size) hHeld1.2.2.2.2.2.1
     have z6 := zK hq (Nat.lt_of_lt_of_le hb1 HBL.out.size) hHeld1.2.2.2.2.2.2.1
     have z7 := zK hq (Nat.lt_of_lt_of_le hb1 HBL.out.size) hHeld1.2.2.2.2.2.2.2
     refine hK.out _ _ ⟨z0, z1, z2, z3, z4, z5, z6, z7⟩ (fun hHeld2 => ?_)
     clear hK K hHeld1 z0 z1 z2 z3 z4 z5 z6 z7
     (try simp only [Act.put, zA, zB, zC])
     have k_i := HI.out.keep hq
     have tl := HBL.out.trans ((hq).mono HBL.out.size)
     clear HBL HI
     have HI := zh k_i; clear k_i
     have HBL := zh tl; clear tl
     clear hq
     refine wpAnyH_ready (rs := [13]) (by kernel_rfl) (by simp) ?_
     refine (AllReadyH.cons rfl (fun K hK => ?_) AllReadyH.nil)
     ·
      go_simp
      refine hK.out _ _ ?_ (fun hHeld3 => ?_)
      ·
       ((try dsimp only); go_keep)
      clear hK K
      (try simp only [Act.put, zA, zB, zC])
      have hcs := HBL.out.size
      have hlt_i := HI.out.lt
      obtain ⟨b_w, hb_w⟩ : ∃ b, b = w61.heap.size := ⟨_, rfl⟩
      have hal : Below w61.heap.size w61 (w61.alloc (.cells #[.bool false, .string ⟨#[]⟩, .bool false, .string ⟨#[]⟩] 27)) := (Below.refl _ _).alloc (Nat.le_refl _) _
      have k_w : Blk (w61.alloc (.cells #[.bool false, .string ⟨#[]⟩, .bool false, .string ⟨#[]⟩] 27)) b_w 27 [.bool false, .string ⟨#[]⟩, .bool false, .string ⟨#[]⟩] := by rw [hb_w]; exact Blk.new w61 _ _
      have hge_w : w5.heap.size ≤ b_w := by rw [hb_w]; exact HBL.out.size
      have far_i_w : b_i < b_w := by rw [hb_w]; exact hlt_i
      clear hlt_i
      have k_i := HI.out.keep hal
      have tl := HBL.out.trans ((hal).mono HBL.out.size)
      clear HBL HI
      have HI := zh k_i; clear k_i
      have HBL := zh tl; clear tl
      clear hal
      have HW := zh k_w; clear k_w
      (try simp only [World.size_drew, World.size_alloc] at hb_w)
      (try rw [← hb_w])
      have HB_w := zh hb_w; clear hb_w
      have hgw := hge_w
      have hpw : ¬ b1 = b_w := by omega
      have hqw : ¬ b_w = b1 := by omega
      have hne : b_i ≠ b_w := by omega
      have hne2 : ¬ b_w = b_i := by omega
      have hne3 : ¬ b_i = b_w := by omega
      refine wpAnyH_ready (rs := [14]) (by kernel_rfl) (by simp) ?_
      refine (AllReadyH.cons rfl (fun K hK => ?_) AllReadyH.nil)
      ·
       have k_i := HI.out
       obtain ⟨i_0, i_f0, i_1, i_f1, i_2, i_f2, i_3, i_f3, i_4, i_f4, i_5, i_f5, i_6, i_f6, i_7, i_f7⟩ := k_i.f8
       clear k_i
       go_simp
       refine hK.out _ _ ?_ (fun hHeld4 => ?_)
       ·
        ((try dsimp only); go_keep)
       clear hK K
       (try simp only [Act.put, zA, zB, zC])
       clear i_0 i_f0 i_1 i_f1 i_2 i_f2 i_3 i_f3 i_4 i_f4 i_5 i_f5 i_6 i_f6 i_7 i_f7
       obtain ⟨w62, hw_⟩ : ∃ x, x = (((((((((w61.alloc (.cells #[.bool false, .string ⟨#[]⟩, .bool false, .string ⟨#[]⟩] 27))).setCell ⟨b_i, 0, none⟩ (.bool (ineg lo.num))).setCell ⟨b_i, 1, none⟩ (.string (imag lo.num))).setCell ⟨b_i, 2, none⟩ (.bool (ineg (lo.den : Int)))).setCell ⟨b_i, 3, none⟩ (.string (imag (lo.den : Int)))).setCell ⟨b_i, 4, none⟩ (.bool (ineg hi.num))).setCell ⟨b_i, 5, none⟩ (.string (imag hi.num))).setCell ⟨b_i, 6, none⟩ (.bool (ineg (hi.den : Int)))).setCell ⟨b_i, 7, none⟩ (.string (imag (hi.den : Int))) := ⟨_, rfl⟩
       (try rw [← hw_])
       (try rw [← hw_] at hHeld4)
       have k_i : Blk w62 (b_i) 40 [.bool (ineg lo.num), .string (imag lo.num), .bool (ineg (lo.den : Int)), .string (imag (lo.den : Int)), .bool (ineg hi.num), .string (imag hi.num), .bool (ineg (hi.den : Int)), .string (imag (hi.den : Int))] := by rw [hw_]; exact HI.out.s8
       have k_w : Blk w62 (b_w) 27 [.bool false, .string ⟨#[]⟩, .bool false, .string ⟨#[]⟩] := by rw [hw_]; exact HW.out.o8 (by omega)
       have tl : Below w5.heap.size w5 w62 := by rw [hw_]; exact bc8 HBL.out (by omega)
       clear HBL hw_ HI HW
       have HI := zh k_i; clear k_i
       have HW := zh k_w; clear k_w
       have HBL := zh tl; clear tl
       refine wpAnyH_ready (rs := [15]) (by kernel_rfl) (by simp) ?_
       refine (AllReadyH.cons rfl (fun K hK => ?_) AllReadyH.nil)
       ·
        have k_w := HW.out
        obtain ⟨w_0, w_f0, w_1, w_f1, w_2, w_f2, w_3, w_f3⟩ := k_w.f4
        clear k_w
        go_simp
        refine hK.out _ _ ?_ (fun hHeld5 => ?_)
        ·
         ((try dsimp only); go_keep)
        clear hK K
        (try simp only [Act.put, zA, zB, zC])
        clear w_0 w_f0 w_1 w_f1 w_2 w_f2 w_3 w_f3
        obtain ⟨w63, hw_⟩ : ∃ x, x = ((((w62).setCell ⟨b_w, 0, none⟩ (.bool (ineg wd.num))).setCell ⟨b_w, 1, none⟩ (.string (imag wd.num))).setCell ⟨b_w, 2, none⟩ (.bool (ineg (wd.den : Int)))).setCell ⟨b_w, 3, none⟩ (.string (imag (wd.den : Int))) := ⟨_, rfl⟩
        (try rw [← hw_])
        (try rw [← hw_] at hHeld5)
        have k_i : Blk w63 (b_i) 40 [.bool (ineg lo.num), .string (imag lo.num), .bool (ineg (lo.den : Int)), .string (imag (lo.den : Int)), .bool (ineg hi.num), .string (imag hi.num), .bool (ineg (hi.den : Int)), .string (imag (hi.den : Int))] := by rw [hw_]; exact HI.out.o4 (by omega)
        have k_w : Blk w63 (b_w) 27 [.bool (ineg wd.num), .string (imag wd.num), .bool (ineg (wd.den : Int)), .string (imag (wd.den : Int))] := by rw [hw_]; exact HW.out.s4
        have tl : Below w5.heap.size w5 w63 := by rw [hw_]; exact bc4 HBL.out (by omega)
        clear HBL hw_ HI HW
        have HI := zh k_i; clear k_i
        have HW := zh k_w; clear k_w
        have HBL := zh tl; clear tl
        refine wpAnyH_done (by kernel_rfl) ?_ _
        (try simp only [List.getElem_toArray, List.getElem_cons_zero, List.getElem_cons_succ, Act.put, zA, zB, zC])
        go_wp2_with fail
        go_meet
        exact ⟨_, _, rfl, rfl, hne, hgi, hgw, HBL.out, HI.out, HW.out⟩
    ·
     go_simp
     refine hK.out _ _ ?_ (fun hHeld2 => ?_)
     ·
      ((try dsimp only); go_keep)
     clear hK K
     (try simp only [Act.put, zA, zB, zC])
     have hcs := HBL.out.size
     have hlt_i := HI.out.lt
     obtain ⟨b_w, hb_w⟩ : ∃ b, b = (w5.drew.alloc (.cells #[.bool false, .string ⟨#[]⟩, .bool false, .string ⟨#[]⟩, .bool false, .string ⟨#[]⟩, .bool false, .string ⟨#[]⟩] 40)).heap.size := ⟨_, rfl⟩
     have hal : Below (w5.drew.alloc (.cells #[.bool false, .string ⟨#[]⟩, .bool false, .string ⟨#[]⟩, .bool false, .string ⟨#[]⟩, .bool false, .string ⟨#[]⟩] 40)).heap.size (w5.drew.alloc (.cells #[.bool false, .string ⟨#[]⟩, .bool false, .string ⟨#[]⟩, .bool false, .string ⟨#[]⟩, .bool false, .string ⟨#[]⟩] 40)) ((w5.drew.alloc (.cells #[.bool false, .string ⟨#[]⟩, .bool false, .string ⟨#[]⟩, .bool false, .string ⟨#[]⟩, .bool false, .string ⟨#[]⟩] 40)).alloc (.cells #[.bool false, .string ⟨#[]⟩, .bool false, .string ⟨#[]⟩] 27)) := (Below.refl _ _).alloc (Nat.le_refl _) _
     have k_w : Blk ((w5.drew.alloc (.cells #[.bool false, .string ⟨#[]⟩, .bool false, .string ⟨#[]⟩, .bool false, .string ⟨#[]⟩, .bool false, .string ⟨#[]⟩] 40)).alloc (.cells #[.bool false, .string ⟨#[]⟩, .bool false, .string ⟨#[]⟩] 27)) b_w 27 [.bool false, .string ⟨#[]⟩, .bool false, .string ⟨#[]⟩] := by rw [hb_w]; exact Blk.new (w5.drew.alloc (.cells #[.bool false, .string ⟨#[]⟩, .bool false, .string ⟨#[]⟩, .bool false, .string ⟨#[]⟩, .bool false, .string ⟨#[]⟩] 40)) _ _
     have hge_w : w5.heap.size ≤ b_w := by rw [hb_w]; exact HBL.out.size
     have far_i_w : b_i < b_w := by rw [hb_w]; exact hlt_i
     clear hlt_i
     have k_i := HI.out.keep hal
     have tl := HBL.out.trans ((hal).mono HBL.out.size)
     clear HBL HI
     have HI := zh k_i; clear k_i
     have HBL := zh tl; clear tl
     clear hal
     have HW := zh k_w; clear k_w
     (try simp only [World.size_drew, World.size_alloc] at hb_w)
     (try rw [← hb_w])
     have HB_w := zh hb_w; clear hb_w
     have hgw := hge_w
     have hpw : ¬ b1 = b_w := by omega
     have hqw : ¬ b_w = b1 := by omega
     have hne : b_i ≠ b_w := by omega
     have hne2 : ¬ b_w = b_i := by omega
     have hne3 : ¬ b_i = b_w := by omega
     refine wpAnyH_ready (rs := [11]) (by kernel_rfl) (by simp) ?_
     refine (AllReadyH.cons rfl (fun K hK => ?_) AllReadyH.nil)
     ·
      go_simp
      go_at_call 28
      rw [HPW2.out]
      refine (HRT.out _).mono ?_
      rintro e w61 ⟨hq, rfl⟩
      dsimp only
      have z0 := zK hq (Nat.lt_of_lt_of_le hb1 HBL.out.size) hHeld2.1
      have z1 := zK hq (Nat.lt_of_lt_of_le hb1 HBL.out.size) hHeld2.2.1
      have z2 := zK hq (Nat.lt_of_lt_of_le hb1 HBL.out.size) hHeld2.2.2.1
      have z3 := zK hq (Nat.lt_of_lt_of_le hb1 HBL.out.size) hHeld2.2.2.2.1
      have z4 := zK hq (Nat.lt_of_lt_of_le hb1 HBL.out.size) hHeld2.2.2.2.2.1
      have z5 := zK hq (Nat.lt_of_lt_of_le hb1 HBL.out.size) hHeld2.2.2.2.2.2.1
      have z6 := zK hq (Nat.lt_of_lt_of_le hb1 HBL.out.size) hHeld2.2.2.2.2.2.2.1
      have z7 := zK hq (Nat.lt_of_lt_of_le hb1 HBL.out.size) hHeld2.2.2.2.2.2.2.2
      refine hK.out _ _ ⟨z0, z1, z2, z3, z4, z5, z6, z7⟩ (fun hHeld3 => ?_)
      clear hK K hHeld2 z0 z1 z2 z3 z4 z5 z6 z7
      (try simp only [Act.put, zA, zB, zC])
      have k_i := HI.out.keep hq
      have k_w := HW.out.keep hq
      have tl := HBL.out.trans ((hq).mono HBL.out.size)
      clear HBL HI HW
      have HI := zh k_i; clear k_i
      have HW := zh k_w; clear k_w
      have HBL := zh tl; clear tl
      clear hq
      refine wpAnyH_ready (rs := [14]) (by kernel_rfl) (by simp) ?_
      refine (AllReadyH.cons rfl (fun K hK => ?_) AllReadyH.nil)
      ·
       have k_i := HI.out
       obtain ⟨i_0, i_f0, i_1, i_f1, i_2, i_f2, i_3, i_f3, i_4, i_f4, i_5, i_f5, i_6, i_f6, i_7, i_f7⟩ := k_i.f8
       clear k_i
       go_simp
       refine hK.out _ _ ?_ (fun hHeld4 => ?_)
       ·
        ((try dsimp only); go_keep)
       clear hK K
       (try simp only [Act.put, zA, zB, zC])
       clear i_0 i_f0 i_1 i_f1 i_2 i_f2 i_3 i_f3 i_4 i_f4 i_5 i_f5 i_6 i_f6 i_7 i_f7
       obtain ⟨w62, hw_⟩ : ∃ x, x = ((((((((w61).setCell ⟨b_i, 0, none⟩ (.bool (ineg lo.num))).setCell ⟨b_i, 1, none⟩ (.string (imag lo.num))).setCell ⟨b_i, 2, none⟩ (.bool (ineg (lo.den : Int)))).setCell ⟨b_i, 3, none⟩ (.string (imag (lo.den : Int)))).setCell ⟨b_i, 4, none⟩ (.bool (ineg hi.num))).setCell ⟨b_i, 5, none⟩ (.string (imag hi.num))).setCell ⟨b_i, 6, none⟩ (.bool (ineg (hi.den : Int)))).setCell ⟨b_i, 7, none⟩ (.string (imag (hi.den : Int))) := ⟨_, rfl⟩
       (try rw [← hw_])
       (try rw [← hw_] at hHeld4)
       have k_i : Blk w62 (b_i) 40 [.bool (ineg lo.num), .string (imag lo.num), .bool (ineg (lo.den : Int)), .string (imag (lo.den : Int)), .bool (ineg hi.num), .string (imag hi.num), .bool (ineg (hi.den : Int)), .string (imag (hi.den : Int))] := by rw [hw_]; exact HI.out.s8
       have k_w : Blk w62 (b_w) 27 [.bool false, .string ⟨#[]⟩, .bool false, .string ⟨#[]⟩] := by rw [hw_]; exact HW.out.o8 (by omega)
       have tl : Below w5.heap.size w5 w62 := by rw [hw_]; exact bc8 HBL.out (by omega)
       clear HBL hw_ HI HW
       have HI := zh k_i; clear k_i
       have HW := zh k_w; clear k_w
       have HBL := zh tl; clear tl
       refine wpAnyH_ready (rs := [15]) (by kernel_rfl) (by simp) ?_
       refine (AllReadyH.cons rfl (fun K hK => ?_) AllReadyH.nil)
       ·
        have k_w := HW.out
        obtain ⟨w_0, w_f0, w_1, w_f1, w_2, w_f2, w_3, w_f3⟩ := k_w.f4
        clear k_w
        go_simp
        refine hK.out _ _ ?_ (fun hHeld5 => ?_)
        ·
         ((try dsimp only); go_keep)
        clear hK K
        (try simp only [Act.put, zA, zB, zC])
        clear w_0 w_f0 w_1 w_f1 w_2 w_f2 w_3 w_f3
        obtain ⟨w63, hw_⟩ : ∃ x, x = ((((w62).setCell ⟨b_w, 0, none⟩ (.bool (ineg wd.num))).setCell ⟨b_w, 1, none⟩ (.string (imag wd.num))).setCell ⟨b_w, 2, none⟩ (.bool (ineg (wd.den : Int)))).setCell ⟨b_w, 3, none⟩ (.string (imag (wd.den : Int))) := ⟨_, rfl⟩
        (try rw [← hw_])
        (try rw [← hw_] at hHeld5)
        have k_i : Blk w63 (b_i) 40 [.bool (ineg lo.num), .string (imag lo.num), .bool (ineg (lo.den : Int)), .string (imag (lo.den : Int)), .bool (ineg hi.num), .string (imag hi.num), .bool (ineg (hi.den : Int)), .string (imag (hi.den : Int))] := by rw [hw_]; exact HI.out.o4 (by omega)
        have k_w : Blk w63 (b_w) 27 [.bool (ineg wd.num), .string (imag wd.num), .bool (ineg (wd.den : Int)), .string (imag (wd.den : Int))] := by rw [hw_]; exact HW.out.s4
        have tl : Below w5.heap.size w5 w63 := by rw [hw_]; exact bc4 HBL.out (by omega)
        clear HBL hw_ HI HW
        have HI := zh k_i; clear k_i
        have HW := zh k_w; clear k_w
        have HBL := zh tl; clear tl
        refine wpAnyH_done (by kernel_rfl) ?_ _
        (try simp only [List.getElem_toArray, List.getElem_cons_zero, List.getElem_cons_succ, Act.put, zA, zB, zC])
        go_wp2_with fail
        go_meet
        exact ⟨_, _, rfl, rfl, hne, hgi, hgw, HBL.out, HI.out, HW.out⟩
   ·
    go_simp
    refine hK.out _ _ ?_ (fun hHeld1 => ?_)
    ·
     ((try dsimp only); go_keep)
    clear hK K
    (try simp only [Act.put, zA, zB, zC])
    have hcs := HBL.out.size
    obtain ⟨b_w, hb_w⟩ : ∃ b, b = w5.drew.heap.size := ⟨_, rfl⟩
    have hal : Below w5.drew.heap.size w5.drew (w5.drew.alloc (.cells #[.bool false, .string ⟨#[]⟩, .bool false, .string ⟨#[]⟩] 27)) := (Below.refl _ _).alloc (Nat.le_refl _) _
    have k_w : Blk (w5.drew.alloc (.cells #[.bool false, .string ⟨#[]⟩, .bool false, .string ⟨#[]⟩] 27)) b_w 27 [.bool false, .string ⟨#[]⟩, .bool false, .string ⟨#[]⟩] := by rw [hb_w]; exact Blk.new w5.drew _ _
    have hge_w : w5.heap.size ≤ b_w := by rw [hb_w]; exact HBL.out.size
    have tl := HBL.out.trans ((hal).mono HBL.out.size)
    clear HBL 
    have HBL := zh tl; clear tl
    clear hal
    have HW := zh k_w; clear k_w
    (try simp only [World.size_drew, World.size_alloc] at hb_w)
    (try rw [← hb_w])
    have HB_w := zh hb_w; clear hb_w
    have hgw := hge_w
    have hpw : ¬ b1 = b_w := by omega
    have hqw : ¬ b_w = b1 := by omega
    refine wpAnyH_ready (rs := [11, 12]) (by kernel_rfl) (by simp) ?_
    refine (AllReadyH.cons rfl (fun K hK => ?_) (AllReadyH.cons rfl (fun K hK => ?_) AllReadyH.nil))
    ·
     go_simp
     go_at_call 28
     rw [HPW2.out]
     refine (HRT.out _).mono ?_
     rintro e w61 ⟨hq, rfl⟩
     dsimp only
     have z0 := zK hq (Nat.lt_of_lt_of_le hb1 HBL.out.size) hHeld1.1
     have z1 := zK hq (Nat.lt_of_lt_of_le hb1 HBL.out.size) hHeld1.2.1
     have z2 := zK hq (Nat.lt_of_lt_of_le hb1 HBL.out.size) hHeld1.2.2.1
     have z3 := zK hq (Nat.lt_of_lt_of_le hb1 HBL.out.size) hHeld1.2.2.2.1
     have z4 := zK hq (Nat.lt_of_lt_of_le hb1 HBL.out.size) hHeld1.2.2.2.2.1
     have z5 := zK hq (Nat.lt_of_lt_of_le hb1 HBL.out.size) hHeld1.2.2.2.2.2.1
     have z6 := zK hq (Nat.lt_of_lt_of_le hb1 HBL.out.size) hHeld1.2.2.2.2.2.2.1
     have z7 := zK hq (Nat.lt_of_lt_of_le hb1 HBL.out.size) hHeld1.2.2.2.2.2.2.2
     refine hK.out _ _ ⟨z0, z1, z2, z3, z4, z5, z6, z7⟩ (fun hHeld2 => ?_)
     clear hK K hHeld1 z0 z1 z2 z3 z4 z5 z6 z7
     (try simp only [Act.put, zA, zB, zC])
     have k_w := HW.out.keep hq
     have tl := HBL.out.trans ((hq).mono HBL.out.size)
     clear HBL HW
     have HW := zh k_w; clear k_w
     have HBL := zh tl; clear tl
     clear hq
     refine wpAnyH_ready (rs := [12]) (by kernel_rfl) (by simp) ?_
     refine (AllReadyH.cons rfl (fun K hK => ?_) AllReadyH.nil)
     ·
      go_simp
      refine hK.out _ _ ?_ (fun hHeld3 => ?_)
      ·
       ((try dsimp only); go_keep)
      clear hK K
      (try simp only [Act.put, zA, zB, zC])
      have hcs := HBL.out.size
      have hlt_w := HW.out.lt
      obtain ⟨b_i, hb_i⟩ : ∃ b, b = w61.heap.size := ⟨_, rfl⟩
      have hal : Below w61.heap.size w61 (w61.alloc (.cells #[.bool false, .string ⟨#[]⟩, .bool false, .string ⟨#[]⟩, .bool false, .string ⟨#[]⟩, .bool false, .string ⟨#[]⟩] 40)) := (Below.refl _ _).alloc (Nat.le_refl _) _
      have k_i : Blk (w61.alloc (.cells #[.bool false, .string ⟨#[]⟩, .bool false, .string ⟨#[]⟩, .bool false, .string ⟨#[]⟩, .bool false, .string ⟨#[]⟩] 40)) b_i 40 [.bool false, .string ⟨#[]⟩, .bool false, .string ⟨#[]⟩, .bool false, .string ⟨#[]⟩, .bool false, .string ⟨#[]⟩] := by rw [hb_i]; exact Blk.new w61 _ _
      have hge_i : w5.heap.size ≤ b_i := by rw [hb_i]; exact HBL.out.size
      have far_w_i : b_w < b_i := by rw [hb_i]; exact hlt_w
      clear hlt_w
      have k_w := HW.out.keep hal
      have tl := HBL.out.trans ((hal).mono HBL.out.size)
      clear HBL HW
      have HW := zh k_w; clear k_w
      have HBL := zh tl; clear tl
      clear hal
      have HI := zh k_i; clear k_i
      (try simp only [World.size_drew, World.size_alloc] at hb_i)
      (try rw [← hb_i])
      have HB_i := zh hb_i; clear hb_i
      have hgi := hge_i
      have hpi : ¬ b1 = b_i := by omega
      have hqi : ¬ b_i = b1 := by omega
      have hne : b_i ≠ b_w := by omega
      have hne2 : ¬ b_w = b_i := by omega
      have hne3 : ¬ b_i = b_w := by omega
      refine wpAnyH_ready (rs := [14]) (by kernel_rfl) (by simp) ?_
      refine (AllReadyH.cons rfl (fun K hK => ?_) AllReadyH.nil)
      ·
       have k_i := HI.out
       obtain ⟨i_0, i_f0, i_1, i_f1, i_2, i_f2, i_3, i_f3, i_4, i_f4, i_5, i_f5, i_6, i_f6, i_7, i_f7⟩ := k_i.f8
       clear k_i
       go_simp
       refine hK.out _ _ ?_ (fun hHeld4 => ?_)
       ·
        ((try dsimp only); go_keep)
       clear hK K
       (try simp only [Act.put, zA, zB, zC])
       clear i_0 i_f0 i_1 i_f1 i_2 i_f2 i_3 i_f3 i_4 i_f4 i_5 i_f5 i_6 i_f6 i_7 i_f7
       obtain ⟨w62, hw_⟩ : ∃ x, x = (((((((((w61.alloc (.cells #[.bool false, .string ⟨#[]⟩, .bool false, .string ⟨#[]⟩, .bool false, .string ⟨#[]⟩, .bool false, .string ⟨#[]⟩] 40))).setCell ⟨b_i, 0, none⟩ (.bool (ineg lo.num))).setCell ⟨b_i, 1, none⟩ (.string (imag lo.num))).setCell ⟨b_i, 2, none⟩ (.bool (ineg (lo.den : Int)))).setCell ⟨b_i, 3, none⟩ (.string (imag (lo.den : Int)))).setCell ⟨b_i, 4, none⟩ (.bool (ineg hi.num))).setCell ⟨b_i, 5, none⟩ (.string (imag hi.num))).setCell ⟨b_i, 6, none⟩ (.bool (ineg (hi.den : Int)))).setCell ⟨b_i, 7, none⟩ (.string (imag (hi.den : Int))) := ⟨_, rfl⟩
       (try rw [← hw_])
       (try rw [← hw_] at hHeld4)
       have k_w : Blk w62 (b_w) 27 [.bool false, .string ⟨#[]⟩, .bool false, .string ⟨#[]⟩] := by rw [hw_]; exact HW.out.o8 (by omega)
       have k_i : Blk w62 (b_i) 40 [.bool (ineg lo.num), .string (imag lo.num), .bool (ineg (lo.den : Int)), .string (imag (lo.den : Int)), .bool (ineg hi.num), .string (imag hi.num), .bool (ineg (hi.den : Int)), .string (imag (hi.den : Int))] := by rw [hw_]; exact HI.out.s8
       have tl : Below w5.heap.size w5 w62 := by rw [hw_]; exact bc8 HBL.out (by omega)
       clear HBL hw_ HW HI
       have HW := zh k_w; clear k_w
       have HI := zh k_i; clear k_i
       have HBL := zh tl; clear tl
       refine wpAnyH_ready (rs := [15]) (by kernel_rfl) (by simp) ?_
       refine (AllReadyH.cons rfl (fun K hK => ?_) AllReadyH.nil)
       ·
        have k_w := HW.out
        obtain ⟨w_0, w_f0, w_1, w_f1, w_2, w_f2, w_3, w_f3⟩ := k_w.f4
        clear k_w
        go_simp
        refine hK.out _ _ ?_ (fun hHeld5 => ?_)
        ·
         ((try dsimp only); go_keep)
        clear hK K
        (try simp only [Act.put, zA, zB, zC])
        clear w_0 w_f0 w_1 w_f1 w_2 w_f2 w_3 w_f3
        obtain ⟨w63, hw_⟩ : ∃ x, x = ((((w62).setCell ⟨b_w, 0, none⟩ (.bool (ineg wd.num))).setCell ⟨b_w, 1, none⟩ (.string (imag wd.num))).setCell ⟨b_w, 2, none⟩ (.bool (ineg (wd.den : Int)))).setCell ⟨b_w, 3, none⟩ (.string (imag (wd.den : Int))) := ⟨_, rfl⟩
        (try rw [← hw_])
        (try rw [← hw_] at hHeld5)
        have k_w : Blk w63 (b_w) 27 [.bool (ineg wd.num), .string (imag wd.num), .bool (ineg (wd.den : Int)), .string (imag (wd.den : Int))] := by rw [hw_]; exact HW.out.s4
        have k_i : Blk w63 (b_i) 40 [.bool (ineg lo.num), .string (imag lo.num), .bool (ineg (lo.den : Int)), .string (imag (lo.den : Int)), .bool (ineg hi.num), .string (imag hi.num), .bool (ineg (hi.den : Int)), .string (imag (hi.den : Int))] := by rw [hw_]; exact HI.out.o4 (by omega)
        have tl : Below w5.heap.size w5 w63 := by rw [hw_]; exact bc4 HBL.out (by omega)
        clear HBL hw_ HW HI
        have HW := zh k_w; clear k_w
        have HI := zh k_i; clear k_i
        have HBL := zh tl; clear tl
        refine wpAnyH_done (by kernel_rfl) ?_ _
        (try simp only [List.getElem_toArray, List.getElem_cons_zero, List.getElem_cons_succ, Act.put, zA, zB, zC])
        go_wp2_with fail
        go_meet
        exact ⟨_, _, rfl, rfl, hne, hgi, hgw, HBL.out, HI.out, HW.out⟩
    ·
     go_simp
     refine hK.out _ _ ?_ (fun hHeld2 => ?_)
     ·
      ((try dsimp only); go_keep)
     clear hK K
     (try simp only [Act.put, zA, zB, zC])
     have hcs := HBL.out.size
     have hlt_w := HW.out.lt
     obtain ⟨b_i, hb_i⟩ : ∃ b, b = (w5.drew.alloc (.cells #[.bool false, .string ⟨#[]⟩, .bool false, .string ⟨#[]⟩] 27)).heap.size := ⟨_, rfl⟩
     have hal : Below (w5.drew.alloc (.cells #[.bool false, .string ⟨#[]⟩, .bool false, .string ⟨#[]⟩] 27)).heap.size (w5.drew.alloc (.cells #[.bool false, .string ⟨#[]⟩, .bool false, .string ⟨#[]⟩] 27)) ((w5.drew.alloc (.cells #[.bool false, .string ⟨#[]⟩, .bool false, .string ⟨#[]⟩] 27)).alloc (.cells #[.bool false, .string ⟨#[]⟩, .bool false, .string ⟨#[]⟩, .bool false, .string ⟨#[]⟩, .bool false, .string ⟨#[]⟩] 40)) := (Below.refl _ _).alloc (Nat.le_refl _) _
     have k_i : Blk ((w5.drew.alloc (.cells #[.bool false, .string ⟨#[]⟩, .bool false, .string ⟨#[]⟩] 27)).alloc (.cells #[.bool false, .string ⟨#[]⟩, .bool false, .string ⟨#[]⟩, .bool false, .string ⟨#[]⟩, .bool false, .string ⟨#[]⟩] 40)) b_i 40 [.bool false, .string ⟨#[]⟩, .bool false, .string ⟨#[]⟩, .bool false, .string ⟨#[]⟩, .bool false, .string ⟨#[]⟩] := by rw [hb_i]; exact Blk.new (w5.drew.alloc (.cells #[.bool false, .string ⟨#[]⟩, .bool false, .string ⟨#[]⟩] 27)) _ _
     have hge_i : w5.heap.size ≤ b_i := by rw [hb_i]; exact HBL.out.size
     have far_w_i : b_w < b_i := by rw [hb_i]; exact hlt_w
     clear hlt_w
     have k_w := HW.out.keep hal
     have tl := HBL.out.trans ((hal).mono HBL.out.size)
     clear HBL HW
     have HW := zh k_w; clear k_w
     have HBL := zh tl; clear tl
     clear hal
     have HI := zh k_i; clear k_i
     (try simp only [World.size_drew, World.size_alloc] at hb_i)
     (try rw [← hb_i])
     have HB_i := zh hb_i; clear hb_i
     have hgi := hge_i
     have hpi : ¬ b1 = b_i := by omega
     have hqi : ¬ b_i = b1 := by omega
     have hne : b_i ≠ b_w := by omega
     have hne2 : ¬ b_w = b_i := by omega
     have hne3 : ¬ b_i = b_w := by omega
     refine wpAnyH_ready (rs := [11]) (by kernel_rfl) (by simp) ?_
     refine (AllReadyH.cons rfl (fun K hK => ?_) AllReadyH.nil)
     ·
      go_simp
      go_at_call 28
      rw [HPW2.out]
      refine (HRT.out _).mono ?_
      rintro e w61 ⟨hq, rfl⟩
      dsimp only
      have z0 := zK hq (Nat.lt_of_lt_of_le hb1 HBL.out.size) hHeld2.1
      have z1 := zK hq (Nat.lt_of_lt_of_le hb1 HBL.out.size) hHeld2.2.1
      have z2 := zK hq (Nat.lt_of_lt_of_le hb1 HBL.out.size) hHeld2.2.2.1
      have z3 := zK hq (Nat.lt_of_lt_of_le hb1 HBL.out.size) hHeld2.2.2.2.1
      have z4 := zK hq (Nat.lt_of_lt_of_le hb1 HBL.out.size) hHeld2.2.2.2.2.1
      have z5 := zK hq (Nat.lt_of_lt_of_le hb1 HBL.out.size) hHeld2.2.2.2.2.2.1
      have z6 := zK hq (Nat.lt_of_lt_of_le hb1 HBL.out.size) hHeld2.2.2.2.2.2.2.1
      have z7 := zK hq (Nat.lt_of_lt_of_le hb1 HBL.out.size) hHeld2.2.2.2.2.2.2.2
      refine hK.out _ _ ⟨z0, z1, z2, z3, z4, z5, z6, z7⟩ (fun hHeld3 => ?_)
      clear hK K hHeld2 z0 z1 z2 z3 z4 z5 z6 z7
      (try simp only [Act.put, zA, zB, zC])
      have k_w := HW.out.keep hq
      have k_i := HI.out.keep hq
      have tl := HBL.out.trans ((hq).mono HBL.out.size)
      clear HBL HW HI
      have HW := zh k_w; clear k_w
      have HI := zh k_i; clear k_i
      have HBL := zh tl; clear tl
      clear hq
      refine wpAnyH_ready (rs := [14]) (by kernel_rfl) (by simp) ?_
      refine (AllReadyH.cons rfl (fun K hK => ?_) AllReadyH.nil)
      ·
       have k_i := HI.out
       obtain ⟨i_0, i_f0, i_1, i_f1, i_2, i_f2, i_3, i_f3, i_4, i_f4, i_5, i_f5, i_6, i_f6, i_7, i_f7⟩ := k_i.f8
       clear k_i
       go_simp
       refine hK.out _ _ ?_ (fun hHeld4 => ?_)
       ·
        ((try dsimp only); go_keep)
       clear hK K
       (try simp only [Act.put, zA, zB, zC])
       clear i_0 i_f0 i_1 i_f1 i_2 i_f2 i_3 i_f3 i_4 i_f4 i_5 i_f5 i_6 i_f6 i_7 i_f7
       obtain ⟨w62, hw_⟩ : ∃ x, x = ((((((((w61).setCell ⟨b_i, 0, none⟩ (.bool (ineg lo.num))).setCell ⟨b_i, 1, none⟩ (.string (imag lo.num))).setCell ⟨b_i, 2, none⟩ (.bool (ineg (lo.den : Int)))).setCell ⟨b_i, 3, none⟩ (.string (imag (lo.den : Int)))).setCell ⟨b_i, 4, none⟩ (.bool (ineg hi.num))).setCell ⟨b_i, 5, none⟩ (.string (imag hi.num))).setCell ⟨b_i, 6, none⟩ (.bool (ineg (hi.den : Int)))).setCell ⟨b_i, 7, none⟩ (.string (imag (hi.den : Int))) := ⟨_, rfl⟩
       (try rw [← hw_])
       (try rw [← hw_] at hHeld4)
       have k_w : Blk w62 (b_w) 27 [.bool false, .string ⟨#[]⟩, .bool false, .string ⟨#[]⟩] := by rw [hw_]; exact HW.out.o8 (by omega)
       have k_i : Blk w62 (b_i) 40 [.bool (ineg lo.num), .string (imag lo.num), .bool (ineg (lo.den : Int)), .string (imag (lo.den : Int)), .bool (ineg hi.num), .string (imag hi.num), .bool (ineg (hi.den : Int)), .string (imag (hi.den : Int))] := by rw [hw_]; exact HI.out.s8
       have tl : Below w5.heap.size w5 w62 := by rw [hw_]; exact bc8 HBL.out (by omega)
       clear HBL hw_ HW HI
       have HW := zh k_w; clear k_w
       have HI := zh k_i; clear k_i
       have HBL := zh tl; clear tl
       refine wpAnyH_ready (rs := [15]) (by kernel_rfl) (by simp) ?_
       refine (AllReadyH.cons rfl (fun K hK => ?_) AllReadyH.nil)
       ·
        have k_w := HW.out
        obtain ⟨w_0, w_f0, w_1, w_f1, w_2, w_f2, w_3, w_f3⟩ := k_w.f4
        clear k_w
        go_simp
        refine hK.out _ _ ?_ (fun hHeld5 => ?_)
        ·
         ((try dsimp only); go_keep)
        clear hK K
        (try simp only [Act.put, zA, zB, zC])
        clear w_0 w_f0 w_1 w_f1 w_2 w_f2 w_3 w_f3
        obtain ⟨w63, hw_⟩ : ∃ x, x = ((((w62).setCell ⟨b_w, 0, none⟩ (.bool (ineg wd.num))).setCell ⟨b_w, 1, none⟩ (.string (imag wd.num))).setCell ⟨b_w, 2, none⟩ (.bool (ineg (wd.den : Int)))).setCell ⟨b_w, 3, none⟩ (.string (imag (wd.den : Int))) := ⟨_, rfl⟩
        (try rw [← hw_])
        (try rw [← hw_] at hHeld5)
        have k_w : Blk w63 (b_w) 27 [.bool (ineg wd.num), .string (imag wd.num), .bool (ineg (wd.den : Int)), .string (imag (wd.den : Int))] := by rw [hw_]; exact HW.out.s4
        have k_i : Blk w63 (b_i) 40 [.bool (ineg lo.num), .string (imag lo.num), .bool (ineg (lo.den : Int)), .string (imag (lo.den : Int)), .bool (ineg hi.num), .string (imag hi.num), .bool (ineg (hi.den : Int)), .string (imag (hi.den : Int))] := by rw [hw_]; exact HI.out.o4 (by omega)
        have tl : Below w5.heap.size w5 w63 := by rw [hw_]; exact bc4 HBL.out (by omega)
        clear HBL hw_ HW HI
        have HW := zh k_w; clear k_w
        have HI := zh k_i; clear k_i
        have HBL := zh tl; clear tl
        refine wpAnyH_done (by kernel_rfl) ?_ _
        (try simp only [List.getElem_toArray, List.getElem_cons_zero, List.getElem_cons_succ, Act.put, zA, zB, zC])
        go_wp2_with fail
        go_meet
        exact ⟨_, _, rfl, rfl, hne, hgi, hgw, HBL.out, HI.out, HW.out⟩
  case rest =>
   obtain ⟨bi, bw, rfl, rfl, hne, hgi, hgw, tl, k_i, k_w⟩ := hcut
   clear HBL p0 p1 p2 p3 p4 p5 p6 p7
   obtain ⟨i_0, i_f0, i_1, i_f1, i_2, i_f2, i_3, i_f3, i_4, i_f4, i_5, i_f5, i_6, i_f6, i_7, i_f7⟩ := k_i.f8
   have HI := zh k_i; clear k_i
   obtain ⟨w_0, w_f0, w_1, w_f1, w_2, w_f2, w_3, w_f3⟩ := k_w.f4
   have HW := zh k_w; clear k_w
   have HBL := zh tl; clear tl
   have hrfc := HRFC.out _ (HRW.out.below HBL.out (Nat.le_refl _))
   have HRFC1 := zh hrfc; clear hrfc
   go_wp2_with fail
   refine (HRFC1.out).mono ?_
   rintro e w201 ⟨hq, rfl⟩
   dsimp only
   have k_i := HI.out.keep hq
   have k_w := HW.out.keep hq
   have tl := HBL.out.trans ((hq).mono HBL.out.size)
   clear HBL HI HW
   clear i_0 i_f0 i_1 i_f1 i_2 i_f2 i_3 i_f3 i_4 i_f4 i_5 i_f5 i_6 i_f6 i_7 i_f7
   obtain ⟨i_0, i_f0, i_1, i_f1, i_2, i_f2, i_3, i_f3, i_4, i_f4, i_5, i_f5, i_6, i_f6, i_7, i_f7⟩ := k_i.f8
   have HI := zh k_i; clear k_i
   clear w_0 w_f0 w_1 w_f1 w_2 w_f2 w_3 w_f3
   obtain ⟨w_0, w_f0, w_1, w_f1, w_2, w_f2, w_3, w_f3⟩ := k_w.f4
   have HW := zh k_w; clear k_w
   have HBL := zh tl; clear tl
   clear hq
   have hlt_i := HI.out.lt
   have hlt_w := HW.out.lt
   obtain ⟨b_x, hb_x⟩ : ∃ b, b = w201.heap.size := ⟨_, rfl⟩
   have hal : Below w201.heap.size w201 (w201.alloc (.cells #[.bool (ineg xl.num), .string (imag xl.num), .bool (ineg (xl.den : Int)), .string (imag (xl.den : Int)), .bool (ineg xh.num), .string (imag xh.num), .bool (ineg (xh.den : Int)), .string (imag (xh.den : Int))] 40)) := (Below.refl _ _).alloc (Nat.le_refl _) _
   have k_x : Blk (w201.alloc (.cells #[.bool (ineg xl.num), .string (imag xl.num), .bool (ineg (xl.den : Int)), .string (imag (xl.den : Int)), .bool (ineg xh.num), .string (imag xh.num), .bool (ineg (xh.den : Int)), .string (imag (xh.den : Int))] 40)) b_x 40 [.bool (ineg xl.num), .string (imag xl.num), .bool (ineg (xl.den : Int)), .string (imag (xl.den : Int)), .bool (ineg xh.num), .string (imag xh.num), .bool (ineg (xh.den : Int)), .string (imag (xh.den : Int))] := by rw [hb_x]; exact Blk.new w201 _ _
   have hge_x : w5.heap.size ≤ b_x := by rw [hb_x]; exact HBL.out.size
   have far_i_x : bi < b_x := by rw [hb_x]; exact hlt_i
   clear hlt_i
   have far_w_x : bw < b_x := by rw [hb_x]; exact hlt_w
   clear hlt_w
   have k_i := HI.out.keep hal
   have k_w := HW.out.keep hal
   have tl := HBL.out.trans ((hal).mono HBL.out.size)
   clear HBL HI HW
   clear i_0 i_f0 i_1 i_f1 i_2 i_f2 i_3 i_f3 i_4 i_f4 i_5 i_f5 i_6 i_f6 i_7 i_f7
   obtain ⟨i_0, i_f0, i_1, i_f1, i_2, i_f2, i_3, i_f3, i_4, i_f4, i_5, i_f5, i_6, i_f6, i_7, i_f7⟩ := k_i.f8
   have HI := zh k_i; clear k_i
   clear w_0 w_f0 w_1 w_f1 w_2 w_f2 w_3 w_f3
   obtain ⟨w_0, w_f0, w_1, w_f1, w_2, w_f2, w_3, w_f3⟩ := k_w.f4
   have HW := zh k_w; clear k_w
   have HBL := zh tl; clear tl
   clear hal
   obtain ⟨x_0, x_f0, x_1, x_f1, x_2, x_f2, x_3, x_f3, x_4, x_f4, x_5, x_f5, x_6, x_f6, x_7, x_f7⟩ := k_x.f8
   have HX := zh k_x; clear k_x
   go_wp2_with fail
   (try rw [← hb_x])
   have HB_x := zh hb_x; clear hb_x
   have hct := HCT.out _ (HRW.out.below HBL.out (Nat.le_refl _))
   have HCT1 := zh hct; clear hct
   refine (HCT1.out).mono ?_
   rintro e w202 ⟨hq, rfl⟩
   dsimp only
   have k_i := HI.out.keep hq
   have k_w := HW.out.keep hq
   have k_x := HX.out.keep hq
   have tl := HBL.out.trans ((hq).mono HBL.out.size)
   clear HBL HI HW HX
   clear i_0 i_f0 i_1 i_f1 i_2 i_f2 i_3 i_f3 i_4 i_f4 i_5 i_f5 i_6 i_f6 i_7 i_f7
   obtain ⟨i_0, i_f0, i_1, i_f1, i_2, i_f2, i_3, i_f3, i_4, i_f4, i_5, i_f5, i_6, i_f6, i_7, i_f7⟩ := k_i.f8
   have HI := zh k_i; clear k_i
   clear w_0 w_f0 w_1 w_f1 w_2 w_f2 w_3 w_f3
   obtain ⟨w_0, w_f0, w_1, w_f1, w_2, w_f2, w_3, w_f3⟩ := k_w.f4
   have HW := zh k_w; clear k_w
   clear x_0 x_f0 x_1 x_f1 x_2 x_f2 x_3 x_f3 x_4 x_f4 x_5 x_f5 x_6 x_f6 x_7 x_f7
   obtain ⟨x_0, x_f0, x_1, x_f1, x_2, x_f2, x_3, x_f3, x_4, x_f4, x_5, x_f5, x_6, x_f6, x_7, x_f7⟩ := k_x.f8
   have HX := zh k_x; clear k_x
   have HBL := zh tl; clear tl
   clear hq
   go_wp2_with fail
   refine (HSUB.out _).mono ?_
   rintro e w203 ⟨hq, rfl⟩
   dsimp only
   have k_i := HI.out.keep hq
   have k_w := HW.out.keep hq
   have k_x := HX.out.keep hq
   have tl := HBL.out.trans ((hq).mono HBL.out.size)
   clear HBL HI HW HX
   clear i_0 i_f0 i_1 i_f1 i_2 i_f2 i_3 i_f3 i_4 i_f4 i_5 i_f5 i_6 i_f6 i_7 i_f7
   obtain ⟨i_0, i_f0, i_1, i_f1, i_2, i_f2, i_3, i_f3, i_4, i_f4, i_5, i_f5, i_6, i_f6, i_7, i_f7⟩ := k_i.f8
   have HI := zh k_i; clear k_i
   clear w_0 w_f0 w_1 w_f1 w_2 w_f2 w_3 w_f3
   obtain ⟨w_0, w_f0, w_1, w_f1, w_2, w_f2, w_3, w_f3⟩ := k_w.f4
   have HW := zh k_w; clear k_w
   clear x_0 x_f0 x_1 x_f1 x_2 x_f2 x_3 x_f3 x_4 x_f4 x_5 x_f5 x_6 x_f6 x_7 x_f7
   obtain ⟨x_0, x_f0, x_1, x_f1, x_2, x_f2, x_3, x_f3, x_4, x_f4, x_5, x_f5, x_6, x_f6, x_7, x_f7⟩ := k_x.f8
   have HX := zh k_x; clear k_x
   have HBL := zh tl; clear tl
   clear hq
   have hlt_i := HI.out.lt
   have hlt_w := HW.out.lt
   have hlt_x := HX.out.lt
   obtain ⟨b_s, hb_s⟩ : ∃ b, b = w203.heap.size := ⟨_, rfl⟩
   have hal : Below w203.heap.size w203 (w203.alloc (.cells #[.bool (ineg sz.num), .string (imag sz.num), .bool (ineg (sz.den : Int)), .string (imag (sz.den : Int))] 27)) := (Below.refl _ _).alloc (Nat.le_refl _) _
   have k_s : Blk (w203.alloc (.cells #[.bool (ineg sz.num), .string (imag sz.num), .bool (ineg (sz.den : Int)), .string (imag (sz.den : Int))] 27)) b_s 27 [.bool (ineg sz.num), .string (imag sz.num), .bool (ineg (sz.den : Int)), .string (imag (sz.den : Int))] := by rw [hb_s]; exact Blk.new w203 _ _
   have hge_s : w5.heap.size ≤ b_s := by rw [hb_s]; exact HBL.out.size
   have far_i_s : bi < b_s := by rw [hb_s]; exact hlt_i
   clear hlt_i
   have far_w_s : bw < b_s := by rw [hb_s]; exact hlt_w
   clear hlt_w
   have far_x_s : b_x < b_s := by rw [hb_s]; exact hlt_x
   clear hlt_x
   have k_i := HI.out.keep hal
   have k_w := HW.out.keep hal
   have k_x := HX.out.keep hal
   have tl := HBL.out.trans ((hal).mono HBL.out.size)
   clear HBL HI HW HX
   clear i_0 i_f0 i_1 i_f1 i_2 i_f2 i_3 i_f3 i_4 i_f4 i_5 i_f5 i_6 i_f6 i_7 i_f7
   obtain ⟨i_0, i_f0, i_1, i_f1, i_2, i_f2, i_3, i_f3, i_4, i_f4, i_5, i_f5, i_6, i_f6, i_7, i_f7⟩ := k_i.f8
   have HI := zh k_i; clear k_i
   clear w_0 w_f0 w_1 w_f1 w_2 w_f2 w_3 w_f3
   obtain ⟨w_0, w_f0, w_1, w_f1, w_2, w_f2, w_3, w_f3⟩ := k_w.f4
   have HW := zh k_w; clear k_w
   clear x_0 x_f0 x_1 x_f1 x_2 x_f2 x_3 x_f3 x_4 x_f4 x_5 x_f5 x_6 x_f6 x_7 x_f7
   obtain ⟨x_0, x_f0, x_1, x_f1, x_2, x_f2, x_3, x_f3, x_4, x_f4, x_5, x_f5, x_6, x_f6, x_7, x_f7⟩ := k_x.f8
   have HX := zh k_x; clear k_x
   have HBL := zh tl; clear tl
   clear hal
   obtain ⟨s_0, s_f0, s_1, s_f1, s_2, s_f2, s_3, s_f3⟩ := k_s.f4
   have HS := zh k_s; clear k_s
   go_wp2_with fail
   (try rw [← hb_s])
   have HB_s := zh hb_s; clear hb_s
   refine (HM1.out _).mono ?_
   rintro e w204 ⟨hq, rfl⟩
   dsimp only
   have k_i := HI.out.keep hq
   have k_w := HW.out.keep hq
   have k_x := HX.out.keep hq
   have k_s := HS.out.keep hq
   have tl := HBL.out.trans ((hq).mono HBL.out.size)
   clear HBL HI HW HX HS
   clear i_0 i_f0 i_1 i_f1 i_2 i_f2 i_3 i_f3 i_4 i_f4 i_5 i_f5 i_6 i_f6 i_7 i_f7
   obtain ⟨i_0, i_f0, i_1, i_f1, i_2, i_f2, i_3, i_f3, i_4, i_f4, i_5, i_f5, i_6, i_f6, i_7, i_f7⟩ := k_i.f8
   have HI := zh k_i; clear k_i
   clear w_0 w_f0 w_1 w_f1 w_2 w_f2 w_3 w_f3
   obtain ⟨w_0, w_f0, w_1, w_f1, w_2, w_f2, w_3, w_f3⟩ := k_w.f4
   have HW := zh k_w; clear k_w
   clear x_0 x_f0 x_1 x_f1 x_2 x_f2 x_3 x_f3 x_4 x_f4 x_5 x_f5 x_6 x_f6 x_7 x_f7
   obtain ⟨x_0, x_f0, x_1, x_f1, x_2, x_f2, x_3, x_f3, x_4, x_f4, x_5, x_f5, x_6, x_f6, x_7, x_f7⟩ := k_x.f8
   have HX := zh k_x; clear k_x
   clear s_0 s_f0 s_1 s_f1 s_2 s_f2 s_3 s_f3
   obtain ⟨s_0, s_f0, s_1, s_f1, s_2, s_f2, s_3, s_f3⟩ := k_s.f4
   have HS := zh k_s; clear k_s
   have HBL := zh tl; clear tl
   clear hq
   go_wp2_with fail
   refine (HM2.out _).mono ?_
   rintro e w205 ⟨hq, rfl⟩
   dsimp only
   have k_i := HI.out.keep hq
   have k_w := HW.out.keep hq
   have k_x := HX.out.keep hq
   have k_s := HS.out.keep hq
   have tl := HBL.out.trans ((hq).mono HBL.out.size)
   clear HBL HI HW HX HS
   clear i_0 i_f0 i_1 i_f1 i_2 i_f2 i_3 i_f3 i_4 i_f4 i_5 i_f5 i_6 i_f6 i_7 i_f7
   obtain ⟨i_0, i_f0, i_1, i_f1, i_2, i_f2, i_3, i_f3, i_4, i_f4, i_5, i_f5, i_6, i_f6, i_7, i_f7⟩ := k_i.f8
   have HI := zh k_i; clear k_i
   clear w_0 w_f0 w_1 w_f1 w_2 w_f2 w_3 w_f3
   obtain ⟨w_0, w_f0, w_1, w_f1, w_2, w_f2, w_3, w_f3⟩ := k_w.f4
   have HW := zh k_w; clear k_w
   clear x_0 x_f0 x_1 x_f1 x_2 x_f2 x_3 x_f3 x_4 x_f4 x_5 x_f5 x_6 x_f6 x_7 x_f7
   obtain ⟨x_0, x_f0, x_1, x_f1, x_2, x_f2, x_3, x_f3, x_4, x_f4, x_5, x_f5, x_6, x_f6, x_7, x_f7⟩ := k_x.f8
   have HX := zh k_x; clear k_x
   clear s_0 s_f0 s_1 s_f1 s_2 s_f2 s_3 s_f3
   obtain ⟨s_0, s_f0, s_1, s_f1, s_2, s_f2, s_3, s_f3⟩ := k_s.f4
   have HS := zh k_s; clear k_s
   have HBL := zh tl; clear tl
   clear hq
   go_wp2_with fail
   refine (HM3.out _).mono ?_
   rintro e w206 ⟨hq, rfl⟩
   dsimp only
   have k_i := HI.out.keep hq
   have k_w := HW.out.keep hq
   have k_x := HX.out.keep hq
   have k_s := HS.out.keep hq
   have tl := HBL.out.trans ((hq).mono HBL.out.size)
   clear HBL HI HW HX HS
   clear i_0 i_f0 i_1 i_f1 i_2 i_f2 i_3 i_f3 i_4 i_f4 i_5 i_f5 i_6 i_f6 i_7 i_f7
   obtain ⟨i_0, i_f0, i_1, i_f1, i_2, i_f2, i_3, i_f3, i_4, i_f4, i_5, i_f5, i_6, i_f6, i_7, i_f7⟩ := k_i.f8
   have HI := zh k_i; clear k_i
   clear w_0 w_f0 w_1 w_f1 w_2 w_f2 w_3 w_f3
   obtain ⟨w_0, w_f0, w_1, w_f1, w_2, w_f2, w_3, w_f3⟩ := k_w.f4
   have HW := zh k_w; clear k_w
   clear x_0 x_f0 x_1 x_f1 x_2 x_f2 x_3 x_f3 x_4 x_f4 x_5 x_f5 x_6 x_f6 x_7 x_f7
   obtain ⟨x_0, x_f0, x_1, x_f1, x_2, x_f2, x_3, x_f3, x_4, x_f4, x_5, x_f5, x_6, x_f6, x_7, x_f7⟩ := k_x.f8
   have HX := zh k_x; clear k_x
   clear s_0 s_f0 s_1 s_f1 s_2 s_f2 s_3 s_f3
   obtain ⟨s_0, s_f0, s_1, s_f1, s_2, s_f2, s_3, s_f3⟩ := k_s.f4
   have HS := zh k_s; clear k_s
   have HBL := zh tl; clear tl
   clear hq
   go_wp2_with fail
   by_cases hN0 : N = 0
   ·
    have hXe := HX0.out hN0
    have h1 : xl = lo := congrArg Prod.fst hXe
    have h2 : xh = hi := congrArg Prod.snd hXe
    clear hXe HX0 HN7 hN0
    subst h1
    subst h2
    have heq := fun w' => eqIn_ivl_same (ineg xl.num) (ineg (xl.den : Int)) (ineg xh.num) (ineg (xh.den : Int)) (imag xl.num) (imag (xl.den : Int)) (imag xh.num) (imag (xh.den : Int)) w'
    have HI := zh HI.out.drew
    have HW := zh HW.out.drew
    have HX := zh HX.out.drew
    have HS := zh HS.out.drew
    have HBL := zh HBL.out.drew
    refine wp_region_held_drew (S := fun w' => w'.cell? ⟨b_x, 0, none⟩ = some (.bool (ineg xl.num)) ∧ w'.cell? ⟨b_x, 1, none⟩ = some (.string (imag xl.num)) ∧ w'.cell? ⟨b_x, 2, none⟩ = some (.bool (ineg (xl.den : Int))) ∧ w'.cell? ⟨b_x, 3, none⟩ = some (.string (imag (xl.den : Int))) ∧ w'.cell? ⟨b_x, 4, none⟩ = some (.bool (ineg xh.num)) ∧ w'.cell? ⟨b_x, 5, none⟩ = some (.string (imag xh.num)) ∧ w'.cell? ⟨b_x, 6, none⟩ = some (.bool (ineg (xh.den : Int))) ∧ w'.cell? ⟨b_x, 7, none⟩ = some (.string (imag (xh.den : Int))) ∧ w'.cell? ⟨bi, 0, none⟩ = some (.bool (ineg xl.num)) ∧ w'.cell? ⟨bi, 1, none⟩ = some (.string (imag xl.num)) ∧ w'.cell? ⟨bi, 2, none⟩ = some (.bool (ineg (xl.den : Int))) ∧ w'.cell? ⟨bi, 3, none⟩ = some (.string (imag (xl.den : Int))) ∧ w'.cell? ⟨bi, 4, none⟩ = some (.bool (ineg xh.num)) ∧ w'.cell? ⟨bi, 5, none⟩ = some (.string (imag xh.num)) ∧ w'.cell? ⟨bi, 6, none⟩ = some (.bool (ineg (xh.den : Int))) ∧ w'.cell? ⟨bi, 7, none⟩ = some (.string (imag (xh.den : Int))) ∧ w'.cell? ⟨b_s, 0, none⟩ = some (.bool (ineg sz.num)) ∧ w'.cell? ⟨b_s, 1, none⟩ = some (.string (imag sz.num)) ∧ w'.cell? ⟨b_s, 2, none⟩ = some (.bool (ineg (sz.den : Int))) ∧ w'.cell? ⟨b_s, 3, none⟩ = some (.string (imag (sz.den : Int))) ∧ w'.cell? ⟨bw, 0, none⟩ = some (.bool (ineg wd.num)) ∧ w'.cell? ⟨bw, 1, none⟩ = some (.string (imag wd.num)) ∧ w'.cell? ⟨bw, 2, none⟩ = some (.bool (ineg (wd.den : Int))) ∧ w'.cell? ⟨bw, 3, none⟩ = some (.string (imag (wd.den : Int)))) (by kernel_rfl) ?_ (fun hHeld0 => ?_)
    ·
     go_keep
    refine zT 0 (h := ?_)
    (try simp only [Act.put, zA, zB, zC])
    refine zT 1 (h := ?_)
    (try simp only [Act.put, zA, zB, zC])
    refine zT 2 (h := ?_)
    (try simp only [Act.put, zA, zB, zC])
    refine zT 3 (h := ?_)
    (try simp only [Act.put, zA, zB, zC])
    refine wpAnyH_take (i := 4) (v := undef) rfl (by kernel_rfl) (by kernel_rfl) (by kernel_rfl) (fun _ _ _ h => h) (Or.inr ⟨by kernel_rfl, rfl⟩) (by assumption) ?_
    (try simp only [Act.put, zA, zB, zC])
    refine wpAnyH_take (i := 5) (v := undef) rfl (by kernel_rfl) (by kernel_rfl) (by kernel_rfl) (fun _ _ _ h => h) (Or.inr ⟨by kernel_rfl, rfl⟩) (by assumption) ?_
    (try simp only [Act.put, zA, zB, zC])
    refine wpAnyH_take (i := 7) (v := undef) rfl (by kernel_rfl) (by kernel_rfl) (by kernel_rfl) (fun _ _ _ h => h) (Or.inr ⟨by kernel_rfl, rfl⟩) (by assumption) ?_
    (try simp only [Act.put, zA, zB, zC])
    refine zR 6 (h := fun K hK => ?_)
    rw [if_neg (Bool.eq_false_iff.1 (by kernel_rfl))]
    refine hK.out _ _ hHeld0 (fun hHeld1 => ?_)
    clear hK K hHeld0
    (try simp only [Act.put, zA, zB, zC])
    refine zR 8 (h := fun K hK => ?_)
    rw [if_neg (Bool.eq_false_iff.1 (by kernel_rfl))]
    refine hK.out _ _ hHeld1 (fun hHeld2 => ?_)
    clear hK K hHeld1
    (try simp only [Act.put, zA, zB, zC])
    refine wpAnyH_take (i := 9) (v := undef) rfl (by kernel_rfl) (by kernel_rfl) (by kernel_rfl) (fun _ _ _ h => h) (Or.inr ⟨by kernel_rfl, rfl⟩) (by assumption) ?_
    (try simp only [Act.put, zA, zB, zC])
    refine zT 10 (h := ?_)
    (try simp only [Act.put, zA, zB, zC])
    refine zT 11 (h := ?_)
    (try simp only [Act.put, zA, zB, zC])
    refine zR 12 (h := fun K hK => ?_)
    rw [if_pos (by kernel_rfl)]
    go_simp
    go_at_call 15
    refine (awake5_true _).mono ?_
    rintro e w207 ⟨hq, rfl⟩
    dsimp only
    have z0 := zK hq HX.out.lt hHeld2.1
    have z1 := zK hq HX.out.lt hHeld2.2.1
    have z2 := zK hq HX.out.lt hHeld2.2.2.1
    have z3 := zK hq HX.out.lt hHeld2.2.2.2.1
    have z4 := zK hq HX.out.lt hHeld2.2.2.2.2.1
    have z5 := zK hq HX.out.lt hHeld2.2.2.2.2.2.1
    have z6 := zK hq HX.out.lt hHeld2.2.2.2.2.2.2.1
    have z7 := zK hq HX.out.lt hHeld2.2.2.2.2.2.2.2.1
    have z8 := zK hq HI.out.lt hHeld2.2.2.2.2.2.2.2.2.1
    have z9 := zK hq HI.out.lt hHeld2.2.2.2.2.2.2.2.2.2.1
    have z10 := zK hq HI.out.lt hHeld2.2.2.2.2.2.2.2.2.2.2.1
    have z11 := zK hq HI.out.lt hHeld2.2.2.2.2.2.2.2.2.2.2.2.1
    have z12 := zK hq HI.out.lt hHeld2.2.2.2.2.2.2.2.2.2.2.2.2.1
    have z13 := zK hq HI.out.lt hHeld2.2.2.2.2.2.2.2.2.2.2.2.2.2.1
    have z14 := zK hq HI.out.lt hHeld2.2.2.2.2.2.2.2.2.2.2.2.2.2.2.1
    have z15 := zK hq HI.out.lt hHeld2.2.2.2.2.2.2.2.2.2.2.2.2.2.2.2.1
    have z16 := zK hq HS.out.lt hHeld2.2.2.2.2.2.2.2.2.2.2.2.2.2.2.2.2.1
    have z17 := zK hq HS.out.lt hHeld2.2.2.2.2.2.2.2.2.2.2.2.2.2.2.2.2.2.1
    have z18 := zK hq HS.out.lt hHeld2.2.2.2.2.2.2.2.2.2.2.2.2.2.2.2.2.2.2.1
    have z19 := zK hq HS.out.lt hHeld2.2.2.2.2.2.2.2.2.2.2.2.2.2.2.2.2.2.2.2.1
    have z20 := zK hq HW.out.lt hHeld2.2.2.2.2.2.2.2.2.2.2.2.2.2.2.2.2.2.2.2.2.1
    have z21 := zK hq HW.out.lt hHeld2.2.2.2.2.2.2.2.2.2.2.2.2.2.2.2.2.2.2.2.2.2.1
    have z22 := zK hq HW.out.lt hHeld2.2.2.2.2.2.2.2.2.2.2.2.2.2.2.2.2.2.2.2.2.2.2.1
    have z23 := zK hq HW.out.lt hHeld2.2.2.2.2.2.2.2.2.2.2.2.2.2.2.2.2.2.2.2.2.2.2.2
    refine hK.out _ _ ⟨z0, z1, z2, z3, z4, z5, z6, z7, z8, z9, z10, z11, z12, z13, z14, z15, z16, z17, z18, z19, z20, z21, z22, z23⟩ (fun hHeld3 => ?_)
    clear hK K hHeld2 z0 z1 z2 z3 z4 z5 z6 z7 z8 z9 z10 z11 z12 z13 z14 z15 z16 z17 z18 z19 z20 z21 z22 z23
    (try simp only [Act.put, zA, zB, zC])
    have k_i := HI.out.keep hq
    have k_w := HW.out.keep hq
    have k_x := HX.out.keep hq
    have k_s := HS.out.keep hq
    have tl := HBL.out.trans ((hq).mono HBL.out.size)
    clear HBL HI HW HX HS
    clear i_0 i_f0 i_1 i_f1 i_2 i_f2 i_3 i_f3 i_4 i_f4 i_5 i_f5 i_6 i_f6 i_7 i_f7
    obtain ⟨i_0, i_f0, i_1, i_f1, i_2, i_f2, i_3, i_f3, i_4, i_f4, i_5, i_f5, i_6, i_f6, i_7, i_f7⟩ := k_i.f8
    have HI := zh k_i; clear k_i
    clear w_0 w_f0 w_1 w_f1 w_2 w_f2 w_3 w_f3
    obtain ⟨w_0, w_f0, w_1, w_f1, w_2, w_f2, w_3, w_f3⟩ := k_w.f4
    have HW := zh k_w; clear k_w
    clear x_0 x_f0 x_1 x_f1 x_2 x_f2 x_3 x_f3 x_4 x_f4 x_5 x_f5 x_6 x_f6 x_7 x_f7
    obtain ⟨x_0, x_f0, x_1, x_f1, x_2, x_f2, x_3, x_f3, x_4, x_f4, x_5, x_f5, x_6, x_f6, x_7, x_f7⟩ := k_x.f8
    have HX := zh k_x; clear k_x
    clear s_0 s_f0 s_1 s_f1 s_2 s_f2 s_3 s_f3
    obtain ⟨s_0, s_f0, s_1, s_f1, s_2, s_f2, s_3, s_f3⟩ := k_s.f4
    have HS := zh k_s; clear k_s
    have HBL := zh tl; clear tl
    clear hq
    refine zT 13 (h := ?_)
    (try simp only [Act.put, zA, zB, zC])
    refine zT 14 (h := ?_)
    (try simp only [Act.put, zA, zB, zC])
    refine wpAnyH_done (by kernel_rfl) ?_ _
    (try simp only [List.getElem_toArray, List.getElem_cons_zero, List.getElem_cons_succ, Act.put, zA, zB, zC])
    go_wp2_with fail
    go_ret
    exact ⟨HF5.out.trans (HBL.out.mono HF5.out.size), rfl⟩
   ·
    obtain ⟨h3, h4⟩ := HN7.out (by omega)
    have c4 := cmpq_gt h3
    obtain ⟨e4, he4⟩ : ∃ c, c = cmpq (sz + sz) wd := ⟨_, rfl⟩
    have hm4 := fun w' => HM4.out w'
    simp only [← he4] at hm4
    rw [← he4] at c4
    have heq : ∀ w', (Op.equalIn 10000 40 (.agg #[.bool (ineg xl.num), .string (imag xl.num), .bool (ineg (xl.den : Int)), .string (imag (xl.den : Int)), .bool (ineg xh.num), .string (imag xh.num), .bool (ineg (xh.den : Int)), .string (imag (xh.den : Int))]) (.agg #[.bool (ineg lo.num), .string (imag lo.num), .bool (ineg (lo.den : Int)), .string (imag (lo.den : Int)), .bool (ineg hi.num), .string (imag hi.num), .bool (ineg (hi.den : Int)), .string (imag (hi.den : Int))])).run Tryz.prog w' = .ok false w' := fun w' => by
     have h9 := eqIn_ivlD (ineg xl.num) (ineg (xl.den : Int)) (ineg xh.num) (ineg (xh.den : Int)) (ineg lo.num) (ineg (lo.den : Int)) (ineg hi.num) (ineg (hi.den : Int)) (imag xl.num) (imag (xl.den : Int)) (imag xh.num) (imag (xh.den : Int)) (imag lo.num) (imag (lo.den : Int)) (imag hi.num) (imag (hi.den : Int)) w'
     rw [h9]
     congr 1
     cases h5 : (_ && _ : Bool) with
     | false => rfl
     | true =>
      exfalso
      rw [Bool.and_eq_true] at h5
      have h6 := cq_inj h5.1
      have h7 := cq_inj h5.2
      rw [h6, h7] at h4
      exact Rat.lt_irrefl h4
    have HM4' := zh hm4; clear hm4
    clear h3 h4 he4 HN7 HX0
    have HI := zh HI.out.drew
    have HW := zh HW.out.drew
    have HX := zh HX.out.drew
    have HS := zh HS.out.drew
    have HBL := zh HBL.out.drew
    refine wp_region_held_drew (S := fun w' => w'.cell? ⟨b_x, 0, none⟩ = some (.bool (ineg xl.num)) ∧ w'.cell? ⟨b_x, 1, none⟩ = some (.string (imag xl.num)) ∧ w'.cell? ⟨b_x, 2, none⟩ = some (.bool (ineg (xl.den : Int))) ∧ w'.cell? ⟨b_x, 3, none⟩ = some (.string (imag (xl.den : Int))) ∧ w'.cell? ⟨b_x, 4, none⟩ = some (.bool (ineg xh.num)) ∧ w'.cell? ⟨b_x, 5, none⟩ = some (.string (imag xh.num)) ∧ w'.cell? ⟨b_x, 6, none⟩ = some (.bool (ineg (xh.den : Int))) ∧ w'.cell? ⟨b_x, 7, none⟩ = some (.string (imag (xh.den : Int))) ∧ w'.cell? ⟨bi, 0, none⟩ = some (.bool (ineg lo.num)) ∧ w'.cell? ⟨bi, 1, none⟩ = some (.string (imag lo.num)) ∧ w'.cell? ⟨bi, 2, none⟩ = some (.bool (ineg (lo.den : Int))) ∧ w'.cell? ⟨bi, 3, none⟩ = some (.string (imag (lo.den : Int))) ∧ w'.cell? ⟨bi, 4, none⟩ = some (.bool (ineg hi.num)) ∧ w'.cell? ⟨bi, 5, none⟩ = some (.string (imag hi.num)) ∧ w'.cell? ⟨bi, 6, none⟩ = some (.bool (ineg (hi.den : Int))) ∧ w'.cell? ⟨bi, 7, none⟩ = some (.string (imag (hi.den : Int))) ∧ w'.cell? ⟨b_s, 0, none⟩ = some (.bool (ineg sz.num)) ∧ w'.cell? ⟨b_s, 1, none⟩ = some (.string (imag sz.num)) ∧ w'.cell? ⟨b_s, 2, none⟩ = some (.bool (ineg (sz.den : Int))) ∧ w'.cell? ⟨b_s, 3, none⟩ = some (.string (imag (sz.den : Int))) ∧ w'.cell? ⟨bw, 0, none⟩ = some (.bool (ineg wd.num)) ∧ w'.cell? ⟨bw, 1, none⟩ = some (.string (imag wd.num)) ∧ w'.cell? ⟨bw, 2, none⟩ = some (.bool (ineg (wd.den : Int))) ∧ w'.cell? ⟨bw, 3, none⟩ = some (.string (imag (wd.den : Int)))) (by kernel_rfl) ?_ (fun hHeld0 => ?_)
    ·
     go_keep
    refine zT 0 (h := ?_)
    (try simp only [Act.put, zA, zB, zC])
    refine zT 1 (h := ?_)
    (try simp only [Act.put, zA, zB, zC])
    refine zT 2 (h := ?_)
    (try simp only [Act.put, zA, zB, zC])
    refine zT 3 (h := ?_)
    (try simp only [Act.put, zA, zB, zC])
    refine zT 4 (h := ?_)
    (try simp only [Act.put, zA, zB, zC])
    refine zT 5 (h := ?_)
    (try simp only [Act.put, zA, zB, zC])
    refine zT 7 (h := ?_)
    (try simp only [Act.put, zA, zB, zC])
    refine zR 6 (h := fun K hK => ?_)
    rw [if_pos (by kernel_rfl)]
    go_simp
    go_at_call 32
    refine (HADD.out _).mono ?_
    rintro e w207 ⟨hq, rfl⟩
    dsimp only
    have z0 := zK hq HX.out.lt hHeld0.1
    have z1 := zK hq HX.out.lt hHeld0.2.1
    have z2 := zK hq HX.out.lt hHeld0.2.2.1
    have z3 := zK hq HX.out.lt hHeld0.2.2.2.1
    have z4 := zK hq HX.out.lt hHeld0.2.2.2.2.1
    have z5 := zK hq HX.out.lt hHeld0.2.2.2.2.2.1
    have z6 := zK hq HX.out.lt hHeld0.2.2.2.2.2.2.1
    have z7 := zK hq HX.out.lt hHeld0.2.2.2.2.2.2.2.1
    have z8 := zK hq HI.out.lt hHeld0.2.2.2.2.2.2.2.2.1
    have z9 := zK hq HI.out.lt hHeld0.2.2.2.2.2.2.2.2.2.1
    have z10 := zK hq HI.out.lt hHeld0.2.2.2.2.2.2.2.2.2.2.1
    have z11 := zK hq HI.out.lt hHeld0.2.2.2.2.2.2.2.2.2.2.2.1
    have z12 := zK hq HI.out.lt hHeld0.2.2.2.2.2.2.2.2.2.2.2.2.1
    have z13 := zK hq HI.out.lt hHeld0.2.2.2.2.2.2.2.2.2.2.2.2.2.1
    have z14 := zK hq HI.out.lt hHeld0.2.2.2.2.2.2.2.2.2.2.2.2.2.2.1
    have z15 := zK hq HI.out.lt hHeld0.2.2.2.2.2.2.2.2.2.2.2.2.2.2.2.1
    have z16 := zK hq HS.out.lt hHeld0.2.2.2.2.2.2.2.2.2.2.2.2.2.2.2.2.1
    have z17 := zK hq HS.out.lt hHeld0.2.2.2.2.2.2.2.2.2.2.2.2.2.2.2.2.2.1
    have z18 := zK hq HS.out.lt hHeld0.2.2.2.2.2.2.2.2.2.2.2.2.2.2.2.2.2.2.1
    have z19 := zK hq HS.out.lt hHeld0.2.2.2.2.2.2.2.2.2.2.2.2.2.2.2.2.2.2.2.1
    have z20 := zK hq HW.out.lt hHeld0.2.2.2.2.2.2.2.2.2.2.2.2.2.2.2.2.2.2.2.2.1
    have z21 := zK hq HW.out.lt hHeld0.2.2.2.2.2.2.2.2.2.2.2.2.2.2.2.2.2.2.2.2.2.1
    have z22 := zK hq HW.out.lt hHeld0.2.2.2.2.2.2.2.2.2.2.2.2.2.2.2.2.2.2.2.2.2.2.1
    have z23 := zK hq HW.out.lt hHeld0.2.2.2.2.2.2.2.2.2.2.2.2.2.2.2.2.2.2.2.2.2.2.2
    refine hK.out _ _ ⟨z0, z1, z2, z3, z4, z5, z6, z7, z8, z9, z10, z11, z12, z13, z14, z15, z16, z17, z18, z19, z20, z21, z22, z23⟩ (fun hHeld1 => ?_)
    clear hK K hHeld0 z0 z1 z2 z3 z4 z5 z6 z7 z8 z9 z10 z11 z12 z13 z14 z15 z16 z17 z18 z19 z20 z21 z22 z23
    (try simp only [Act.put, zA, zB, zC])
    have k_i := HI.out.keep hq
    have k_w := HW.out.keep hq
    have k_x := HX.out.keep hq
    have k_s := HS.out.keep hq
    have tl := HBL.out.trans ((hq).mono HBL.out.size)
    clear HBL HI HW HX HS
    clear i_0 i_f0 i_1 i_f1 i_2 i_f2 i_3 i_f3 i_4 i_f4 i_5 i_f5 i_6 i_f6 i_7 i_f7
    obtain ⟨i_0, i_f0, i_1, i_f1, i_2, i_f2, i_3, i_f3, i_4, i_f4, i_5, i_f5, i_6, i_f6, i_7, i_f7⟩ := k_i.f8
    have HI := zh k_i; clear k_i
    clear w_0 w_f0 w_1 w_f1 w_2 w_f2 w_3 w_f3
    obtain ⟨w_0, w_f0, w_1, w_f1, w_2, w_f2, w_3, w_f3⟩ := k_w.f4
    have HW := zh k_w; clear k_w
    clear x_0 x_f0 x_1 x_f1 x_2 x_f2 x_3 x_f3 x_4 x_f4 x_5 x_f5 x_6 x_f6 x_7 x_f7
    obtain ⟨x_0, x_f0, x_1, x_f1, x_2, x_f2, x_3, x_f3, x_4, x_f4, x_5, x_f5, x_6, x_f6, x_7, x_f7⟩ := k_x.f8
    have HX := zh k_x; clear k_x
    clear s_0 s_f0 s_1 s_f1 s_2 s_f2 s_3 s_f3
    obtain ⟨s_0, s_f0, s_1, s_f1, s_2, s_f2, s_3, s_f3⟩ := k_s.f4
    have HS := zh k_s; clear k_s
    have HBL := zh tl; clear tl
    clear hq
    refine zR 8 (h := fun K hK => ?_)
    rw [if_pos (by kernel_rfl)]
    go_simp
    go_at_call 31
    refine (HM4'.out _).mono ?_
    rintro e w208 ⟨hq, rfl⟩
    dsimp only
    have z0 := zK hq HX.out.lt hHeld1.1
    have z1 := zK hq HX.out.lt hHeld1.2.1
    have z2 := zK hq HX.out.lt hHeld1.2.2.1
    have z3 := zK hq HX.out.lt hHeld1.2.2.2.1
    have z4 := zK hq HX.out.lt hHeld1.2.2.2.2.1
    have z5 := zK hq HX.out.lt hHeld1.2.2.2.2.2.1
    have z6 := zK hq HX.out.lt hHeld1.2.2.2.2.2.2.1
    have z7 := zK hq HX.out.lt hHeld1.2.2.2.2.2.2.2.1
    have z8 := zK hq HI.out.lt hHeld1.2.2.2.2.2.2.2.2.1
    have z9 := zK hq HI.out.lt hHeld1.2.2.2.2.2.2.2.2.2.1
    have z10 := zK hq HI.out.lt hHeld1.2.2.2.2.2.2.2.2.2.2.1
    have z11 := zK hq HI.out.lt hHeld1.2.2.2.2.2.2.2.2.2.2.2.1
    have z12 := zK hq HI.out.lt hHeld1.2.2.2.2.2.2.2.2.2.2.2.2.1
    have z13 := zK hq HI.out.lt hHeld1.2.2.2.2.2.2.2.2.2.2.2.2.2.1
    have z14 := zK hq HI.out.lt hHeld1.2.2.2.2.2.2.2.2.2.2.2.2.2.2.1
    have z15 := zK hq HI.out.lt hHeld1.2.2.2.2.2.2.2.2.2.2.2.2.2.2.2.1
    have z16 := zK hq HS.out.lt hHeld1.2.2.2.2.2.2.2.2.2.2.2.2.2.2.2.2.1
    have z17 := zK hq HS.out.lt hHeld1.2.2.2.2.2.2.2.2.2.2.2.2.2.2.2.2.2.1
    have z18 := zK hq HS.out.lt hHeld1.2.2.2.2.2.2.2.2.2.2.2.2.2.2.2.2.2.2.1
    have z19 := zK hq HS.out.lt hHeld1.2.2.2.2.2.2.2.2.2.2.2.2.2.2.2.2.2.2.2.1
    have z20 := zK hq HW.out.lt hHeld1.2.2.2.2.2.2.2.2.2.2.2.2.2.2.2.2.2.2.2.2.1
    have z21 := zK hq HW.out.lt hHeld1.2.2.2.2.2.2.2.2.2.2.2.2.2.2.2.2.2.2.2.2.2.1
    have z22 := zK hq HW.out.lt hHeld1.2.2.2.2.2.2.2.2.2.2.2.2.2.2.2.2.2.2.2.2.2.2.1
    have z23 := zK hq HW.out.lt hHeld1.2.2.2.2.2.2.2.2.2.2.2.2.2.2.2.2.2.2.2.2.2.2.2
    refine hK.out _ _ ⟨z0, z1, z2, z3, z4, z5, z6, z7, z8, z9, z10, z11, z12, z13, z14, z15, z16, z17, z18, z19, z20, z21, z22, z23⟩ (fun hHeld2 => ?_)
    clear hK K hHeld1 z0 z1 z2 z3 z4 z5 z6 z7 z8 z9 z10 z11 z12 z13 z14 z15 z16 z17 z18 z19 z20 z21 z22 z23
    (try simp only [Act.put, zA, zB, zC])
    have k_i := HI.out.keep hq
    have k_w := HW.out.keep hq
    have k_x := HX.out.keep hq
    have k_s := HS.out.keep hq
    have tl := HBL.out.trans ((hq).mono HBL.out.size)
    clear HBL HI HW HX HS
    clear i_0 i_f0 i_1 i_f1 i_2 i_f2 i_3 i_f3 i_4 i_f4 i_5 i_f5 i_6 i_f6 i_7 i_f7
    obtain ⟨i_0, i_f0, i_1, i_f1, i_2, i_f2, i_3, i_f3, i_4, i_f4, i_5, i_f5, i_6, i_f6, i_7, i_f7⟩ := k_i.f8
    have HI := zh k_i; clear k_i
    clear w_0 w_f0 w_1 w_f1 w_2 w_f2 w_3 w_f3
    obtain ⟨w_0, w_f0, w_1, w_f1, w_2, w_f2, w_3, w_f3⟩ := k_w.f4
    have HW := zh k_w; clear k_w
    clear x_0 x_f0 x_1 x_f1 x_2 x_f2 x_3 x_f3 x_4 x_f4 x_5 x_f5 x_6 x_f6 x_7 x_f7
    obtain ⟨x_0, x_f0, x_1, x_f1, x_2, x_f2, x_3, x_f3, x_4, x_f4, x_5, x_f5, x_6, x_f6, x_7, x_f7⟩ := k_x.f8
    have HX := zh k_x; clear k_x
    clear s_0 s_f0 s_1 s_f1 s_2 s_f2 s_3 s_f3
    obtain ⟨s_0, s_f0, s_1, s_f1, s_2, s_f2, s_3, s_f3⟩ := k_s.f4
    have HS := zh k_s; clear k_s
    have HBL := zh tl; clear tl
    clear hq
    refine zT 9 (h := ?_)
    (try simp only [Act.put, zA, zB, zC])
    refine zT 10 (h := ?_)
    (try simp only [Act.put, zA, zB, zC])
    refine zT 11 (h := ?_)
    (try simp only [Act.put, zA, zB, zC])
    refine zR 12 (h := fun K hK => ?_)
    rw [if_pos (by kernel_rfl)]
    go_simp
    go_at_call 15
    refine (awake5_true _).mono ?_
    rintro e w209 ⟨hq, rfl⟩
    dsimp only
    have z0 := zK hq HX.out.lt hHeld2.1
    have z1 := zK hq HX.out.lt hHeld2.2.1
    have z2 := zK hq HX.out.lt hHeld2.2.2.1
    have z3 := zK hq HX.out.lt hHeld2.2.2.2.1
    have z4 := zK hq HX.out.lt hHeld2.2.2.2.2.1
    have z5 := zK hq HX.out.lt hHeld2.2.2.2.2.2.1
    have z6 := zK hq HX.out.lt hHeld2.2.2.2.2.2.2.1
    have z7 := zK hq HX.out.lt hHeld2.2.2.2.2.2.2.2.1
    have z8 := zK hq HI.out.lt hHeld2.2.2.2.2.2.2.2.2.1
    have z9 := zK hq HI.out.lt hHeld2.2.2.2.2.2.2.2.2.2.1
    have z10 := zK hq HI.out.lt hHeld2.2.2.2.2.2.2.2.2.2.2.1
    have z11 := zK hq HI.out.lt hHeld2.2.2.2.2.2.2.2.2.2.2.2.1
    have z12 := zK hq HI.out.lt hHeld2.2.2.2.2.2.2.2.2.2.2.2.2.1
    have z13 := zK hq HI.out.lt hHeld2.2.2.2.2.2.2.2.2.2.2.2.2.2.1
    have z14 := zK hq HI.out.lt hHeld2.2.2.2.2.2.2.2.2.2.2.2.2.2.2.1
    have z15 := zK hq HI.out.lt hHeld2.2.2.2.2.2.2.2.2.2.2.2.2.2.2.2.1
    have z16 := zK hq HS.out.lt hHeld2.2.2.2.2.2.2.2.2.2.2.2.2.2.2.2.2.1
    have z17 := zK hq HS.out.lt hHeld2.2.2.2.2.2.2.2.2.2.2.2.2.2.2.2.2.2.1
    have z18 := zK hq HS.out.lt hHeld2.2.2.2.2.2.2.2.2.2.2.2.2.2.2.2.2.2.2.1
    have z19 := zK hq HS.out.lt hHeld2.2.2.2.2.2.2.2.2.2.2.2.2.2.2.2.2.2.2.2.1
    have z20 := zK hq HW.out.lt hHeld2.2.2.2.2.2.2.2.2.2.2.2.2.2.2.2.2.2.2.2.2.1
    have z21 := zK hq HW.out.lt hHeld2.2.2.2.2.2.2.2.2.2.2.2.2.2.2.2.2.2.2.2.2.2.1
    have z22 := zK hq HW.out.lt hHeld2.2.2.2.2.2.2.2.2.2.2.2.2.2.2.2.2.2.2.2.2.2.2.1
    have z23 := zK hq HW.out.lt hHeld2.2.2.2.2.2.2.2.2.2.2.2.2.2.2.2.2.2.2.2.2.2.2.2
    refine hK.out _ _ ⟨z0, z1, z2, z3, z4, z5, z6, z7, z8, z9, z10, z11, z12, z13, z14, z15, z16, z17, z18, z19, z20, z21, z22, z23⟩ (fun hHeld3 => ?_)
    clear hK K hHeld2 z0 z1 z2 z3 z4 z5 z6 z7 z8 z9 z10 z11 z12 z13 z14 z15 z16 z17 z18 z19 z20 z21 z22 z23
    (try simp only [Act.put, zA, zB, zC])
    have k_i := HI.out.keep hq
    have k_w := HW.out.keep hq
    have k_x := HX.out.keep hq
    have k_s := HS.out.keep hq
    have tl := HBL.out.trans ((hq).mono HBL.out.size)
    clear HBL HI HW HX HS
    clear i_0 i_f0 i_1 i_f1 i_2 i_f2 i_3 i_f3 i_4 i_f4 i_5 i_f5 i_6 i_f6 i_7 i_f7
    obtain ⟨i_0, i_f0, i_1, i_f1, i_2, i_f2, i_3, i_f3, i_4, i_f4, i_5, i_f5, i_6, i_f6, i_7, i_f7⟩ := k_i.f8
    have HI := zh k_i; clear k_i
    clear w_0 w_f0 w_1 w_f1 w_2 w_f2 w_3 w_f3
    obtain ⟨w_0, w_f0, w_1, w_f1, w_2, w_f2, w_3, w_f3⟩ := k_w.f4
    have HW := zh k_w; clear k_w
    clear x_0 x_f0 x_1 x_f1 x_2 x_f2 x_3 x_f3 x_4 x_f4 x_5 x_f5 x_6 x_f6 x_7 x_f7
    obtain ⟨x_0, x_f0, x_1, x_f1, x_2, x_f2, x_3, x_f3, x_4, x_f4, x_5, x_f5, x_6, x_f6, x_7, x_f7⟩ := k_x.f8
    have HX := zh k_x; clear k_x
    clear s_0 s_f0 s_1 s_f1 s_2 s_f2 s_3 s_f3
    obtain ⟨s_0, s_f0, s_1, s_f1, s_2, s_f2, s_3, s_f3⟩ := k_s.f4
    have HS := zh k_s; clear k_s
    have HBL := zh tl; clear tl
    clear hq
    refine zT 13 (h := ?_)
    (try simp only [Act.put, zA, zB, zC])
    refine zT 14 (h := ?_)
    (try simp only [Act.put, zA, zB, zC])
    refine wpAnyH_done (by kernel_rfl) ?_ _
    (try simp only [List.getElem_toArray, List.getElem_cons_zero, List.getElem_cons_succ, Act.put, zA, zB, zC])
    go_wp2_with fail
    go_ret
    exact ⟨HF5.out.trans (HBL.out.mono HF5.out.size), rfl⟩
end Go.Proofs.YtjpalbonclgflaaGreat

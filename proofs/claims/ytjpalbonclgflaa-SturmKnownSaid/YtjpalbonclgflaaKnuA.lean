/- integer.divide by a number of several digits. -/
import Derived.Deep.RegionHeld3
import Derived.BigQuiet
import Derived.Deep.CutRange
import Derived.Deep.CutBlock
import Derived.Test.YtjpalbonclgflaaPart9
import Derived.Test.YtjpalbonclgflaaDivI
import Derived.Test.YtjpalbonclgflaaPart12
namespace Go.Proofs.Ytjpalbonclgflaa
open Go.RowKit

def cd3 : Code → Code
 | .seq _ (.seq _ (.seq _ r)) => r
 | c => c
def cd2 : Code → Code
 | .seq _ (.seq _ r) => r
 | c => c
noncomputable def kbody : Code := (Try.f76).body.getD .skip
theorem wp_drop3 {P : Program} {a b c rest : Code} {Q : Exit → Act → World → Prop} {s : Act} {w : World} (F : Code) (hF : rest = cd3 F) (h : ∀ r : Code, Hid (r = cd3 F) → Code.wp P (a.seq (b.seq (c.seq r))) Q s w) : Code.wp P (a.seq (b.seq (c.seq rest))) Q s w := h _ (zh hF)
theorem wp_drop2 {P : Program} {a b rest : Code} {Q : Exit → Act → World → Prop} {s : Act} {w : World} (F : Code) (hF : rest = cd2 F) (h : ∀ r : Code, Hid (r = cd2 F) → Code.wp P (a.seq (b.seq r)) Q s w) : Code.wp P (a.seq (b.seq rest)) Q s w := h _ (zh hF)
set_option maxRecDepth 100000 in
set_option maxHeartbeats 25600000 in
theorem divide_long (hlz : ∀ (d : Nat) (w : World), 0 < d → d < 4294967296 → Calls Try.prog 83 #[.int .u32 (d : Int)] w (LzRet d w))
  (X D : Nat) (vx vy : Value) (w : World) (hx : Row w vx (dg X).length (cs32 (dg X))) (hy : Row w vy (dg D).length (cs32 (dg D))) (hX : (dg X).length ≤ 100000000000) (hle : D ≤ X) (hD : 4294967296 ≤ D) :
  Calls Try.prog 76 #[vx, vy] w (DivRet (X / D) (X % D) w) := by
 have hcmp := compare_any X D vx vy w hx hy
 have hc : ¬ cmpN X D < 0 := by simp only [cmpN]; split <;> (try split) <;> omega
 obtain ⟨z, hz⟩ : ∃ z, z = cmpN X D := ⟨_, rfl⟩
 rw [← hz] at hcmp hc
 have hD0 : 0 < D := by omega
 have hlD : 2 ≤ (dg D).length := by
  rcases Nat.lt_or_ge (dg D).length 2 with h | h
  ·
   have h1 := lt_pow_dg D
   have h2 : 4294967296 ^ (dg D).length ≤ (4294967296 : Nat) ^ 1 := Nat.pow_le_pow_right (by decide) (by omega)
   omega
  ·
   exact h
 have hll : (dg D).length ≤ (dg X).length := dg_length_le (Nat.lt_of_le_of_lt hle (lt_pow_dg X))
 obtain ⟨s, hs⟩ : ∃ s, (dg D).length = s + 2 := ⟨(dg D).length - 2, by omega⟩
 obtain ⟨l, hl⟩ : ∃ l, l = (dg X).length := ⟨_, rfl⟩
 have hdt : 0 < dig D (s + 1) := by
  have h1 := pow_le_dg D hD0
  rw [hs] at h1
  have h2 := lt_pow_dg D
  rw [hs] at h2
  have d0 : D / 4294967296 ^ (s + 2) = 0 := Nat.div_eq_of_lt h2
  have d1 := div_step D (s + 1)
  rw [show s + 1 + 1 = s + 2 from rfl, d0] at d1
  have : 1 ≤ D / 4294967296 ^ (s + 1) := (Nat.le_div_iff_mul_le (pos_pow _)).2 (by rw [Nat.one_mul]; exact h1)
  omega
 have hshx := fun vx w' h (n : Nat) hn => shift_any X n vx w' h hX hn
 have hshy := fun vx w' h (n : Nat) hn => shift_any D n vx w' h (by omega) hn
 unfold ShiftRet at hshx hshy
 have hgd := dg_get D (s + 1) (by omega)
 rw [hs] at hy hll hshy
 rw [← hl] at hx hX hll hshx
 obtain ⟨va, vc, rfl, hlea⟩ := hx.slice
 obtain ⟨vb, vd, rfl, hleb⟩ := hy.slice
 obtain ⟨by_, oy, rfl, hby, hcy⟩ := hy.at_ (by omega)
 have c0 := hcy (s + 1) _ (cs32_get hgd)
 obtain ⟨d, hd⟩ : ∃ d, d = dig D (s + 1) := ⟨_, rfl⟩
 rw [← hd] at c0 hdt
 have hd32 : d < 4294967296 := by rw [hd]; exact dig_lt _ _
 have hlz2 := fun w' => hlz d w' hdt hd32
 obtain ⟨m, hm⟩ : ∃ m, m = s + 2 := ⟨_, rfl⟩
 obtain ⟨k, hk⟩ : ∃ k, k = s + 1 := ⟨_, rfl⟩
 have hi1 : ((m : Int) == 1) = false := by simp; omega
 have hi2 : (m : Int) - 1 = (k : Int) := by omega
 rw [← hm] at hy hll hleb hshy hcmp ⊢
 rw [← hk] at c0 hd
 have HM := zh hm; clear hm
 have HK := zh hk; clear hk
 have hXl : X < 4294967296 ^ l := by rw [hl]; exact lt_pow_dg X
 have hDlo : 4294967296 ^ k ≤ D := by
  have h1 := pow_le_dg D (by omega)
  rw [hs] at h1
  rw [HK.out]; exact h1
 have hDup : D < 4294967296 ^ m := by rw [HM.out, ← hs]; exact lt_pow_dg D
 have HXL := zh hXl; clear hXl
 have HDLO := zh hDlo; clear hDlo
 have HDUP := zh hDup; clear hDup
 have HX := zh hx; clear hx
 have HY := zh hy; clear hy
 have HC := zh hcmp; clear hcmp
 have HDD := zh hd; clear hd
 have HLZ := zh hlz2; clear hlz2
 have HSX := zh hshx; clear hshx
 have HSY := zh hshy; clear hshy
 clear hz hgd hcy hlz hs hlD hl hleb hlea hle hD hD0
 go_enter Try.func76, Try.ntmps76
 refine wp_drop3 kbody (by rfl) (fun code2 HCD => ?_)
 go_wp2_with fail
 go_at_call 42
 refine (HC.out).mono ?_
 rintro e w1 ⟨hq1, rfl⟩
 have c1 := (hq1.cell (p := ⟨by_, oy + k, none⟩) hby).trans c0
 have HQ1 := zh hq1; clear hq1
 go_wp2_with fail
 rw [HCD.out]
 conv => arg 2; whnf
 refine wp_drop2 (cd3 kbody) (by rfl) (fun code3 HCD3 => ?_)
 clear HCD
 go_wp2_with (go_at_call 83; refine (HLZ.out _).mono ?_; rintro e w2 ⟨rfl, n, hn1, hn2, hn3, rfl⟩)
 have hx2 := (HX.out.below HQ1.out (Nat.le_refl _)).drew
 have hy2 := (HY.out.below HQ1.out (Nat.le_refl _)).drew
 have HX2 := zh hx2; clear hx2
 have HY2 := zh hy2; clear hy2
 clear c0 c1
 refine wp_region_held_drew (S := fun _ => True) (by kernel_rfl) trivial (fun hHeld => ?_)
 refine zT 0 (h := ?_)
 (try simp only [Act.put, zA, zB, zC])
 refine zT 1 (h := ?_)
 (try simp only [Act.put, zA, zB, zC])
 refine zT 3 (h := ?_)
 (try simp only [Act.put, zA, zB, zC])
 refine zT 4 (h := ?_)
 (try simp only [Act.put, zA, zB, zC])
 refine zT 6 (h := ?_)
 (try simp only [Act.put, zA, zB, zC])
 refine zT 7 (h := ?_)
 (try simp only [Act.put, zA, zB, zC])
 refine zR 2 (h := fun K hK => ?_)
 go_simp
 go_at_call 84
 refine (HSX.out _ _ HX2.out n hn1).mono ?_
 rintro e' wa ⟨hqa, rfl, hba⟩
 dsimp only
 refine hK.out _ _ trivial (fun hHeld2 => ?_)
 clear hK K
 (try simp only [Act.put, zA, zB, zC])
 have hy3 := HY2.out.below hqa (Nat.le_refl _)
 have HY3 := zh hy3; clear hy3
 refine zR 5 (h := fun K hK => ?_)
 go_simp
 go_at_call 84
 refine (HSY.out _ _ HY3.out n hn1).mono ?_
 rintro e' wb ⟨hqb, rfl, hbb⟩
 dsimp only
 refine hK.out _ _ trivial (fun hHeld3 => ?_)
 clear hK K
 (try simp only [Act.put, zA, zB, zC])
 refine wpAnyH_take (i := 8) (v := .slice (some ⟨wa.heap.size, 0, none⟩) m (m + 1)) rfl (by kernel_rfl) (by kernel_rfl) (by kernel_rfl) (fun _ _ _ h => h) (Or.inl ⟨by kernel_rfl, ?_⟩) (by assumption) ?_
 ·
  intro wS hSw
  (try dsimp only at hSw)
  go_simp
  first | done | (intro hlt; omega)
 (try simp only [Act.put, zA, zB, zC])
 refine zT 9 (h := ?_)
 (try simp only [Act.put, zA, zB, zC])
 refine zT 10 (h := ?_)
 (try simp only [Act.put, zA, zB, zC])
 refine wpAnyH_done (by kernel_rfl) ?_ _
 (try simp only [List.getElem_toArray, List.getElem_cons_zero, List.getElem_cons_succ, Act.put, zA, zB, zC])
 have hu := hba.keep hqb
 have hs1 : Below w.heap.size w wb := (HQ1.out.drew.trans (hqa.mono HQ1.out.drew.size)).trans (hqb.mono (Nat.le_trans HQ1.out.drew.size hqa.size))
 have hub : w.heap.size ≤ w2.drew.heap.size := HQ1.out.drew.size
 have hvb : w2.drew.heap.size < wa.heap.size := hba.lt
 obtain ⟨bu, hbu⟩ : ∃ b, b = w2.drew.heap.size := ⟨_, rfl⟩
 obtain ⟨bv, hbv⟩ : ∃ b, b = wa.heap.size := ⟨_, rfl⟩
 rw [← hbu] at hu hub hvb
 rw [← hbv] at hbb hvb
 have hbel := hs1
 have HB := zh hs1; clear hs1
 have HU := zh hu; clear hu
 have HV := zh hbb; clear hbb
 clear hba hqa hqb HX2 HY2 HY3 HSX HSY HLZ HC HX HY hHeld hHeld2 hHeld3 HQ1 hbel
 go_wp2_with fail
 rw [show w2.heap.size = bu by rw [hbu]; rfl, ← hbv]
 rw [HCD3.out]
 conv => arg 2; whnf
 clear HCD3
 obtain ⟨K, hK⟩ : ∃ K, K = l + 1 - m := ⟨_, rfl⟩
 have hmk := mk32 K (by omega) ((l : Int) + 1 - m) (by omega)
 have hts := top_shift (D := D) (s := s) (n := n) (by rw [← HM.out]; exact HDUP.out) (by rw [← HK.out, ← HDD.out]; exact hn2) (by rw [← HK.out, ← HDD.out]; exact hn3)
 rw [← HM.out, ← HK.out] at hts
 obtain ⟨V, hV⟩ : ∃ V, V = D * 2 ^ n := ⟨_, rfl⟩
 obtain ⟨Y, hY⟩ : ∃ Y, Y = X * 2 ^ n := ⟨_, rfl⟩
 have hV0 : 0 < V := by rw [hV]; exact Nat.mul_pos (Nat.lt_of_lt_of_le (pos_pow k) HDLO.out) (Nat.pow_pos (by decide))
 have hstart : Y / 4294967296 ^ K < V := by
  refine Nat.div_lt_of_lt_mul ?_
  have h1 : 4294967296 ^ l = (4294967296 : Nat) ^ K * 4294967296 ^ k := by rw [← Nat.pow_add]; congr 1; have := HM.out; have := HK.out; omega
  have h2 : Y < 4294967296 ^ l * 2 ^ n := by rw [hY]; exact Nat.mul_lt_mul_of_pos_right HXL.out (Nat.pow_pos (by decide))
  refine Nat.lt_of_lt_of_le h2 ?_
  rw [h1, hV, Nat.mul_assoc]
  exact Nat.mul_le_mul_left _ (Nat.mul_le_mul_right _ HDLO.out)
 rw [← hV] at HV hts
 rw [← hY] at HU
 have hquo : Y / V = X / D := by rw [hY, hV]; exact Nat.mul_div_mul_right _ _ (Nat.pow_pos (by decide))
 have hrem : Y % V = X % D * 2 ^ n := by rw [hY, hV]; exact Nat.mul_mod_mul_right _ _ _
 have hbvlt := HV.out.lt
 have hKp : 0 < K := by omega
 have hKl : K + m = l + 1 := by omega
 have HTS := zh hts; clear hts
 have HST := zh hstart; clear hstart
 have HQUO := zh hquo; clear hquo
 have HREM := zh hrem; clear hrem
 have HVD := zh hV; clear hV
 have HYD := zh hY; clear hY
 have HKD := zh hK; clear hK
 have hdl0 := HDLO.out
 have hdu0 := HDUP.out
 have HDL0 := zh hdl0; clear hdl0
 have HDU0 := zh hdu0; clear hdu0
 clear hn2 hn3 hdt hd32 HDD HXL HDLO HDUP hbu hbv hi1 hc hby
 obtain ⟨bq, hbq⟩ : ∃ b, b = wb.heap.size := ⟨_, rfl⟩
 go_wp2_with fail
 go_loopw [13] (fun j wr => ∃ r : Nat, r ≤ K ∧ j = .int .i64 ((r : Int) - 1) ∧ Below w.heap.size w wr ∧ Blk wr bu 75 (cs32 (Dn (l + 1) (Y % 4294967296 ^ r + 4294967296 ^ r * (Y / 4294967296 ^ r % V)))) ∧ Blk wr bv 75 (cs32 (Dn (m + 1) V)) ∧ Blk wr wb.heap.size 75 (cs32 (Dn K (4294967296 ^ r * (Y / 4294967296 ^ r / V))))) (fun j _ => (intOf j + 1).toNat)
 case atStart =>
  refine ⟨K, Nat.le_refl _, ?_, HB.out.alloc HB.out.size _, ?_, HV.out.alloc _, ?_⟩
  ·
   congr 1; have := HKD.out; omega
  ·
   rw [Nat.mod_eq_of_lt HST.out, Nat.mod_add_div]; exact HU.out.alloc _
  ·
   have h := Blk.zero wb 75 (.int .u32 0) K
   rw [zrow_one _ _ rfl] at h
   rw [Nat.div_eq_of_lt HST.out, Nat.mul_zero, Dn_zero]
   simpa [cs32] using h
 case round =>
  obtain ⟨r, hr, rfl, hbel, hbu2, hbv2, hbq2⟩ := hrel
  obtain ⟨wo, rfl⟩ : ∃ wo : World, wo = wr := ⟨_, rfl⟩
  by_cases hr0 : r = 0
  ·
   subst hr0
   rw [Nat.pow_zero, Nat.mod_one, Nat.div_one, Nat.one_mul, Nat.zero_add, HREM.out] at hbu2
   rw [Nat.pow_zero, Nat.div_one, Nat.one_mul, HQUO.out] at hbq2
   have hQl : X / D < 4294967296 ^ K := by
    rw [← HQUO.out]
    have h1 := HST.out
    exact (Nat.div_lt_iff_lt_mul hV0).2 (by have := (Nat.div_lt_iff_lt_mul (pos_pow K)).1 h1; rwa [Nat.mul_comm] at this)
   obtain ⟨R, hR⟩ : ∃ R, R = X % D := ⟨_, rfl⟩
   obtain ⟨Q, hQ⟩ : ∃ Q, Q = X / D := ⟨_, rfl⟩
   rw [← hQ] at hbq2 hQl ⊢
   rw [← hR] at hbu2 ⊢
   have hRl : R < 4294967296 ^ m := by
    rw [hR]
    refine Nat.lt_of_lt_of_le (Nat.mod_lt _ (Nat.lt_of_lt_of_le (pos_pow k) HDL0.out)) ?_
    exact Nat.le_of_lt HDU0.out
   have hmk2 := mk32 m (by omega) (m : Int) rfl
   have hwol := hbu2.lt
   have hwoq := hbq2.lt
   rw [show ((((0 : Nat) : Int)) - 1) = -1 from rfl]
   obtain ⟨kk, hkk⟩ : ∃ kk, n + kk = 32 := ⟨32 - n, by omega⟩
   have hki : (32 : Int) - (n : Int) = (kk : Int) := by omega
   have HU2 := zh hbu2; clear hbu2
   have HV2 := zh hbv2; clear hbv2
   have HQ2 := zh hbq2; clear hbq2
   have HB2 := zh hbel; clear hbel
   have HRD := zh hR; clear hR
   have HQD := zh hQ; clear hQ
   have HRL := zh hRl; clear hRl
   have HQL := zh hQl; clear hQl
   clear HTS HST HQUO HREM HVD HYD HKD hmk
   go_wp2_with fail
   go_loopw [262] (fun i wr => ∃ i' : Nat, i' ≤ m ∧ i = .int .i64 (i' : Int) ∧ Below w.heap.size w wr ∧ Blk wr bu 75 (cs32 (Dn (l + 1) (R * 2 ^ n))) ∧ Blk wr wb.heap.size 75 (cs32 (Dn K Q)) ∧ Blk wr wo.heap.size 75 (cs32 (Dn m (R % 4294967296 ^ i')))) (fun i _ => m - (intOf i).toNat)
   case atStart =>
    refine ⟨0, Nat.zero_le _, rfl, HB2.out.alloc (Nat.le_trans hub (by omega)) _, HU2.out.alloc _, HQ2.out.alloc _, ?_⟩
    have h := Blk.zero wo 75 (.int .u32 0) m
    rw [zrow_one _ _ rfl] at h
    simpa [Nat.mod_one, Dn_zero, cs32] using h
   case round =>
    obtain ⟨i, hi, rfl, hbel4, hu4, hq4, hr4⟩ := hrel
    obtain ⟨w4, rfl⟩ : ∃ w4 : World, w4 = wr := ⟨_, rfl⟩
    by_cases hlt : i < m
    ·
     obtain ⟨t, ht⟩ : ∃ t, t = dig (R * 2 ^ n) i := ⟨_, rfl⟩
     have htl : t < 4294967296 := by rw [ht]; exact dig_lt _ _
     obtain ⟨t', ht'⟩ : ∃ t', t' = dig (R * 2 ^ n) (i + 1) := ⟨_, rfl⟩
     have htl' : t' < 4294967296 := by rw [ht']; exact dig_lt _ _
     obtain ⟨d', hd'⟩ : ∃ d', d' = dig R i := ⟨_, rfl⟩
     have hdl' : d' < 4294967296 := by rw [hd']; exact dig_lt _ _
     have cu := hu4.cell (j := i) (cs32_get (Dn_get (l + 1) _ i (by omega)))
     have cu2 := hu4.cell (j := i + 1) (cs32_get (Dn_get (l + 1) _ (i + 1) (by omega)))
     have cr := hr4.cell (j := i) (cs32_get (Dn_get m _ i hlt))
     have hfz := hr4.frozen i
     have hul := unsh_lo R i hkk
     have huh := unsh_hi R i hkk
     have hlp : (Dn m (R % 4294967296 ^ i)).set i (dig R i) = _ := low_put
     have hor := or_u32 (k := kk) hdl'
     rw [← ht, ← hd'] at hul
     rw [← ht', ← hd'] at huh
     rw [← hd'] at hlp
     rw [← ht] at cu
     rw [← ht'] at cu2
     obtain ⟨f, hf⟩ : ∃ f, f = t / 2 ^ n := ⟨_, rfl⟩
     obtain ⟨g, hg⟩ : ∃ g, g = d' / 2 ^ kk * 2 ^ kk := ⟨_, rfl⟩
     have hfl : f ≤ t := by rw [hf]; exact Nat.div_le_self _ _
     have hgl : g ≤ d' := by rw [hg]; exact Nat.div_mul_le_self _ _
     rw [← hul, ← hf, ← hg] at hor
     have hfi : (t : Int) / 2 ^ n = (f : Int) := by rw [hf]; simp
     have hgi : ((t' : Int) * 2 ^ kk) % 4294967296 = (g : Int) := by
      rw [show (t' : Int) * 2 ^ kk = ((t' * 2 ^ kk : Nat) : Int) by simp, show (4294967296 : Int) = ((4294967296 : Nat) : Int) from rfl, ← Int.natCast_emod, huh, ← hg]
     have y1 : (i : Int) < (l : Int) + 1 := by omega
     have y2 : (i : Int) + 1 < (l : Int) + 1 := by omega
     have y3 : (i : Int) < (m : Int) := by omega
     have ne1 : ¬ wo.heap.size = bu := by omega
     have HLP := zh hlp; clear hlp
     have HU4 := zh hu4; clear hu4
     have HQ4 := zh hq4; clear hq4
     have HR4 := zh hr4; clear hr4
     have HB4 := zh hbel4; clear hbel4
     have HUL := zh hul; clear hul
     have HUH := zh huh; clear huh
     have HFE := zh hf; clear hf
     have HGE := zh hg; clear hg
     clear ht hd'
     by_cases hn0 : n = 0
     ·
      have hn0i : ¬ (0 : Int) < (n : Int) := by omega
      have dn0 : decide ((0 : Int) < (n : Int)) = false := decide_eq_false hn0i
      go_wp2_with fail
      go_roundw
      case rel =>
       have htd : t = d' := by
        have h1 := HUL.out
        obtain rfl : kk = 32 := by omega
        rw [hn0, Nat.pow_zero, Nat.div_one, Nat.mod_eq_of_lt (by simpa using hdl')] at h1
        exact h1
       refine ⟨i + 1, by omega, by go_num, HB4.out.setCell (p := ⟨wo.heap.size, i, none⟩) (by show w.heap.size ≤ wo.heap.size; omega) _, HU4.out.setOther (by show wo.heap.size ≠ bu; omega) _, HQ4.out.setOther (by show wo.heap.size ≠ wb.heap.size; omega) _, ?_⟩
       refine (HR4.out.set i _).congr ((cs32_set _ i t).trans ?_)
       rw [htd, HLP.out]
      case measure => first | (simp [intOf]; done) | (simp [intOf]; omega)
     ·
      have hn0i : (0 : Int) < (n : Int) := by omega
      have dn0 : decide ((0 : Int) < (n : Int)) = true := decide_eq_true hn0i
      go_wp2_with fail
      obtain ⟨w5, hw5⟩ : ∃ w5, w5 = w4.setCell ⟨wo.heap.size, i, none⟩ (.int .u32 (f : Int)) := ⟨_, rfl⟩
      rw [← hw5]
      have hb5 : Below w.heap.size w w5 := by rw [hw5]; exact HB4.out.setCell (p := ⟨wo.heap.size, i, none⟩) (by show w.heap.size ≤ wo.heap.size; omega) _
      have hu5 : Blk w5 bu 75 (cs32 (Dn (l + 1) (R * 2 ^ n))) := by rw [hw5]; exact HU4.out.setOther (by show wo.heap.size ≠ bu; omega) _
      have hq5 : Blk w5 wb.heap.size 75 (cs32 (Dn K Q)) := by rw [hw5]; exact HQ4.out.setOther (by show wo.heap.size ≠ wb.heap.size; omega) _
      have hr5 : Blk w5 wo.heap.size 75 (cs32 ((Dn m (R % 4294967296 ^ i)).set i f)) := by rw [hw5]; exact (HR4.out.set i _).congr (cs32_set _ i f)
      obtain ⟨i1, hi1⟩ : ∃ i1, i1 = i + 1 := ⟨_, rfl⟩
      have e1 := hu5.cell (j := i1) (cs32_get (Dn_get (l + 1) _ i1 (by omega)))
      rw [hi1, ← ht', ← hi1] at e1
      have wi1 : IntKind.i64.wrap ((i : Int) + 1) = (i1 : Int) := by rw [IntKind.wrap_i64]; omega
      have wk2 : IntKind.i64.wrap ((kk : Nat) : Int) = (kk : Int) := by rw [IntKind.wrap_i64]; omega
      have y4 : (i1 : Int) < (l : Int) + 1 := by omega
      have y5 : (kk : Int) < 32 := by omega
      have gi2 : IntKind.u32.wrap ((t' : Int) * 2 ^ kk) = (g : Int) := by rw [IntKind.wrap_u32]; exact hgi
      have e2 := hr5.cell (j := i) (cs32_get (by rw [List.getElem?_set_self (by rw [Dn_length]; exact hlt)]))
      have e3 := hr5.frozen i
      have e6 : ∀ v, (w5.drew.setCell ⟨wo.heap.size, i, none⟩ v).cell? ⟨bu, i1, none⟩ = some (.int .u32 (t' : Int)) := by
       intro v
       have h6 := (hu5.drew.setOther (a := ⟨wo.heap.size, i, none⟩) (by show wo.heap.size ≠ bu; omega) v).cell (j := i1) (cs32_get (Dn_get (l + 1) _ i1 (by omega)))
       rw [hi1, ← ht', ← hi1] at h6
       exact h6
      have HI1 := zh hi1; clear hi1
      have HB5 := zh hb5; clear hb5
      have HU5 := zh hu5; clear hu5
      have HQ5 := zh hq5; clear hq5
      have HR5 := zh hr5; clear hr5
      clear hw5 cu cu2 cr hfz ht' hfi
      refine wp_region_held_drew (S := fun w' => w'.cell? ⟨bu, i1, none⟩ = some (.int .u32 (t' : Int))) (by kernel_rfl) e1 (fun hHeld => ?_)
      refine zT 0 (h := ?_)
      (try simp only [Act.put, zA, zB, zC])
      refine zT 1 (h := ?_)
      (try simp only [Act.put, zA, zB, zC])
      refine zT 2 (h := ?_)
      (try simp only [Act.put, zA, zB, zC])
      refine zT 4 (h := ?_)
      (try simp only [Act.put, zA, zB, zC])
      refine zT 5 (h := ?_)
      (try simp only [Act.put, zA, zB, zC])
      refine zT 6 (h := ?_)
      (try simp only [Act.put, zA, zB, zC])
      refine zT 7 (h := ?_)
      (try simp only [Act.put, zA, zB, zC])
      refine zT 9 (h := ?_)
      (try simp only [Act.put, zA, zB, zC])
      refine zT 10 (h := ?_)
      (try simp only [Act.put, zA, zB, zC])
      refine zT 8 (h := ?_)
      (try simp only [Act.put, zA, zB, zC])
      refine zT 11 (h := ?_)
      (try simp only [Act.put, zA, zB, zC])
      refine zR 3 (h := fun K hK => ?_)
      go_simp
      refine hK.out _ _ e1 (fun hHeld2 => ?_)
      clear hK K
      (try simp only [Act.put, zA, zB, zC])
      refine zT 12 (h := ?_)
      (try simp only [Act.put, zA, zB, zC])
      refine zT 13 (h := ?_)
      (try simp only [Act.put, zA, zB, zC])
      refine zR 14 (h := fun K hK => ?_)
      go_simp
      refine hK.out _ _ (e6 _) (fun hHeld3 => ?_)
      clear hK K
      (try simp only [Act.put, zA, zB, zC])
      refine wpAnyH_done (by kernel_rfl) ?_ _
      (try simp only [List.getElem_toArray, List.getElem_cons_zero, List.getElem_cons_succ, Act.put, zA, zB, zC])
      clear hHeld hHeld2 hHeld3 e6
      go_wp2_with fail
      go_roundw
      case rel =>
       obtain rfl := HI1.out
       refine ⟨i + 1, by omega, by go_num, HB5.out.drew.setCell (p := ⟨wo.heap.size, i, none⟩) (by show w.heap.size ≤ wo.heap.size; omega) _, HU5.out.drew.setOther (by show wo.heap.size ≠ bu; omega) _, HQ5.out.drew.setOther (by show wo.heap.size ≠ wb.heap.size; omega) _, ?_⟩
       refine (HR5.out.drew.set i _).congr ((cs32_set _ i d').trans ?_)
       rw [List.set_set, HLP.out]
      case measure =>
       have := HI1.out
       simp [intOf]; omega
    ·
     obtain rfl : m = i := by omega
     rw [Nat.mod_eq_of_lt HRL.out] at hr4
     have hrr := Row.ofBlk hr4 (m := m) (cap := m) (Nat.le_refl _) (by unfold maxLen; omega) m
     rw [List.take_of_length_le (by simp [cs32, Dn_length])] at hrr
     have hrq := Row.ofBlk hq4 (m := K) (cap := K) (Nat.le_refl _) (by unfold maxLen; omega) K
     rw [List.take_of_length_le (by simp [cs32, Dn_length])] at hrq
     have hrr2 : Row w4 (.slice (some ⟨wo.heap.size, 0, none⟩) m m) (Dn m R).length (cs32 (Dn m R)) := by rw [Dn_length]; exact hrr
     have hrq2 : Row w4 (.slice (some ⟨wb.heap.size, 0, none⟩) K K) (Dn K Q).length (cs32 (Dn K Q)) := by rw [Dn_length]; exact hrq
     have ht1 := trim_any _ _ _ hrq2
     have ht2 := trim_any _ _ _ hrr2
     have HT1 := zh ht1; clear ht1
     have HT2 := zh ht2; clear ht2
     have HB4 := zh hbel4; clear hbel4
     clear hrr hrq hrr2 hrq2
     go_wp2_with fail
     go_at_call 58
     refine (HT1.out).mono ?_
     rintro e w' ⟨rfl, v1, rfl, hv1⟩
     dsimp only
     have HV1 := zh hv1; clear hv1
     go_wp2_with fail
     refine (HT2.out).mono ?_
     rintro e w' ⟨rfl, v2, rfl, hv2⟩
     dsimp only
     have HV2 := zh hv2; clear hv2
     go_wp2_with fail
     refine bodyPost_ret (v := .tuple #[v1, v2]) (by simp [results, Try.results76, go_sem]) rfl ⟨HB4.out, v1, v2, rfl, ?_, ?_⟩
     ·
      have h := HV1.out
      rw [tz_Dn HQL.out, HQD.out] at h
      exact h
     ·
      have h := HV2.out
      rw [tz_Dn HRL.out, HRD.out] at h
      exact h
  ·
   obtain ⟨j, rfl⟩ : ∃ j, r = j + 1 := ⟨r - 1, by omega⟩
   have hj : j + m ≤ l := by omega
   obtain ⟨S, hS⟩ : ∃ S, S = dig Y j + 4294967296 * (Y / 4294967296 ^ (j + 1) % V) := ⟨_, rfl⟩
   obtain ⟨lo, hlo⟩ : ∃ lo, lo = Y % 4294967296 ^ j := ⟨_, rfl⟩
   have hlol : lo < 4294967296 ^ j := by rw [hlo]; exact Nat.mod_lt _ (pos_pow j)
   have hSl : S < V * 4294967296 := by rw [hS]; exact hand_lt Y V j hV0
   rw [hand_u, ← hS, ← hlo] at hbu2
   obtain ⟨P, hP⟩ : ∃ P, P = Y / 4294967296 ^ (j + 1) / V := ⟨_, rfl⟩
   rw [← hP] at hbq2
   obtain ⟨t2, ht2⟩ : ∃ t, t = dig S m := ⟨_, rfl⟩
   obtain ⟨t1, ht1⟩ : ∃ t, t = dig S k := ⟨_, rfl⟩
   obtain ⟨t0, ht0⟩ : ∃ t, t = dig S s := ⟨_, rfl⟩
   obtain ⟨vh, hvh⟩ : ∃ t, t = dig V k := ⟨_, rfl⟩
   obtain ⟨vl, hvl⟩ : ∃ t, t = dig V s := ⟨_, rfl⟩
   have hgd : Gd S V (t2 * 4294967296 + t1) vh vl t0 s := by
    rw [ht2, ht1, ht0, hvh, hvl, HM.out, HK.out]
    refine gd_of ?_ ?_ hSl
    ·
     rw [← HM.out]; exact HTS.out.1
    ·
     rw [← HK.out]; exact HTS.out.2
   have hk1 := HK.out
   have hm1 := HM.out
   have c2 := hbu2.cell (j := j + m) (cs32_get (Dn_get (l + 1) (lo + 4294967296 ^ j * S) (j + m) (by omega)))
   have c1 := hbu2.cell (j := j + k) (cs32_get (Dn_get (l + 1) (lo + 4294967296 ^ j * S) (j + k) (by omega)))
   have c0 := hbu2.cell (j := j + s) (cs32_get (Dn_get (l + 1) (lo + 4294967296 ^ j * S) (j + s) (by omega)))
   have d1 := hbv2.cell (j := k) (cs32_get (Dn_get (m + 1) V k (by omega)))
   have d0 := hbv2.cell (j := s) (cs32_get (Dn_get (m + 1) V s (by omega)))
   rw [u_dig _ hlol] at c2 c1 c0
   rw [← ht2] at c2
   rw [← ht1] at c1
   rw [← ht0] at c0
   rw [← hvh] at d1
   rw [← hvl] at d0
   have t2l : t2 < 4294967296 := by rw [ht2]; exact dig_lt _ _
   have t1l : t1 < 4294967296 := by rw [ht1]; exact dig_lt _ _
   have t0l := hgd.u1
   have vhl := hgd.vh1
   have vh0 := hgd.vh0
   have vll := hgd.vl1
   have hor : bits BinOp.or IntKind.u64 ((t2 : Int) * 4294967296) (t1 : Int) = ((t2 * 4294967296 + t1 : Nat) : Int) := by
    rw [show (t2 : Int) * 4294967296 = ((t2 * 4294967296 : Nat) : Int) by omega, or_u64 t2l t1l]
   have hgs := hgd.start
   have hfi := hgd.first
   obtain ⟨top, htop⟩ : ∃ top, top = t2 * 4294967296 + t1 := ⟨_, rfl⟩
   have htopl : top < 18446744073709551616 := by omega
   rw [← htop] at hor hgd hgs hfi
   have hwd : IntKind.u64.wrap (vh : Int) = (vh : Int) := by rw [IntKind.wrap_u64]; omega
   have hvn : ¬ vh = 0 := by omega
   have hvn2 : ¬ (vh : Int) = 0 := by omega
   obtain ⟨g0, hg0⟩ : ∃ g, g = top / vh := ⟨_, rfl⟩
   obtain ⟨r0, hr0'⟩ : ∃ g, g = top % vh := ⟨_, rfl⟩
   have hg0l : g0 ≤ 4294967297 := by rw [hg0]; exact hfi.1
   have hr0l : r0 < vh := by rw [hr0']; exact Nat.mod_lt _ (by omega)
   have hwq : IntKind.u64.wrap ((top : Int) / (vh : Int)) = (g0 : Int) := by
    rw [show (top : Int) / (vh : Int) = ((top / vh : Nat) : Int) from (Int.natCast_ediv top vh).symm, ← hg0, IntKind.wrap_u64]; omega
   have hwr : Int.tmod (top : Int) (vh : Int) = (r0 : Int) := by
    rw [Int.tmod_eq_emod_of_nonneg (by omega), ← Int.natCast_emod top vh, ← hr0']
   rw [← hg0, ← hr0'] at hgs hfi
   have ij1 : (((j + 1 : Nat) : Int) - 1) = (j : Int) := by omega
   have ij2 : (j : Int) + (m : Int) - 1 = ((j + k : Nat) : Int) := by omega
   have ij3 : (j : Int) + (m : Int) - 2 = ((j + s : Nat) : Int) := by omega
   have im2 : (m : Int) - 2 = (s : Int) := by omega
   have x1 : (j : Int) + (m : Int) < (l : Int) + 1 := by omega
   have x2 : ((j + k : Nat) : Int) < (l : Int) + 1 := by omega
   have x3 : ((j + s : Nat) : Int) < (l : Int) + 1 := by omega
   have x4 : (k : Int) < (m : Int) := by omega
   have x5 : (s : Int) < (m : Int) := by omega
   rw [ij1]
   have HU2 := zh hbu2; clear hbu2
   have HV2 := zh hbv2; clear hbv2
   have HQ2 := zh hbq2; clear hbq2
   have HB2 := zh hbel; clear hbel
   have HGD := zh hgd; clear hgd
   have HGS := zh hgs; clear hgs
   have HFI := zh hfi; clear hfi
   have HS := zh hS; clear hS
   have HLO := zh hlo; clear hlo
   have HP := zh hP; clear hP
   have HSL := zh hSl; clear hSl
   have HLOL := zh hlol; clear hlol
   clear ht2 ht1 ht0 hvh hvl hk1 hm1 htop hg0 hr0' ij1
   go_upto_region 13 with fail
   go_quiet (fail)
   go_upto_region 14 with fail
   go_quiet (fail)
   go_upto_block 2 with fail
   go_cut [15] from 113 to 257 (fun g wx => ∃ q : Nat, g = .int .u64 (q : Int) ∧ q < 4294967296 ∧ (q = S / V ∨ q = S / V + 1) ∧ ∃ nn, wx = wo.drewN nn)
   case first =>
    as_aux_lemma =>
    go_wp2_with fail
    go_loopw [15, 16] (fun g r wr => ∃ (q rr : Nat), g = .int .u64 (q : Int) ∧ r = .int .u64 (rr : Int) ∧ Gs S V top vh q rr ∧ q ≤ 4294967297 ∧ rr < 4294967296 ∧ (q = 4294967297 → rr + vh < 4294967296) ∧ ∃ nn, wr = wo.drewN nn) (fun g _ _ => (intOf g).toNat)
    case atStart => exact ⟨g0, r0, rfl, rfl, HGS.out, hg0l, by omega, HFI.out.2, _, World.drewN_drewN ..⟩
    case round =>
     obtain ⟨q, rr, rfl, rfl, hgs2, hq1, hr1, hqr, nn, rfl⟩ := hrel
     obtain ⟨f, hf⟩ : ∃ f, f = q * vl := ⟨_, rfl⟩
     have hfi2 : (q : Int) * (vl : Int) = (f : Int) := by rw [hf]; simp
     obtain ⟨hn, hhn⟩ : ∃ h, h = rr * 4294967296 + t0 := ⟨_, rfl⟩
     have hor2 : bits BinOp.or IntKind.u64 ((rr : Int) * 4294967296) (t0 : Int) = (hn : Int) := by
      rw [show (rr : Int) * 4294967296 = ((rr * 4294967296 : Nat) : Int) by omega, or_u64 hr1 t0l, hhn]
     have hnl : hn < 18446744073709551616 := by omega
     by_cases hT : 4294967296 ≤ q ∨ rr * 4294967296 + t0 < q * vl
     ·
      have hless := HGD.out.less hgs2 hT
      obtain ⟨q1, hq1'⟩ : ∃ q1, q = q1 + 1 := ⟨q - 1, by omega⟩
      have hqq : (q : Int) - 1 = (q1 : Int) := by omega
      obtain ⟨rv, hrv⟩ : ∃ rv, rv = rr + vh := ⟨_, rfl⟩
      have hrr : (rr : Int) + (vh : Int) = (rv : Int) := by omega
      have hq1e : q - 1 = q1 := by omega
      have hrvl : rv < 8589934592 := by omega
      rw [hq1e, ← hrv] at hless
      have HLE := zh hless; clear hless
      have HQ1E := zh hq1'; clear hq1'
      have HQR := zh hqr; clear hqr
      clear hq1e
      have HGS2 := zh hgs2; clear hgs2
      have HRV := zh hrv; clear hrv
      by_cases hA : 4294967296 ≤ q
      case' pos =>
       have dA : decide ((4294967296 : Int) ≤ (q : Int)) = true := decide_eq_true (by omega)
       clear hf hhn hT
       go_upto_region 15 with fail
       go_quiet (fail)
      case' neg =>
       have dA : decide ((4294967296 : Int) ≤ (q : Int)) = false := decide_eq_false (by omega)
       have hfl : f < 18446744073709551616 := by
        have : f ≤ 4294967296 * 4294967296 - 4294967296 := by
         rw [hf]
         have := Nat.mul_le_mul (show q ≤ 4294967295 by omega) (show vl ≤ 4294967295 by omega)
         omega
        omega
       have nB : hn < f := by omega
       have dB : decide ((hn : Int) < (f : Int)) = true := decide_eq_true (by omega)
       clear hf hhn hT
       go_upto_region 15 with fail
       go_quiet (fail)
      all_goals
       by_cases hbk : 4294967296 ≤ rv
       ·
        have dC : decide ((4294967296 : Int) ≤ (rv : Int)) = true := decide_eq_true (by omega)
        go_wp2_with fail
        go_meet
        have e1 := HQ1E.out
        have e2 := HRV.out
        have e3 := HQR.out
        exact ⟨q1, rfl, by omega, HGD.out.done HLE.out.2 (by omega) (HGD.out.brk (by omega) hbk), _, by first | rfl | exact World.drewN_drewN ..⟩
       ·
        have dC : decide ((4294967296 : Int) ≤ (rv : Int)) = false := decide_eq_false (by omega)
        go_wp2_with fail
        go_roundw
        case rel =>
         have e1 := HQ1E.out
         exact ⟨q1, rv, rfl, rfl, HLE.out.2, by omega, by omega, fun h => by omega, _, by first | rfl | exact World.drewN_drewN ..⟩
        case measure =>
         have e1 := HQ1E.out
         simp [intOf]; omega
     ·
      have hx5 : q < 4294967296 := by omega
      have dA : decide ((4294967296 : Int) ≤ (q : Int)) = false := decide_eq_false (by omega)
      have hfl : f < 18446744073709551616 := by omega
      have nB : ¬ hn < f := by omega
      have dB : decide ((hn : Int) < (f : Int)) = false := decide_eq_false (by omega)
      have hdn := HGD.out.done hgs2 hx5 (by omega)
      have HDN := zh hdn; clear hdn
      have HQR := zh hqr; clear hqr
      have HGS2 := zh hgs2; clear hgs2
      clear hf hhn hT
      go_upto_region 15 with fail
      go_quiet (fail)
      go_wp2_with fail
      go_meet
      exact ⟨q, rfl, hx5, HDN.out, _, by first | rfl | exact World.drewN_drewN ..⟩
   case rest =>
    as_aux_lemma =>
    obtain ⟨q, rfl, hql, hqd, nn, rfl⟩ := hcut
    have HQD := zh hqd; clear hqd
    have HR0 := zh hr0; clear hr0
    have hb3 : Below w.heap.size w (wo.drewN nn) := HB2.out.trans ⟨rfl, rfl, rfl, Nat.le_refl _, fun _ _ => rfl⟩
    have hu3 : Blk (wo.drewN nn) bu 75 (cs32 (Dn (l + 1) (lo + 4294967296 ^ j * S))) := HU2.out
    have hv3 : Blk (wo.drewN nn) bv 75 (cs32 (Dn (m + 1) V)) := HV2.out
    have hq3 : Blk (wo.drewN nn) wb.heap.size 75 (cs32 (Dn K (4294967296 ^ (j + 1) * P))) := HQ2.out
    obtain ⟨w3, hw3⟩ : ∃ w3, w3 = wo.drewN nn := ⟨_, rfl⟩
    rw [← hw3] at hb3 hu3 hv3 hq3 ⊢
    have HW3 := zh hw3; clear hw3
    have HB3 := zh hb3; clear hb3
    have HU3 := zh hu3; clear hu3
    have HV3 := zh hv3; clear hv3
    have HQ3 := zh hq3; clear hq3
    clear HB2 HU2 HV2 HQ2 c0 c1 c2 d0 d1 hor hwq hwr hwd hvn hvn2 HGS HFI hg0l hr0l
    go_wp2_with fail
    go_loopw [17, 18, 151] (fun b c i wr => ∃ (i' L b' c' : Nat), i' ≤ m ∧ i = .int .i64 (i' : Int) ∧ b = .int .i64 (b' : Int) ∧ c = .int .u64 (c' : Int) ∧ Below w.heap.size w wr ∧ Ms S V q i' L b' c' ∧ Blk wr bu 75 (cs32 (Dn (l + 1) (lo + 4294967296 ^ j * (L + 4294967296 ^ i' * (S / 4294967296 ^ i'))))) ∧ Blk wr bv 75 (cs32 (Dn (m + 1) V)) ∧ Blk wr wb.heap.size 75 (cs32 (Dn K (4294967296 ^ (j + 1) * P)))) (fun _ _ i _ => m - (intOf i).toNat)
    case atStart =>
     refine ⟨0, 0, 0, 0, Nat.zero_le _, rfl, rfl, rfl, HB3.out, Ms.start _ _ _, ?_, HV3.out, HQ3.out⟩
     rw [Nat.pow_zero, Nat.one_mul, Nat.div_one, Nat.zero_add]; exact HU3.out
    case round =>
     obtain ⟨i, L, b, c, him, rfl, rfl, rfl, hbel4, hms, hu4, hv4, hq4⟩ := hrel
     obtain ⟨w4, rfl⟩ : ∃ w4 : World, w4 = wr := ⟨_, rfl⟩
     have hb1 := hms.b1
     have hc1 := hms.c1
     by_cases hlt : i < m
     ·
      obtain ⟨e, he⟩ : ∃ e, e = dig V i := ⟨_, rfl⟩
      have hel : e < 4294967296 := by rw [he]; exact dig_lt _ _
      obtain ⟨t, ht⟩ : ∃ t, t = dig S i := ⟨_, rfl⟩
      have htl : t < 4294967296 := by rw [ht]; exact dig_lt _ _
      have cv := hv4.cell (j := i) (cs32_get (Dn_get (m + 1) V i (by omega)))
      have cu := hu4.cell (j := i + j) (cs32_get (Dn_get (l + 1) _ (i + j) (by omega)))
      rw [← he] at cv
      rw [u_get HLOL.out hms.lt, ← ht] at cu
      have hfz := hu4.frozen (i + j)
      have hpl := hms.p_lt hql
      have hst := fun d b2 => hms.step hql (d := d) (b2 := b2)
      have hset := fun d => u_set (U := l + 1) (S := S) (d := d) HLOL.out hms.lt
      rw [← he] at hpl hst
      rw [← ht] at hst
      obtain ⟨f, hf⟩ : ∃ f, f = q * e := ⟨_, rfl⟩
      have hfi : (q : Int) * (e : Int) = (f : Int) := by rw [hf]; simp
      rw [← hf] at hpl hst
      have y1 : (i : Int) + (j : Int) < (l : Int) + 1 := by omega
      obtain ⟨y, hy⟩ : ∃ y, y = (f + c) % 4294967296 := ⟨_, rfl⟩
      obtain ⟨x, hx⟩ : ∃ x, x = (f + c) / 4294967296 := ⟨_, rfl⟩
      rw [← hx, ← hy] at hst
      have hyi : ((f : Int) + (c : Int)) % 4294967296 = (y : Int) := by omega
      have hxi : ((f : Int) + (c : Int)) / 4294967296 = (x : Int) := by omega
      have hyl : y < 4294967296 := by omega
      have hxl : x < 4294967296 := by omega
      have HST := zh hst; clear hst
      have HSET := zh hset; clear hset
      have HU4 := zh hu4; clear hu4
      have HV4 := zh hv4; clear hv4
      have HQ4 := zh hq4; clear hq4
      have HB4 := zh hbel4; clear hbel4
      have HMS := zh hms; clear hms
      have HYE := zh hy; clear hy
      have HXE := zh hx; clear hx
      clear he ht hf
      by_cases hneg : t < b + y
      ·
       have dN : decide ((t : Int) - (b : Int) - (y : Int) < 0) = true := decide_eq_true (by omega)
       have nN : (t : Int) - (b : Int) - (y : Int) < 0 := by omega
       go_wp2_with fail
       go_roundw
       case rel =>
        obtain ⟨d, hd⟩ : ∃ d : Nat, (d : Int) = (t : Int) - (b : Int) - (y : Int) + 4294967296 := ⟨((t : Int) - (b : Int) - (y : Int) + 4294967296).toNat, Int.toNat_of_nonneg (by omega)⟩
        rw [← hd]
        refine ⟨i + 1, L + 4294967296 ^ i * d, 1, x, by omega, by go_num, rfl, rfl, HB4.out.setCell (p := ⟨bu, i + j, none⟩) hub _, HST.out _ 1 (by omega) (by omega) (by omega), ?_, HV4.out.setOther ?_ _, HQ4.out.setOther ?_ _⟩
        ·
         refine (HU4.out.set (i + j) _).congr ?_
         rw [cs32_set, HSET.out _ (by omega)]
        ·
         show bu ≠ bv; omega
        ·
         show bu ≠ wb.heap.size; omega
       case measure => first | (simp [intOf]; done) | (simp [intOf]; omega)
      ·
       have dN : decide ((t : Int) - (b : Int) - (y : Int) < 0) = false := decide_eq_false (by omega)
       have nN : ¬ (t : Int) - (b : Int) - (y : Int) < 0 := by omega
       go_wp2_with fail
       go_roundw
       case rel =>
        obtain ⟨d, hd⟩ : ∃ d : Nat, (d : Int) = (t : Int) - (b : Int) - (y : Int) := ⟨((t : Int) - (b : Int) - (y : Int)).toNat, Int.toNat_of_nonneg (by omega)⟩
        rw [← hd]
        refine ⟨i + 1, L + 4294967296 ^ i * d, 0, x, by omega, by go_num, rfl, rfl, HB4.out.setCell (p := ⟨bu, i + j, none⟩) hub _, HST.out _ 0 (by omega) (by omega) (by omega), ?_, HV4.out.setOther ?_ _, HQ4.out.setOther ?_ _⟩
        ·
         refine (HU4.out.set (i + j) _).congr ?_
         rw [cs32_set, HSET.out _ (by omega)]
        ·
         show bu ≠ bv; omega
        ·
         show bu ≠ wb.heap.size; omega
       case measure => first | (simp [intOf]; done) | (simp [intOf]; omega)
     ·
      obtain rfl : m = i := by omega
      have hVm := HTS.out.1
      have hSm : S < 4294967296 ^ (m + 1) := by
       refine Nat.lt_trans HSL.out ?_
       rw [Nat.pow_succ]
       exact Nat.mul_lt_mul_of_pos_right hVm (by decide)
      have hS0 : S / 4294967296 ^ (m + 1) = 0 := Nat.div_eq_of_lt hSm
      have htm : S / 4294967296 ^ m = dig S m := by
       have := div_step S m
       rw [hS0] at this; omega
      obtain ⟨t, ht⟩ : ∃ t, t = dig S m := ⟨_, rfl⟩
      have htl : t < 4294967296 := by rw [ht]; exact dig_lt _ _
      have cu := hu4.cell (j := j + m) (cs32_get (Dn_get (l + 1) _ (j + m) (by omega)))
      rw [Nat.add_comm j m, u_get HLOL.out hms.lt, Nat.add_comm m j, ← ht] at cu
      have hfz := hu4.frozen (j + m)
      have cq := hq4.cell (j := j) (cs32_get (Dn_get K _ j (by omega)))
      rw [quo_get] at cq
      have hfq := hq4.frozen j
      have hset := fun d => u_set (U := l + 1) (S := S) (d := d) HLOL.out hms.lt
      rw [hS0, Nat.mul_zero] at hset
      have hLlt := hms.lt
      have hhd := hand_div Y V j hV0
      rw [← HS.out, ← HP.out] at hhd
      have hqs := fun d h => quo_set K j d P h
      have ne1 : ¬ bu = wb.heap.size := by omega
      have ne2 : ¬ wb.heap.size = bu := by omega
      have z1 : (j : Int) < (K : Int) := by omega
      have hcase : (q = S / V ∧ t = b + c ∧ L = S % V) ∨ (q = S / V + 1 ∧ t + 1 = b + c ∧ L + V = 4294967296 ^ m + S % V) := by
       rcases HQD.out with h | h
       ·
        have := hms.end0 hVm hV0 h
        rw [htm, ← ht] at this
        exact Or.inl ⟨h, this⟩
       ·
        have := hms.end1 hVm hV0 h
        rw [htm, ← ht] at this
        exact Or.inr ⟨h, this⟩
      have HMS := zh hms; clear hms
      have HSET := zh hset; clear hset
      have HU4 := zh hu4; clear hu4
      have HV4 := zh hv4; clear hv4
      have HQ4 := zh hq4; clear hq4
      have HB4 := zh hbel4; clear hbel4
      have HHD := zh hhd; clear hhd
      have HQS := zh hqs; clear hqs
      have HLL := zh hLlt; clear hLlt
      have HVM := zh hVm; clear hVm
      have HSM := zh hSm; clear hSm
      have HS0 := zh hS0; clear hS0
      have HTM := zh htm; clear htm
      clear ht
      rcases hcase with ⟨hq, htb, hL⟩ | ⟨hq, htb, hL⟩
      ·
       have hd0 : (t : Int) - (b : Int) - (c : Int) = 0 := by omega
       clear htb
       have HQE := zh hq; clear hq
       have HLE2 := zh hL; clear hL
       go_wp2_with fail
       go_roundw
       case rel =>
        refine ⟨j, by omega, rfl, (HB4.out.setCell (p := ⟨bu, j + m, none⟩) hub _).setCell (p := ⟨wb.heap.size, j, none⟩) (by show w.heap.size ≤ wb.heap.size; omega) _, ?_, (HV4.out.setOther (by show bu ≠ bv; omega) _).setOther (by show wb.heap.size ≠ bv; omega) _, ?_⟩
        ·
         refine ((HU4.out.set (j + m) _).setOther (by show wb.heap.size ≠ bu; omega) _).congr ((cs32_set _ (j + m) 0).trans ?_)
         rw [Nat.add_comm j m, HSET.out 0 (by decide), HLE2.out, HHD.out.2, ← HLO.out]
         simp only [Nat.mul_zero, Nat.add_zero]
        ·
         refine ((HQ4.out.setOther (by show bu ≠ wb.heap.size; omega) _).set j _).congr ((cs32_set _ j q).trans ?_)
         rw [HQS.out q hql, HHD.out.1, ← HQE.out]
       case measure => first | (simp [intOf]; done) | (simp [intOf]; omega)
      ·
       as_aux_lemma =>
       have hd1 : (t : Int) - (b : Int) - (c : Int) = -1 := by omega
       obtain ⟨q', hq'⟩ : ∃ q', q = q' + 1 := ⟨S / V, hq⟩
       have hqi : (q : Int) - 1 = (q' : Int) := by omega
       have hqe : q' = S / V := by omega
       have hq'l : q' < 4294967296 := by omega
       clear htb
       have HQE := zh hq; clear hq
       have HQE2 := zh hqe; clear hqe
       have HLE2 := zh hL; clear hL
       clear hq'
       go_wp2_with fail
       obtain ⟨S2, hS2⟩ : ∃ S2, S2 = L + 4294967296 ^ m * 4294967295 := ⟨_, rfl⟩
       have HS2 := zh hS2; clear hS2
       go_loopw [23, 215] (fun c i wr => ∃ (i' Ka c' : Nat), i' ≤ m ∧ i = .int .i64 (i' : Int) ∧ c = .int .u64 (c' : Int) ∧ Below w.heap.size w wr ∧ Ad L V i' Ka c' ∧ Blk wr bu 75 (cs32 (Dn (l + 1) (lo + 4294967296 ^ j * (Ka + 4294967296 ^ i' * (S2 / 4294967296 ^ i'))))) ∧ Blk wr bv 75 (cs32 (Dn (m + 1) V)) ∧ Blk wr wb.heap.size 75 (cs32 (Dn K (4294967296 ^ (j + 1) * P)))) (fun _ i _ => m - (intOf i).toNat)
       case atStart =>
        refine ⟨0, 0, 0, Nat.zero_le _, rfl, rfl, HB4.out.setCell (p := ⟨bu, j + m, none⟩) hub _, Ad.start _ _, ?_, HV4.out.setOther (by show bu ≠ bv; omega) _, HQ4.out.setOther (by show bu ≠ wb.heap.size; omega) _⟩
        refine (HU4.out.set (j + m) _).congr ((cs32_set _ (j + m) 4294967295).trans ?_)
        rw [Nat.add_comm j m, HSET.out 4294967295 (by decide), ← HS2.out, Nat.pow_zero, Nat.one_mul, Nat.div_one, Nat.zero_add]
        simp only [Nat.add_zero]
       case round =>
        obtain ⟨i, Ka, c2, him2, rfl, rfl, hbel5, had, hu5, hv5, hq5⟩ := hrel
        obtain ⟨w5, rfl⟩ : ∃ w5 : World, w5 = wr := ⟨_, rfl⟩
        have hc2 := had.c1
        by_cases hlt2 : i < m
        ·
         obtain ⟨e, he⟩ : ∃ e, e = dig V i := ⟨_, rfl⟩
         have hel : e < 4294967296 := by rw [he]; exact dig_lt _ _
         obtain ⟨t', ht'⟩ : ∃ t', t' = dig L i := ⟨_, rfl⟩
         have htl' : t' < 4294967296 := by rw [ht']; exact dig_lt _ _
         have cv := hv5.cell (j := i) (cs32_get (Dn_get (m + 1) V i (by omega)))
         have cu2 := hu5.cell (j := i + j) (cs32_get (Dn_get (l + 1) _ (i + j) (by omega)))
         rw [← he] at cv
         rw [u_get HLOL.out had.lt, HS2.out, dig_lo _ hlt2, ← ht'] at cu2
         have hfz2 := hu5.frozen (i + j)
         have hst2 := had.step
         have hset2 := fun d => u_set (U := l + 1) (S := S2) (d := d) HLOL.out had.lt
         rw [← he, ← ht'] at hst2
         have y1 : (i : Int) + (j : Int) < (l : Int) + 1 := by omega
         have y2 : (i : Int) < (m : Int) := by omega
         obtain ⟨y, hy⟩ : ∃ y, y = (t' + e + c2) % 4294967296 := ⟨_, rfl⟩
         obtain ⟨x, hx⟩ : ∃ x, x = (t' + e + c2) / 4294967296 := ⟨_, rfl⟩
         rw [← hx, ← hy] at hst2
         have hyi : ((t' : Int) + (e : Int) + (c2 : Int)) % 4294967296 = (y : Int) := by omega
         have hxi : ((t' : Int) + (e : Int) + (c2 : Int)) / 4294967296 = (x : Int) := by omega
         have hyl : y < 4294967296 := by omega
         have hxl : x < 4294967296 := by omega
         have HST2 := zh hst2; clear hst2
         have HSET2 := zh hset2; clear hset2
         have HU5 := zh hu5; clear hu5
         have HV5 := zh hv5; clear hv5
         have HQ5 := zh hq5; clear hq5
         have HB5 := zh hbel5; clear hbel5
         have HAD := zh had; clear had
         clear he ht' hy hx cu cq hfz hfq
         go_upto_region 40 with fail
         go_quiet (fail)
         go_wp2_with fail
         go_roundw
         case rel =>
          have HB6 : Below w.heap.size w (w5.drewN nq) := HB5.out.trans ⟨rfl, rfl, rfl, Nat.le_refl _, fun _ _ => rfl⟩
          have HU6 : Blk (w5.drewN nq) bu 75 (cs32 (Dn (l + 1) (lo + 4294967296 ^ j * (Ka + 4294967296 ^ i * (S2 / 4294967296 ^ i))))) := HU5.out
          have HV6 : Blk (w5.drewN nq) bv 75 (cs32 (Dn (m + 1) V)) := HV5.out
          have HQ6 : Blk (w5.drewN nq) wb.heap.size 75 (cs32 (Dn K (4294967296 ^ (j + 1) * P))) := HQ5.out
          refine ⟨i + 1, Ka + 4294967296 ^ i * y, x, by omega, by go_num, rfl, HB6.setCell (p := ⟨bu, i + j, none⟩) hub _, HST2.out, ?_, HV6.setOther (by show bu ≠ bv; omega) _, HQ6.setOther (by show bu ≠ wb.heap.size; omega) _⟩
          refine (HU6.set (i + j) _).congr ((cs32_set _ (i + j) y).trans ?_)
          rw [HSET2.out y hyl]
         case measure => first | (simp [intOf]; done) | (simp [intOf]; omega)
        ·
         obtain rfl : m = i := by omega
         have hlast := had.last HLL.out HVM.out HLE2.out hV0
         obtain ⟨hc2', hKa⟩ := hlast
         have d2 : dig S2 m = 4294967295 := by rw [HS2.out]; exact (dig_hi 4294967295 0 HLL.out).trans (by decide)
         have hS20 : S2 / 4294967296 ^ (m + 1) = 0 := Nat.div_eq_of_lt (by rw [HS2.out]; exact low_set HLL.out (by decide))
         have cu2 := hu5.cell (j := j + m) (cs32_get (Dn_get (l + 1) _ (j + m) (by omega)))
         rw [Nat.add_comm j m, u_get HLOL.out had.lt, Nat.add_comm m j, d2] at cu2
         have hfz2 := hu5.frozen (j + m)
         have cq2 := hq5.cell (j := j) (cs32_get (Dn_get K _ j (by omega)))
         rw [quo_get] at cq2
         have hfq2 := hq5.frozen j
         have hset2 := fun d => u_set (U := l + 1) (S := S2) (d := d) HLOL.out had.lt
         rw [hS20, Nat.mul_zero] at hset2
         have hci : (c2 : Int) = 1 := by omega
         have HSET2 := zh hset2; clear hset2
         have HU5 := zh hu5; clear hu5
         have HV5 := zh hv5; clear hv5
         have HQ5 := zh hq5; clear hq5
         have HB5 := zh hbel5; clear hbel5
         have HAD := zh had; clear had
         have HKA := zh hKa; clear hKa
         clear d2 hS20 cu cq hfz hfq
         go_wp2_with fail
         go_roundw
         case rel =>
          refine ⟨j, by omega, rfl, (HB5.out.setCell (p := ⟨bu, j + m, none⟩) hub _).setCell (p := ⟨wb.heap.size, j, none⟩) (by show w.heap.size ≤ wb.heap.size; omega) _, ?_, (HV5.out.setOther (by show bu ≠ bv; omega) _).setOther (by show wb.heap.size ≠ bv; omega) _, ?_⟩
          ·
           refine ((HU5.out.set (j + m) _).setOther (by show wb.heap.size ≠ bu; omega) _).congr ((cs32_set _ (j + m) 0).trans ?_)
           rw [Nat.add_comm j m, HSET2.out 0 (by decide), HKA.out, HHD.out.2, ← HLO.out]
           simp only [Nat.mul_zero, Nat.add_zero]
          ·
           refine ((HQ5.out.setOther (by show bu ≠ wb.heap.size; omega) _).set j _).congr ((cs32_set _ j q').trans ?_)
           rw [HQS.out q' hq'l, HHD.out.1, ← HQE2.out]
         case measure => first | (simp [intOf]; done) | (simp [intOf]; omega)
end Go.Proofs.Ytjpalbonclgflaa

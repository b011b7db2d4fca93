/- polynomial.Mul (printed by gen_pmul.py). -/
import Derived.Test.YtjpalbonclgflaaPart20
import Derived.Test.YtjpalbonclgflaaPart16
import Derived.Test.YtjpalbonclgflaaPart15
namespace Go.Proofs.Ytjpalbonclgflaa
open Go.RowKit

set_option maxRecDepth 100000 in
set_option maxHeartbeats 12800000 in
theorem pMul_fresh (a b : List Int) (va vb : Value) (w : World) (m k0 : Nat) (hra : Row w va a.length (civ a)) (hrb : Row w vb b.length (civ b)) (hla : a.length ≤ 30) (hlb : b.length ≤ 30) (ha0 : 0 < a.length) (hb0 : 0 < b.length)
  (hsa : ∀ x ∈ a, zs m x) (hsb : ∀ x ∈ b, zs k0 x) (hm : m + k0 + 100 ≤ 100000000) (hea : Ends a) (heb : Ends b) :
  Calls Try.prog 6 #[va, vb] w (PolRetEF (mulL a b) w) := by
 have hc1 := canon_any a va w hra (by omega) (fun x hx => by unfold small; exact Nat.le_trans (hsa x hx).size (by omega))
 have hc2 := fun w' h => canon_any b vb w' h (by omega) (fun x hx => by unfold small; exact Nat.le_trans (hsb x hx).size (by omega))
 unfold CanRet at hc1 hc2
 rw [tzI_id hea] at hc1
 simp only [tzI_id heb] at hc2
 obtain ⟨la, hla'⟩ : ∃ n, n = a.length := ⟨_, rfl⟩
 obtain ⟨lb, hlb'⟩ : ∃ n, n = b.length := ⟨_, rfl⟩
 obtain ⟨lo, hlo⟩ : ∃ n, lb + la = n + 1 := ⟨lb + la - 1, by omega⟩
 have hol := mulO_length a b
 have hoz := mulO_zs hsa hsb
 have hcf := fun v w' h => canon_fresh (mulO a b a.length) v w' h (by rw [hol]; omega) (fun x hx => by unfold small; exact Nat.le_trans (hoz _ x hx).size (by omega))
 unfold CanRetF at hcf
 have hff : tzI (mulO a b a.length) = mulL a b := rfl
 rw [hff] at hcf
 rw [hol a.length] at hcf
 obtain ⟨F, hF⟩ : ∃ F, F = mulL a b := ⟨_, rfl⟩
 rw [← hF] at hcf ⊢
 have hlo2 : a.length + b.length - 1 = lo := by omega
 simp only [hlo2] at hcf hol
 rw [← hla'] at hc1 hla ha0
 rw [← hlb'] at hc2 hlb hb0 hrb
 have hz1 : ((la : Int) == 0) = false := by simp; omega
 have hz2 : ((lb : Int) == 0) = false := by simp; omega
 have hbig : decide (64 < (la : Int) + (lb : Int) - 2) = false := decide_eq_false (by omega)
 have hmk := mkI lo (by omega) (lo : Int) rfl
 have hloi : (la : Int) + (lb : Int) - 1 = (lo : Int) := by omega
 have hwlo : IntKind.i64.wrap (lo : Int) = (lo : Int) := IntWalk.i64_in _ (by omega)
 have HC1 := zh hc1; clear hc1
 have HC2 := zh hc2; clear hc2
 have HCF := zh hcf; clear hcf
 have HRB0 := zh hrb; clear hrb
 have HLA := zh hla'; clear hla'
 have HLB := zh hlb'; clear hlb'
 have HLO := zh hlo; clear hlo
 have HOL := zh hol; clear hol
 have HOZ := zh hoz; clear hoz
 have HSA := zh hsa; clear hsa
 have HSB := zh hsb; clear hsb
 have HM := zh hm; clear hm
 clear hra hea heb hF hff hlo2
 go_enter Try.func6, Try.ntmps6
 go_wp2_with fail
 refine (HC1.out).mono ?_
 rintro e1 w1 ⟨hq1, v1, rfl, hv1⟩
 dsimp only
 have hc2 := HC2.out _ (HRB0.out.below hq1 (Nat.le_refl _))
 have HC3 := zh hc2; clear hc2
 have HQ1 := zh hq1; clear hq1
 have HV1 := zh hv1; clear hv1
 go_wp2_with fail
 refine (HC3.out).mono ?_
 rintro e2 w2 ⟨hq2, v2, rfl, hv2⟩
 dsimp only
 have s2 := HQ1.out.trans (hq2.mono HQ1.out.size)
 have hv1 := HV1.out.below hq2 (Nat.le_refl _)
 obtain ⟨a1, c1, rfl, hle1⟩ := hv1.slice
 obtain ⟨a2, c2, rfl, hle2⟩ := hv2.slice
 clear HV1 hq2 HQ1 HC3 HRB0 HC2
 have S2 := zh s2; clear s2
 have HRA := zh hv1; clear hv1
 have HRB := zh hv2; clear hv2
 have tl0 := Below.refl w2.heap.size w2
 have hob0 := blk_mkI w2 lo
 obtain ⟨ob, hobe⟩ : ∃ b, b = w2.heap.size := ⟨_, rfl⟩
 have hal : Below w2.heap.size w2 (w2.alloc (.cells (zarr (.agg #[.bool false, .string ⟨#[]⟩]) lo) 33)) := (Below.refl _ _).alloc (Nat.le_refl _) _
 have hog : w2.heap.size ≤ ob := by omega
 rw [← hobe] at hob0
 have HBL := zh hal; clear hal
 have HOB := zh hob0; clear hob0
 clear tl0
 go_wp2_with fail
 (try rw [← hobe])
 have HOBE := zh hobe; clear hobe
 go_loopw [7, 8, 9, 10, 39] (fun _ _ _ _ i wr => ∃ k : Nat, k ≤ la ∧ i = .int .i64 (k : Int) ∧ Below w2.heap.size w2 wr ∧ Blk wr ob 33 (civ (mulO a b k))) (fun _ _ _ _ i _ => la - (intOf i).toNat)
 case atStart => exact ⟨0, Nat.zero_le _, rfl, HBL.out, by
  have h9 := HOB.out
  have h8 : mulO a b 0 = List.replicate lo 0 := by rw [mulO]; congr 1; have := HLA.out; have := HLB.out; have := HLO.out; omega
  rw [h8]; exact h9⟩
 case round =>
  obtain ⟨k, hk, rfl, hbel, hob⟩ := hrel
  obtain ⟨wo, rfl⟩ : ∃ wo : World, wo = wr := ⟨_, rfl⟩
  clear HBL HOB
  by_cases hkn : k < la
  ·
   obtain ⟨x, hxg⟩ : ∃ x, a[k]? = some x := ⟨_, List.getElem?_eq_getElem (by rw [← HLA.out]; exact hkn)⟩
   have hxs := HSA.out x (List.mem_of_getElem? hxg)
   have hxd : a.getD k 0 = x := by rw [List.getD, hxg]; rfl
   obtain ⟨O, hO⟩ : ∃ O, O = mulO a b k := ⟨_, rfl⟩
   have hOl : O.length = lo := by rw [hO]; exact HOL.out k
   have hOz := HOZ.out k
   rw [← hO] at hob hOz
   have hstep : mulO a b (k + 1) = inn x b k O lb := by rw [mulO, hxd, ← hO, ← HLB.out]
   obtain ⟨bb, oo, rfl, hbb, hbc⟩ := HRA.out.at_ (by omega)
   obtain ⟨c0, c1⟩ := int_cells hbc hbel hbb hxg
   have hbw := hbel.size
   have hol_ := hob.lt
   have hki1 : (k : Int) < (la : Int) := by omega
   have hal : Below wo.heap.size wo (wo.alloc (.cells #[.bool (ineg x), .string (imag x)] 33)) := (Below.refl _ _).alloc (Nat.le_refl _) _
   have hxb := Blk.new wo 33 [.bool (ineg x), .string (imag x)]
   obtain ⟨xb, hxbe⟩ : ∃ q, q = wo.heap.size := ⟨_, rfl⟩
   rw [← hxbe] at hxb
   have hxo : ob < xb := by omega
   have hob2 := hob.keep hal
   have hbel2 := hbel.trans (hal.mono hbel.size)
   obtain ⟨wE, hwE⟩ : ∃ q, q = wo.alloc (.cells #[.bool (ineg x), .string (imag x)] 33) := ⟨_, rfl⟩
   rw [← hwE] at hxb hob2 hbel2
   have x0 := hxb.c 0 rfl
   have x1 := hxb.c 1 rfl
   have HSTEP := zh hstep; clear hstep
   have HOLN := zh hOl; clear hOl
   have HOZN := zh hOz; clear hOz
   have HXS := zh hxs; clear hxs
   have HO5 := zh hob2; clear hob2
   have HB5 := zh hbel2; clear hbel2
   have HX5 := zh hxb; clear hxb
   clear hob hbel hal hO hxd hbc hxg hol_
   go_wp2_with fail
   (try rw [← hwE])
   (try rw [← hxbe])
   clear hwE
   have HXBE := zh hxbe; clear hxbe
   go_loopw [9, 10, 46] (fun _ _ i wr => ∃ d : Nat, d ≤ lb ∧ i = .int .i64 (d : Int) ∧ Below w2.heap.size w2 wr ∧ Blk wr xb 33 [.bool (ineg x), .string (imag x)] ∧ Blk wr ob 33 (civ (inn x b k O d))) (fun _ _ i _ => lb - (intOf i).toNat)
   case atStart => exact ⟨0, Nat.zero_le _, rfl, HB5.out, HX5.out, HO5.out⟩
   case round =>
    obtain ⟨d, hd, rfl, hbel, hxb, hob⟩ := hrel
    obtain ⟨wD, rfl⟩ : ∃ wo : World, wo = wr := ⟨_, rfl⟩
    clear HB5 HX5 HO5 x0 x1
    by_cases hdn : d < lb
    ·
     obtain ⟨y, hyg⟩ : ∃ x, b[d]? = some x := ⟨_, List.getElem?_eq_getElem (by rw [← HLB.out]; exact hdn)⟩
     have hys := HSB.out y (List.mem_of_getElem? hyg)
     have hyd : b.getD d 0 = y := by rw [List.getD, hyg]; rfl
     obtain ⟨ij, hij⟩ : ∃ q, q = k + d := ⟨_, rfl⟩
     have hijl : ij < lo := by have := HLO.out; omega
     have hol2 : (inn x b k O d).length = lo := by rw [inn_length]; exact HOLN.out
     obtain ⟨u, hug⟩ : ∃ u, (inn x b k O d)[ij]? = some u := ⟨_, List.getElem?_eq_getElem (by omega)⟩
     have hud : (inn x b k O d).getD (k + d) 0 = u := by rw [← hij, List.getD, hug]; rfl
     have hus : zs (m + k0 + k + 1) u := inn_zs HOZN.out HXS.out HSB.out (by omega) d u (List.mem_of_getElem? hug)
     have hm9 := HM.out
     have hmu := fun w' => imulV x y w' (Nat.le_trans HXS.out.size (by omega)) (Nat.le_trans hys.size (by omega))
     have hps := HXS.out.mul hys
     obtain ⟨p, hp⟩ : ∃ p, p = x * y := ⟨_, rfl⟩
     rw [← hp] at hmu hps
     have hsu := fun w' => iadd_any (ineg u) (ineg p) (imag u) (imag p) w' (Nat.le_trans hus.size (by omega)) (Nat.le_trans hps.size (by omega))
     simp only [ival_canon] at hsu
     obtain ⟨z, hz⟩ : ∃ z, z = u + p := ⟨_, rfl⟩
     rw [← hz] at hsu
     have hset : (inn x b k O d).set ij z = inn x b k O (d + 1) := by rw [inn, hud, hyd, ← hij, hz, hp]
     have hciv : ((civ (inn x b k O d)).set (ij * 2) (.bool (ineg z))).set (ij * 2 + 1) (.string (imag z)) = civ (inn x b k O (d + 1)) := by rw [civ_set, hset]
     have hcg := civ_get hug
     have hiji : (k : Int) + (d : Int) = (ij : Int) := by omega
     have hwij : IntKind.i64.wrap (ij : Int) = (ij : Int) := IntWalk.i64_in _ (by omega)
     have hijli : (ij : Int) < (lo : Int) := by omega
     have hdi : (d : Int) < (lb : Int) := by omega
     obtain ⟨bb2, ob2, hbo, hbb2, hbc2⟩ := HRB.out.at_ (by omega)
     obtain ⟨e0, e1⟩ := int_cells hbc2 hbel hbb2 hyg
     subst hbo
     have hal : Below wD.heap.size wD (wD.alloc (.cells #[.bool (ineg y), .string (imag y)] 33)) := (Below.refl _ _).alloc (Nat.le_refl _) _
     have hyb := Blk.new wD 33 [.bool (ineg y), .string (imag y)]
     obtain ⟨yb, hybe⟩ : ∃ q, q = wD.heap.size := ⟨_, rfl⟩
     have hyo : ob < yb := by have := hob.lt; omega
     have hyx : xb < yb := by have := hxb.lt; omega
     have hxb2 := hxb.keep hal
     have hob2 := hob.keep hal
     have hbel2 := hbel.trans (hal.mono hbel.size)
     rw [← hybe] at hyb
     obtain ⟨wE, hwE⟩ : ∃ q, q = wD.alloc (.cells #[.bool (ineg y), .string (imag y)] 33) := ⟨_, rfl⟩
     rw [← hwE] at hyb hxb2 hob2 hbel2
     have HMU := zh hmu; clear hmu
     have HSU := zh hsu; clear hsu
     have HCIV := zh hciv; clear hciv
     have HCG := zh hcg; clear hcg
     have HB6 := zh hbel2; clear hbel2
     have HX6 := zh hxb2; clear hxb2
     have HO6 := zh hob2; clear hob2
     clear hbel hxb hob hal hyg hys hug hus hm9 hps hset hud hyd hz hp hbc2 hol2
     have HIJ := zh hij; clear hij
     have t0 := HX6.out.c 0 rfl
     have t1 := HX6.out.c 1 rfl
     have y0 := hyb.c 0 rfl
     have y1 := hyb.c 1 rfl
     have v0 := HO6.out.cell HCG.out.1
     have v1 := HO6.out.cell HCG.out.2
     have f0 := HO6.out.frozen (ij * 2)
     have f1 := HO6.out.frozen (ij * 2 + 1)
     have HY6 := zh hyb; clear hyb
     go_wp2_with fail
     (try rw [← hwE])
     (try rw [← hybe])
     have HWE := zh hwE; clear hwE
     have HYBE := zh hybe; clear hybe
     refine wp_region_held_drew (S := fun w' => w'.cell? ⟨xb, 0, none⟩ = some (.bool (ineg x)) ∧ w'.cell? ⟨xb, 1, none⟩ = some (.string (imag x)) ∧ w'.cell? ⟨yb, 0, none⟩ = some (.bool (ineg y)) ∧ w'.cell? ⟨yb, 1, none⟩ = some (.string (imag y))) (by kernel_rfl) ?_ (fun hHs => ?_)
     ·
      go_keep
     have HB6 := zh HB6.out.drew
     have HX6 := zh HX6.out.drew
     have HO6 := zh HO6.out.drew
     have HY6 := zh HY6.out.drew
     clear t0 t1 y0 y1 e0 e1
     refine zT 0 (h := ?_)
     (try simp only [Act.put, zA, zB, zC])
     refine zT 1 (h := ?_)
     (try simp only [Act.put, zA, zB, zC])
     refine zT 2 (h := ?_)
     (try simp only [Act.put, zA, zB, zC])
     refine zT 3 (h := ?_)
     (try simp only [Act.put, zA, zB, zC])
     refine zT 4 (h := ?_)
     (try simp only [Act.put, zA, zB, zC])
     refine zT 5 (h := ?_)
     (try simp only [Act.put, zA, zB, zC])
     refine zT 6 (h := ?_)
     (try simp only [Act.put, zA, zB, zC])
     refine zT 7 (h := ?_)
     (try simp only [Act.put, zA, zB, zC])
     refine zT 8 (h := ?_)
     (try simp only [Act.put, zA, zB, zC])
     refine zT 10 (h := ?_)
     (try simp only [Act.put, zA, zB, zC])
     refine zT 11 (h := ?_)
     (try simp only [Act.put, zA, zB, zC])
     refine wpAnyH_ready (rs := [9, 12]) (by kernel_rfl) (by simp) ?_
     refine AllReadyH.cons rfl (fun K hK => ?_) (AllReadyH.cons rfl (fun K hK => ?_) AllReadyH.nil)
     ·
      go_simp
      refine hK.out _ _ hHs (fun hHs => ?_)
      clear hK K
      (try simp only [Act.put, zA, zB, zC])
      refine zR 12 (h := fun K hK => ?_)
      go_simp
      go_at_call 21
      refine (HMU.out _).mono ?_
      rintro e9 wn ⟨hq, rfl⟩
      dsimp only
      have z0 := zK hq HX6.out.lt hHs.1
      have z1 := zK hq HX6.out.lt hHs.2.1
      have z2 := zK hq HY6.out.lt hHs.2.2.1
      have z3 := zK hq HY6.out.lt hHs.2.2.2
      refine hK.out _ _ ⟨z0, z1, z2, z3⟩ (fun hHs2 => ?_)
      have hxb := HX6.out.keep hq
      have hyb := HY6.out.keep hq
      have hob := HO6.out.keep hq
      have hbel := HB6.out.trans (hq.mono HB6.out.size)
      clear hK K z0 z1 z2 z3 hHs hq HB6 HX6 HY6 HO6 v0 v1 f0 f1
      have hHs := hHs2
      clear hHs2
      have v0 := hob.cell HCG.out.1
      have v1 := hob.cell HCG.out.2
      have f0 := hob.frozen (ij * 2)
      have f1 := hob.frozen (ij * 2 + 1)
      have HB6 := zh hbel; clear hbel
      have HX6 := zh hxb; clear hxb
      have HY6 := zh hyb; clear hyb
      have HO6 := zh hob; clear hob
      (try simp only [Act.put, zA, zB, zC])
      refine zR 13 (h := fun K hK => ?_)
      go_simp
      go_at_call 20
      refine (HSU.out _).mono ?_
      rintro e9 wn ⟨hq, rfl⟩
      dsimp only
      have z0 := zK hq HX6.out.lt hHs.1
      have z1 := zK hq HX6.out.lt hHs.2.1
      have z2 := zK hq HY6.out.lt hHs.2.2.1
      have z3 := zK hq HY6.out.lt hHs.2.2.2
      refine hK.out _ _ ⟨z0, z1, z2, z3⟩ (fun hHs2 => ?_)
      have hxb := HX6.out.keep hq
      have hyb := HY6.out.keep hq
      have hob := HO6.out.keep hq
      have hbel := HB6.out.trans (hq.mono HB6.out.size)
      clear hK K z0 z1 z2 z3 hHs hq HB6 HX6 HY6 HO6 v0 v1 f0 f1
      have hHs := hHs2
      clear hHs2
      have v0 := hob.cell HCG.out.1
      have v1 := hob.cell HCG.out.2
      have f0 := hob.frozen (ij * 2)
      have f1 := hob.frozen (ij * 2 + 1)
      have HB6 := zh hbel; clear hbel
      have HX6 := zh hxb; clear hxb
      have HY6 := zh hyb; clear hyb
      have HO6 := zh hob; clear hob
      (try simp only [Act.put, zA, zB, zC])
      refine zT 14 (h := ?_)
      (try simp only [Act.put, zA, zB, zC])
      refine zR 15 (h := fun K hK => ?_)
      go_simp
      have z0 := ((HX6.out.setOther (a := ⟨ob, ij * 2, none⟩) (by show ob ≠ xb; omega) (.bool (ineg z))).setOther (a := ⟨ob, ij * 2 + 1, none⟩) (by show ob ≠ xb; omega) (.string (imag z))).c 0 rfl
      have z1 := ((HX6.out.setOther (a := ⟨ob, ij * 2, none⟩) (by show ob ≠ xb; omega) (.bool (ineg z))).setOther (a := ⟨ob, ij * 2 + 1, none⟩) (by show ob ≠ xb; omega) (.string (imag z))).c 1 rfl
      have z2 := ((HY6.out.setOther (a := ⟨ob, ij * 2, none⟩) (by show ob ≠ yb; omega) (.bool (ineg z))).setOther (a := ⟨ob, ij * 2 + 1, none⟩) (by show ob ≠ yb; omega) (.string (imag z))).c 0 rfl
      have z3 := ((HY6.out.setOther (a := ⟨ob, ij * 2, none⟩) (by show ob ≠ yb; omega) (.bool (ineg z))).setOther (a := ⟨ob, ij * 2 + 1, none⟩) (by show ob ≠ yb; omega) (.string (imag z))).c 1 rfl
      refine hK.out _ _ ⟨z0, z1, z2, z3⟩ (fun hHe => ?_)
      clear hK K z0 z1 z2 z3
      (try simp only [Act.put, zA, zB, zC])
      refine wpAnyH_done (by kernel_rfl) ?_ _
      (try simp only [List.getElem_toArray, List.getElem_cons_zero, List.getElem_cons_succ, Act.put, zA, zB, zC])
      clear hHe
      go_wp2_with fail
      go_roundw
      case rel =>
       refine ⟨d + 1, by omega, by go_num, ((HB6.out.setCell (p := ⟨ob, ij * 2, none⟩) (by show w2.heap.size ≤ ob; omega) (.bool (ineg z))).setCell (p := ⟨ob, ij * 2 + 1, none⟩) (by show w2.heap.size ≤ ob; omega) (.string (imag z))), ((HX6.out.setOther (a := ⟨ob, ij * 2, none⟩) (by show ob ≠ xb; omega) (.bool (ineg z))).setOther (a := ⟨ob, ij * 2 + 1, none⟩) (by show ob ≠ xb; omega) (.string (imag z))), ?_⟩
       rw [← HCIV.out]
       exact (HO6.out.set _ _).set _ _
      case measure => simp [intOf]; omega
     ·
      go_simp
      go_at_call 21
      refine (HMU.out _).mono ?_
      rintro e9 wn ⟨hq, rfl⟩
      dsimp only
      have z0 := zK hq HX6.out.lt hHs.1
      have z1 := zK hq HX6.out.lt hHs.2.1
      have z2 := zK hq HY6.out.lt hHs.2.2.1
      have z3 := zK hq HY6.out.lt hHs.2.2.2
      refine hK.out _ _ ⟨z0, z1, z2, z3⟩ (fun hHs2 => ?_)
      have hxb := HX6.out.keep hq
      have hyb := HY6.out.keep hq
      have hob := HO6.out.keep hq
      have hbel := HB6.out.trans (hq.mono HB6.out.size)
      clear hK K z0 z1 z2 z3 hHs hq HB6 HX6 HY6 HO6 v0 v1 f0 f1
      have hHs := hHs2
      clear hHs2
      have v0 := hob.cell HCG.out.1
      have v1 := hob.cell HCG.out.2
      have f0 := hob.frozen (ij * 2)
      have f1 := hob.frozen (ij * 2 + 1)
      have HB6 := zh hbel; clear hbel
      have HX6 := zh hxb; clear hxb
      have HY6 := zh hyb; clear hyb
      have HO6 := zh hob; clear hob
      (try simp only [Act.put, zA, zB, zC])
      refine zR 9 (h := fun K hK => ?_)
      go_simp
      refine hK.out _ _ hHs (fun hHs => ?_)
      clear hK K
      (try simp only [Act.put, zA, zB, zC])
      refine zR 13 (h := fun K hK => ?_)
      go_simp
      go_at_call 20
      refine (HSU.out _).mono ?_
      rintro e9 wn ⟨hq, rfl⟩
      dsimp only
      have z0 := zK hq HX6.out.lt hHs.1
      have z1 := zK hq HX6.out.lt hHs.2.1
      have z2 := zK hq HY6.out.lt hHs.2.2.1
      have z3 := zK hq HY6.out.lt hHs.2.2.2
      refine hK.out _ _ ⟨z0, z1, z2, z3⟩ (fun hHs2 => ?_)
      have hxb := HX6.out.keep hq
      have hyb := HY6.out.keep hq
      have hob := HO6.out.keep hq
      have hbel := HB6.out.trans (hq.mono HB6.out.size)
      clear hK K z0 z1 z2 z3 hHs hq HB6 HX6 HY6 HO6 v0 v1 f0 f1
      have hHs := hHs2
      clear hHs2
      have v0 := hob.cell HCG.out.1
      have v1 := hob.cell HCG.out.2
      have f0 := hob.frozen (ij * 2)
      have f1 := hob.frozen (ij * 2 + 1)
      have HB6 := zh hbel; clear hbel
      have HX6 := zh hxb; clear hxb
      have HY6 := zh hyb; clear hyb
      have HO6 := zh hob; clear hob
      (try simp only [Act.put, zA, zB, zC])
      refine zT 14 (h := ?_)
      (try simp only [Act.put, zA, zB, zC])
      refine zR 15 (h := fun K hK => ?_)
      go_simp
      have z0 := ((HX6.out.setOther (a := ⟨ob, ij * 2, none⟩) (by show ob ≠ xb; omega) (.bool (ineg z))).setOther (a := ⟨ob, ij * 2 + 1, none⟩) (by show ob ≠ xb; omega) (.string (imag z))).c 0 rfl
      have z1 := ((HX6.out.setOther (a := ⟨ob, ij * 2, none⟩) (by show ob ≠ xb; omega) (.bool (ineg z))).setOther (a := ⟨ob, ij * 2 + 1, none⟩) (by show ob ≠ xb; omega) (.string (imag z))).c 1 rfl
      have z2 := ((HY6.out.setOther (a := ⟨ob, ij * 2, none⟩) (by show ob ≠ yb; omega) (.bool (ineg z))).setOther (a := ⟨ob, ij * 2 + 1, none⟩) (by show ob ≠ yb; omega) (.string (imag z))).c 0 rfl
      have z3 := ((HY6.out.setOther (a := ⟨ob, ij * 2, none⟩) (by show ob ≠ yb; omega) (.bool (ineg z))).setOther (a := ⟨ob, ij * 2 + 1, none⟩) (by show ob ≠ yb; omega) (.string (imag z))).c 1 rfl
      refine hK.out _ _ ⟨z0, z1, z2, z3⟩ (fun hHe => ?_)
      clear hK K z0 z1 z2 z3
      (try simp only [Act.put, zA, zB, zC])
      refine wpAnyH_done (by kernel_rfl) ?_ _
      (try simp only [List.getElem_toArray, List.getElem_cons_zero, List.getElem_cons_succ, Act.put, zA, zB, zC])
      clear hHe
      go_wp2_with fail
      go_roundw
      case rel =>
       refine ⟨d + 1, by omega, by go_num, ((HB6.out.setCell (p := ⟨ob, ij * 2, none⟩) (by show w2.heap.size ≤ ob; omega) (.bool (ineg z))).setCell (p := ⟨ob, ij * 2 + 1, none⟩) (by show w2.heap.size ≤ ob; omega) (.string (imag z))), ((HX6.out.setOther (a := ⟨ob, ij * 2, none⟩) (by show ob ≠ xb; omega) (.bool (ineg z))).setOther (a := ⟨ob, ij * 2 + 1, none⟩) (by show ob ≠ xb; omega) (.string (imag z))), ?_⟩
       rw [← HCIV.out]
       exact (HO6.out.set _ _).set _ _
      case measure => simp [intOf]; omega
    ·
     have hde : d = lb := by omega
     rw [hde, ← HSTEP.out] at hob
     have HO6 := zh hob; clear hob
     have HB6 := zh hbel; clear hbel
     rw [hde]
     clear hde hdn hd hxb
     have hlbn : ¬ (lb : Int) < (lb : Int) := by omega
     go_wp2_with fail
     go_roundw
     case rel => exact ⟨k + 1, by omega, by go_num, HB6.out, HO6.out⟩
     case measure => simp [intOf]; omega
  ·
   have hke : k = la := by omega
   rw [hke] at hob
   have hob : Blk wo ob 33 (civ (mulO a b a.length)) := by rw [← HLA.out]; exact hob
   have hlo9 : lo ≤ 60 := by have := HLO.out; omega
   have hrow : Row wo (.slice (some ⟨ob, 0, none⟩) lo lo) lo (civ (mulO a b a.length)) := by
    have h9 := Row.ofBlk hob (m := lo) (cap := lo) (Nat.le_refl _) (by unfold maxLen; omega) (civ (mulO a b a.length)).length
    rw [List.take_length] at h9
    exact h9
   have hcf := HCF.out _ _ hrow
   rw [hke]
   have HCF1 := zh hcf; clear hcf
   have HB6 := zh hbel; clear hbel
   clear hke hkn hk hob hrow
   have hlan : ¬ (la : Int) < (la : Int) := by omega
   go_wp2_with fail
   refine (HCF1.out).mono ?_
   rintro e3 w3 ⟨hq3, v3, rfl, hv3, hfr⟩
   dsimp only
   have hfr9 : Fresh w v3 := fun b hb => Nat.le_trans (Nat.le_trans S2.out.size HB6.out.size) (hfr b hb)
   have s3 := S2.out.trans ((HB6.out.trans (hq3.mono HB6.out.size)).mono S2.out.size)
   have S3 := zh s3; clear s3
   have HV3 := zh hv3; clear hv3
   have HFR := zh hfr9; clear hfr9
   clear hq3 hfr
   go_wp2_with fail
   refine bodyPost_ret (v := .tuple #[v3, .int .i64 0]) (by simp [results, Try.results6, go_sem]) rfl ⟨S3.out, v3, rfl, HV3.out, HFR.out⟩
end Go.Proofs.Ytjpalbonclgflaa

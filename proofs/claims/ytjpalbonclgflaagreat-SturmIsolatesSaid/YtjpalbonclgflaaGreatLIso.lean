/- groovelaw05.SturmIsolates is true (printed by gen_liso.py). -/
import Derived.Test.YtjpalbonclgflaaGreatPart10
namespace Go.Proofs.YtjpalbonclgflaaGreat
open Go.RowKit

set_option maxRecDepth 100000 in
set_option maxHeartbeats 12800000 in
theorem lisolates_true (r : List (Bool × ByteArray)) (v : Value) (w : World) (hr0 : Row w v r.length (cnv r)) :
  Calls Tryz.prog 7 #[v] w (Ret w (.bool true)) := by
 have hfi := fine5_any r v w hr0
 unfold FineRet at hfi
 have HFI := Lib.hid hfi; clear hfi
 have HR00 := Lib.hid hr0; clear hr0
 go_enter Tryz.func7, Tryz.ntmps7
 go_wp2_with fail
 refine (HFI.out).mono ?_
 rintro e0 wF ⟨hq0, b, rfl, hb⟩
 dsimp only
 have hr1 := HR00.out.below hq0 (Nat.le_refl _)
 have HF0 := Lib.hid hq0; clear hq0
 cases b with
 | false =>
  clear hb hr1
  go_wp2_with fail
  refine (awake5_true _).mono ?_
  rintro e w2 ⟨hq, rfl⟩
  dsimp only
  have s2 := HF0.out.trans (hq.mono HF0.out.size)
  have S2 := Lib.hid s2; clear s2
  clear hq
  go_wp2_with fail
  go_ret
  exact ⟨S2.out, rfl⟩
 | true =>
 obtain ⟨⟨hg1, hg2⟩, hc1, hc2, hc3, hc4⟩ := hb rfl
 have hs : ∀ x ∈ vals r, zs 3 x := fun x hx => by
  obtain ⟨y, hy, rfl⟩ := List.mem_map.1 hx
  exact ival_sized (hg1 y hy) y.1
 have he : Ends (vals r) := by rw [← hc2]; exact tzI_ends _
 have hl : (vals r).length ≤ 8 := by rw [vals_length]; omega
 have hl0 : 0 < (vals r).length := by rw [vals_length]; exact hc3
 have hr : Row wF v (vals r).length (civ (vals r)) := by rw [vals_length, ← hc1]; exact hr1
 obtain ⟨l, hl9⟩ : ∃ l, l = vals r := ⟨_, rfl⟩
 rw [← hl9] at hs he hl hl0 hr
 clear hl9 hg1 hg2 hc1 hc2 hc3 hc4 hb hr1
 have hf := afine_of hl hl0 hs he
 obtain ⟨res, hres⟩ := T.iso_ex (m := 3) hf hl hs (by decide)
 have hfew := hres.few hf
 have hiso := fun w' h => sIsolate_any l v w' 8000000 800000000 res h hf (by decide) hfew hres.iso
 have hroo := fun w' h => sRoots_any l v w' 8000000 h hf
 have hbou := fun w' h => sBound_any l v w' 8000000 h hf
 have hbz := bnd_zs he hl0 hs (Nat.le_refl (bndK l))
 have hbp : bnd l = 2 ^ bndK l := rfl
 rw [← hbp] at hbz
 have hlen := hres.len
 have hq1 : rs 4 (Rat.divInt (bnd l : Int) 1) := divInt_sized hbz (by have h9 := zs_nat 1 4 (by decide); exact h9) (by decide)
 have hnn : (chg (stmA l) (-(Rat.divInt (bnd l : Int) 1)) : Int) - (chg (stmA l) (Rat.divInt (bnd l : Int) 1) : Int) = (res.length : Int) := hlen.symm
 rw [hnn] at hroo
 obtain ⟨B, hB⟩ : ∃ B : Int, B = (bnd l : Int) := ⟨_, rfl⟩
 rw [← hB] at hbou hbz hq1 hres
 obtain ⟨q, hq⟩ : ∃ q, q = Rat.divInt B 1 := ⟨_, rfl⟩
 rw [← hq] at hq1 hres
 have hof := fun w' => qof_ok B w' 4 (by decide) hbz
 rw [← hq] at hof
 have hqK : rs 800000000 q := ⟨hq1.1.mono (by omega), hq1.2.mono (by omega)⟩
 have hnK : rs 800000000 (-q) := ⟨by rw [Rat.neg_num]; exact hqK.1.neg, by rw [Rat.neg_den]; exact hqK.2⟩
 have hng := fun w' => qneg_ok q w' 800000000 (by decide) hqK
 have hcn := fun a b w' h ha hb hab => count_ok l v a b w' 8000000 800000000 h hf (by decide) ha hb hab
 have hcm := fun a b w' ha hb => qcmp_ok a b w' 800000000 (by decide) ha hb
 have hck := fun a w' ha => qchk_ok a w' 800000000 (by decide) ha
 obtain ⟨n, hn⟩ : ∃ n, n = res.length := ⟨_, rfl⟩
 rw [← hn] at hroo hfew
 obtain ⟨va, vc, rfl, -⟩ := hr.slice
 obtain ⟨nl, hnl⟩ : ∃ n, n = l.length := ⟨_, rfl⟩
 rw [← hnl] at hr hiso hroo hbou hcn ⊢
 unfold IsoRet at hiso
 rw [← hn] at hiso
 have HRW := Lib.hid hr; clear hr
 have HISO := Lib.hid hiso; clear hiso
 have HROO := Lib.hid hroo; clear hroo
 have HBOU := Lib.hid hbou; clear hbou
 have HOF := Lib.hid hof; clear hof
 have HNG := Lib.hid hng; clear hng
 have HCN := Lib.hid hcn; clear hcn
 have HCM := Lib.hid hcm; clear hcm
 have HCK := Lib.hid hck; clear hck
 have HRES := Lib.hid hres; clear hres
 have HN := Lib.hid hn; clear hn
 have HQK := Lib.hid hqK; clear hqK
 have HNK := Lib.hid hnK; clear hnK
 clear hf hs he hl hl0 hbz hbp hlen hq1 hnn hB hq hnl
 have hi := HISO.out _ HRW.out
 have HI := Lib.hid hi; clear hi
 go_wp2_with fail
 refine (HI.out).mono ?_
 rintro e1 w5 ⟨hq5, vi, rfl, hvi⟩
 dsimp only
 have hF := HF0.out.trans (hq5.mono HF0.out.size)
 have hrw := HRW.out.below hq5 (Nat.le_refl _)
 obtain ⟨ai, ci, rfl, hlei⟩ := hvi.slice
 clear hq5 HISO HRW HF0
 have HF5 := Lib.hid hF; clear hF
 have HRW := Lib.hid hrw; clear hrw
 have HVI := Lib.hid hvi; clear hvi
 have tl := Below.refl w5.heap.size w5
 have HBL := Lib.hid tl; clear tl
 have hro := HROO.out _ HRW.out
 have HRO := Lib.hid hro; clear hro
 go_wp2_with fail
 refine (HRO.out).mono ?_
 rintro e w21 ⟨hq, rfl⟩
 dsimp only
 have tl := HBL.out.trans ((hq).mono HBL.out.size)
 clear HBL 
 have HBL := Lib.hid tl; clear tl
 clear hq
 have hbo := HBOU.out _ (HRW.out.below HBL.out (Nat.le_refl _))
 have HBO := Lib.hid hbo; clear hbo
 go_wp2_with fail
 refine (HBO.out).mono ?_
 rintro e w22 ⟨hq, rfl⟩
 dsimp only
 have tl := HBL.out.trans ((hq).mono HBL.out.size)
 clear HBL 
 have HBL := Lib.hid tl; clear tl
 clear hq
 obtain ⟨b_b, hb_b⟩ : ∃ b, b = w22.heap.size := ⟨_, rfl⟩
 have hal : Below w22.heap.size w22 (w22.alloc (.cells #[.bool (ineg (B)), .string (imag (B))] 25)) := (Below.refl _ _).alloc (Nat.le_refl _) _
 have k_b : Blk (w22.alloc (.cells #[.bool (ineg (B)), .string (imag (B))] 25)) b_b 25 [.bool (ineg (B)), .string (imag (B))] := by rw [hb_b]; exact Blk.new w22 _ _
 have hge_b : w5.heap.size ≤ b_b := by rw [hb_b]; exact HBL.out.size
 have tl := HBL.out.trans ((hal).mono HBL.out.size)
 clear HBL 
 have HBL := Lib.hid tl; clear tl
 clear hal
 obtain ⟨b_0, b_f0, b_1, b_f1⟩ := k_b.f2
 have HB := Lib.hid k_b; clear k_b
 go_wp2_with fail
 (try rw [← hb_b])
 have HB_b := Lib.hid hb_b; clear hb_b
 refine (HOF.out _).mono ?_
 rintro e w23 ⟨hq, rfl⟩
 dsimp only
 have k_b := HB.out.keep hq
 have tl := HBL.out.trans ((hq).mono HBL.out.size)
 clear HBL HB
 clear b_0 b_f0 b_1 b_f1
 obtain ⟨b_0, b_f0, b_1, b_f1⟩ := k_b.f2
 have HB := Lib.hid k_b; clear k_b
 have HBL := Lib.hid tl; clear tl
 clear hq
 go_wp2_with fail
 refine (HNG.out _).mono ?_
 rintro e w24 ⟨hq, rfl⟩
 dsimp only
 have k_b := HB.out.keep hq
 have tl := HBL.out.trans ((hq).mono HBL.out.size)
 clear HBL HB
 clear b_0 b_f0 b_1 b_f1
 obtain ⟨b_0, b_f0, b_1, b_f1⟩ := k_b.f2
 have HB := Lib.hid k_b; clear k_b
 have HBL := Lib.hid tl; clear tl
 clear hq
 have hlt_b := HB.out.lt
 obtain ⟨b_t, hb_t⟩ : ∃ b, b = w24.heap.size := ⟨_, rfl⟩
 have hal : Below w24.heap.size w24 (w24.alloc (.cells #[.bool (ineg ((-q)).num), .string (imag ((-q)).num), .bool (ineg (((-q)).den : Int)), .string (imag (((-q)).den : Int))] 27)) := (Below.refl _ _).alloc (Nat.le_refl _) _
 have k_t : Blk (w24.alloc (.cells #[.bool (ineg ((-q)).num), .string (imag ((-q)).num), .bool (ineg (((-q)).den : Int)), .string (imag (((-q)).den : Int))] 27)) b_t 27 [.bool (ineg ((-q)).num), .string (imag ((-q)).num), .bool (ineg (((-q)).den : Int)), .string (imag (((-q)).den : Int))] := by rw [hb_t]; exact Blk.new w24 _ _
 have hge_t : w5.heap.size ≤ b_t := by rw [hb_t]; exact HBL.out.size
 have far_b_t : b_b < b_t := by rw [hb_t]; exact hlt_b
 clear hlt_b
 have k_b := HB.out.keep hal
 have tl := HBL.out.trans ((hal).mono HBL.out.size)
 clear HBL HB
 clear b_0 b_f0 b_1 b_f1
 obtain ⟨b_0, b_f0, b_1, b_f1⟩ := k_b.f2
 have HB := Lib.hid k_b; clear k_b
 have HBL := Lib.hid tl; clear tl
 clear hal
 obtain ⟨t_0, t_f0, t_1, t_f1, t_2, t_f2, t_3, t_f3⟩ := k_t.f4
 have HT := Lib.hid k_t; clear k_t
 go_wp2_with fail
 (try rw [← hb_t])
 have HB_t := Lib.hid hb_t; clear hb_t
 go_loopw [11, 12, 13, 49] (fun _ _ _ i wr => ∃ k : Nat, k ≤ n ∧ i = .int .i64 k ∧ Below w5.heap.size w5 wr ∧ Blk wr b_b 25 [.bool (ineg (B)), .string (imag (B))] ∧ Blk wr b_t 27 [.bool (ineg ((if k = 0 then -q else (res.getD (k - 1) (0, 0)).2)).num), .string (imag ((if k = 0 then -q else (res.getD (k - 1) (0, 0)).2)).num), .bool (ineg (((if k = 0 then -q else (res.getD (k - 1) (0, 0)).2)).den : Int)), .string (imag (((if k = 0 then -q else (res.getD (k - 1) (0, 0)).2)).den : Int))]) (fun _ _ _ i _ => n - (intOf i).toNat)
 case atStart => exact ⟨0, Nat.zero_le _, rfl, HBL.out, HB.out, HT.out⟩
 case round =>
  clear HBL HB HT b_0 b_f0 b_1 b_f1 t_0 t_f0 t_1 t_f1 t_2 t_f2 t_3 t_f3
  obtain ⟨k, hk, rfl, tl, k_b, k_t⟩ := hrel
  obtain ⟨wo, rfl⟩ : ∃ wo : World, wo = wr := ⟨_, rfl⟩
  obtain ⟨z, hz⟩ : ∃ z, z = (if k = 0 then -q else (res.getD (k - 1) (0, 0)).2) := ⟨_, rfl⟩
  rw [← hz] at k_t
  have hzK : rs 800000000 z := by
   rw [hz]
   split
   ·
    exact HNK.out
   ·
    have hk1 : k - 1 < res.length := by have := HN.out; omega
    have h8 := HRES.out.sz _ (List.getElem_mem hk1)
    rw [List.getD, List.getElem?_eq_getElem hk1]
    exact h8.2
  by_cases hkn : k < n
  ·
   have hkl : k < res.length := by have := HN.out; omega
   have hget : res[k]? = some (res[k]'hkl) := List.getElem?_eq_getElem _
   obtain ⟨xx, hxx⟩ : ∃ xx, xx = res[k]'hkl := ⟨_, rfl⟩
   have hsz := HRES.out.sz _ (List.getElem_mem hkl)
   rw [← hxx] at hget hsz
   obtain ⟨g1, g2, g3, g4⟩ := HRES.out.asc.get hget
   rw [← hz] at g1
   have hnext : (res.getD (k + 1 - 1) (0, 0)).2 = xx.2 := by rw [Nat.add_sub_cancel, List.getD, hget]; rfl
   obtain ⟨b1, o1, rfl, hb1, hbc⟩ := HVI.out.at_ (by omega)
   have hcl := iv_cell hbc tl hb1 hget
   obtain ⟨lo, hi⟩ := xx
   dsimp only at hsz g1 g2 g3 g4 hnext
   have p0 := hcl 0 _ rfl
   have p1 := hcl 1 _ rfl
   have p2 := hcl 2 _ rfl
   have p3 := hcl 3 _ rfl
   have p4 := hcl 4 _ rfl
   have p5 := hcl 5 _ rfl
   have p6 := hcl 6 _ rfl
   have p7 := hcl 7 _ rfl
   dsimp only at p0 p1 p2 p3 p4 p5 p6 p7
   rw [Nat.add_zero] at p0
   have hct := fun w' h => HCN.out lo hi w' h hsz.1 hsz.2 (Rat.le_of_lt g2)
   rw [g3] at hct
   have hm1 := fun w' => HCM.out z lo w' hzK hsz.1
   have hm2 := fun w' => HCM.out lo hi w' hsz.1 hsz.2
   have d1 := (cmpq_le g1).1
   have d2 := (cmpq_lt g2).1
   obtain ⟨c1, hc1⟩ : ∃ c, c = cmpq z lo := ⟨_, rfl⟩
   obtain ⟨c2, hc2⟩ : ∃ c, c = cmpq lo hi := ⟨_, rfl⟩
   rw [← hc1] at hm1 d1
   rw [← hc2] at hm2 d2
   have hk1 := fun w' => HCK.out lo w' hsz.1
   have hk2 := fun w' => HCK.out hi w' hsz.2
   have hix1 : (0 : Int) ≤ (k : Int) := by omega
   have hix2 : (k : Int) < (n : Int) := by omega
   have hnk : ¬ k + 1 = 0 := by omega
   have HCT := Lib.hid hct; clear hct
   have HM1 := Lib.hid hm1; clear hm1
   have HM2 := Lib.hid hm2; clear hm2
   have HK1 := Lib.hid hk1; clear hk1
   have HK2 := Lib.hid hk2; clear hk2
   have HNX := Lib.hid hnext; clear hnext
   clear hcl hbc hget hxx hsz g1 g2 g3 g4 hz hzK hc1 hc2 hkl
   obtain ⟨b_0, b_f0, b_1, b_f1⟩ := k_b.f2
   have HB := Lib.hid k_b; clear k_b
   obtain ⟨t_0, t_f0, t_1, t_f1, t_2, t_f2, t_3, t_f3⟩ := k_t.f4
   have HT := Lib.hid k_t; clear k_t
   have HBL := Lib.hid tl; clear tl
   have hlt_b := HB.out.lt
   have hlt_t := HT.out.lt
   obtain ⟨b_i, hb_i⟩ : ∃ b, b = wo.heap.size := ⟨_, rfl⟩
   have hal : Below wo.heap.size wo (wo.alloc (.cells #[.bool (ineg (lo).num), .string (imag (lo).num), .bool (ineg ((lo).den : Int)), .string (imag ((lo).den : Int)), .bool (ineg (hi).num), .string (imag (hi).num), .bool (ineg ((hi).den : Int)), .string (imag ((hi).den : Int))] 40)) := (Below.refl _ _).alloc (Nat.le_refl _) _
   have k_i : Blk (wo.alloc (.cells #[.bool (ineg (lo).num), .string (imag (lo).num), .bool (ineg ((lo).den : Int)), .string (imag ((lo).den : Int)), .bool (ineg (hi).num), .string (imag (hi).num), .bool (ineg ((hi).den : Int)), .string (imag ((hi).den : Int))] 40)) b_i 40 [.bool (ineg (lo).num), .string (imag (lo).num), .bool (ineg ((lo).den : Int)), .string (imag ((lo).den : Int)), .bool (ineg (hi).num), .string (imag (hi).num), .bool (ineg ((hi).den : Int)), .string (imag ((hi).den : Int))] := by rw [hb_i]; exact Blk.new wo _ _
   have hge_i : w5.heap.size ≤ b_i := by rw [hb_i]; exact HBL.out.size
   have far_b_i : b_b < b_i := by rw [hb_i]; exact hlt_b
   clear hlt_b
   have far_t_i : b_t < b_i := by rw [hb_i]; exact hlt_t
   clear hlt_t
   have k_b := HB.out.keep hal
   have k_t := HT.out.keep hal
   have tl := HBL.out.trans ((hal).mono HBL.out.size)
   clear HBL HB HT
   clear b_0 b_f0 b_1 b_f1
   obtain ⟨b_0, b_f0, b_1, b_f1⟩ := k_b.f2
   have HB := Lib.hid k_b; clear k_b
   clear t_0 t_f0 t_1 t_f1 t_2 t_f2 t_3 t_f3
   obtain ⟨t_0, t_f0, t_1, t_f1, t_2, t_f2, t_3, t_f3⟩ := k_t.f4
   have HT := Lib.hid k_t; clear k_t
   have HBL := Lib.hid tl; clear tl
   clear hal
   obtain ⟨i_0, i_f0, i_1, i_f1, i_2, i_f2, i_3, i_f3, i_4, i_f4, i_5, i_f5, i_6, i_f6, i_7, i_f7⟩ := k_i.f8
   have HI := Lib.hid k_i; clear k_i
   go_wp2_with fail
   (try rw [← hb_i])
   have HB_i := Lib.hid hb_i; clear hb_i
   have hcc := HCT.out _ (HRW.out.below HBL.out (Nat.le_refl _))
   have HCC := Lib.hid hcc; clear hcc
   refine (HCC.out).mono ?_
   rintro e w51 ⟨hq, rfl⟩
   dsimp only
   have k_b := HB.out.keep hq
   have k_t := HT.out.keep hq
   have k_i := HI.out.keep hq
   have tl := HBL.out.trans ((hq).mono HBL.out.size)
   clear HBL HB HT HI
   clear b_0 b_f0 b_1 b_f1
   obtain ⟨b_0, b_f0, b_1, b_f1⟩ := k_b.f2
   have HB := Lib.hid k_b; clear k_b
   clear t_0 t_f0 t_1 t_f1 t_2 t_f2 t_3 t_f3
   obtain ⟨t_0, t_f0, t_1, t_f1, t_2, t_f2, t_3, t_f3⟩ := k_t.f4
   have HT := Lib.hid k_t; clear k_t
   clear i_0 i_f0 i_1 i_f1 i_2 i_f2 i_3 i_f3 i_4 i_f4 i_5 i_f5 i_6 i_f6 i_7 i_f7
   obtain ⟨i_0, i_f0, i_1, i_f1, i_2, i_f2, i_3, i_f3, i_4, i_f4, i_5, i_f5, i_6, i_f6, i_7, i_f7⟩ := k_i.f8
   have HI := Lib.hid k_i; clear k_i
   have HBL := Lib.hid tl; clear tl
   clear hq
   go_wp2_with fail
   refine (HM1.out _).mono ?_
   rintro e w52 ⟨hq, rfl⟩
   dsimp only
   have k_b := HB.out.keep hq
   have k_t := HT.out.keep hq
   have k_i := HI.out.keep hq
   have tl := HBL.out.trans ((hq).mono HBL.out.size)
   clear HBL HB HT HI
   clear b_0 b_f0 b_1 b_f1
   obtain ⟨b_0, b_f0, b_1, b_f1⟩ := k_b.f2
   have HB := Lib.hid k_b; clear k_b
   clear t_0 t_f0 t_1 t_f1 t_2 t_f2 t_3 t_f3
   obtain ⟨t_0, t_f0, t_1, t_f1, t_2, t_f2, t_3, t_f3⟩ := k_t.f4
   have HT := Lib.hid k_t; clear k_t
   clear i_0 i_f0 i_1 i_f1 i_2 i_f2 i_3 i_f3 i_4 i_f4 i_5 i_f5 i_6 i_f6 i_7 i_f7
   obtain ⟨i_0, i_f0, i_1, i_f1, i_2, i_f2, i_3, i_f3, i_4, i_f4, i_5, i_f5, i_6, i_f6, i_7, i_f7⟩ := k_i.f8
   have HI := Lib.hid k_i; clear k_i
   have HBL := Lib.hid tl; clear tl
   clear hq
   go_wp2_with fail
   refine (HM2.out _).mono ?_
   rintro e w53 ⟨hq, rfl⟩
   dsimp only
   have k_b := HB.out.keep hq
   have k_t := HT.out.keep hq
   have k_i := HI.out.keep hq
   have tl := HBL.out.trans ((hq).mono HBL.out.size)
   clear HBL HB HT HI
   clear b_0 b_f0 b_1 b_f1
   obtain ⟨b_0, b_f0, b_1, b_f1⟩ := k_b.f2
   have HB := Lib.hid k_b; clear k_b
   clear t_0 t_f0 t_1 t_f1 t_2 t_f2 t_3 t_f3
   obtain ⟨t_0, t_f0, t_1, t_f1, t_2, t_f2, t_3, t_f3⟩ := k_t.f4
   have HT := Lib.hid k_t; clear k_t
   clear i_0 i_f0 i_1 i_f1 i_2 i_f2 i_3 i_f3 i_4 i_f4 i_5 i_f5 i_6 i_f6 i_7 i_f7
   obtain ⟨i_0, i_f0, i_1, i_f1, i_2, i_f2, i_3, i_f3, i_4, i_f4, i_5, i_f5, i_6, i_f6, i_7, i_f7⟩ := k_i.f8
   have HI := Lib.hid k_i; clear k_i
   have HBL := Lib.hid tl; clear tl
   clear hq
   go_wp2_with fail
   refine (HK1.out _).mono ?_
   rintro e w54 ⟨hq, rfl⟩
   dsimp only
   have k_b := HB.out.keep hq
   have k_t := HT.out.keep hq
   have k_i := HI.out.keep hq
   have tl := HBL.out.trans ((hq).mono HBL.out.size)
   clear HBL HB HT HI
   clear b_0 b_f0 b_1 b_f1
   obtain ⟨b_0, b_f0, b_1, b_f1⟩ := k_b.f2
   have HB := Lib.hid k_b; clear k_b
   clear t_0 t_f0 t_1 t_f1 t_2 t_f2 t_3 t_f3
   obtain ⟨t_0, t_f0, t_1, t_f1, t_2, t_f2, t_3, t_f3⟩ := k_t.f4
   have HT := Lib.hid k_t; clear k_t
   clear i_0 i_f0 i_1 i_f1 i_2 i_f2 i_3 i_f3 i_4 i_f4 i_5 i_f5 i_6 i_f6 i_7 i_f7
   obtain ⟨i_0, i_f0, i_1, i_f1, i_2, i_f2, i_3, i_f3, i_4, i_f4, i_5, i_f5, i_6, i_f6, i_7, i_f7⟩ := k_i.f8
   have HI := Lib.hid k_i; clear k_i
   have HBL := Lib.hid tl; clear tl
   clear hq
   go_wp2_with fail
   refine (HK2.out _).mono ?_
   rintro e w55 ⟨hq, rfl⟩
   dsimp only
   have k_b := HB.out.keep hq
   have k_t := HT.out.keep hq
   have k_i := HI.out.keep hq
   have tl := HBL.out.trans ((hq).mono HBL.out.size)
   clear HBL HB HT HI
   clear b_0 b_f0 b_1 b_f1
   obtain ⟨b_0, b_f0, b_1, b_f1⟩ := k_b.f2
   have HB := Lib.hid k_b; clear k_b
   clear t_0 t_f0 t_1 t_f1 t_2 t_f2 t_3 t_f3
   obtain ⟨t_0, t_f0, t_1, t_f1, t_2, t_f2, t_3, t_f3⟩ := k_t.f4
   have HT := Lib.hid k_t; clear k_t
   clear i_0 i_f0 i_1 i_f1 i_2 i_f2 i_3 i_f3 i_4 i_f4 i_5 i_f5 i_6 i_f6 i_7 i_f7
   obtain ⟨i_0, i_f0, i_1, i_f1, i_2, i_f2, i_3, i_f3, i_4, i_f4, i_5, i_f5, i_6, i_f6, i_7, i_f7⟩ := k_i.f8
   have HI := Lib.hid k_i; clear k_i
   have HBL := Lib.hid tl; clear tl
   clear hq
   go_wp2_with fail
   obtain ⟨w56, hw_⟩ : ∃ x, x = ((((w55).setCell ⟨b_t, 0, none⟩ (.bool (ineg (hi).num))).setCell ⟨b_t, 1, none⟩ (.string (imag (hi).num))).setCell ⟨b_t, 2, none⟩ (.bool (ineg ((hi).den : Int)))).setCell ⟨b_t, 3, none⟩ (.string (imag ((hi).den : Int))) := ⟨_, rfl⟩
   (try rw [← hw_])
   have k_b : Blk w56 (b_b) 25 [.bool (ineg (B)), .string (imag (B))] := by rw [hw_]; exact ((((HB.out.setOther (a := ⟨b_t, 0, none⟩) (by show b_t ≠ b_b; omega) (.bool (ineg (hi).num))).setOther (a := ⟨b_t, 1, none⟩) (by show b_t ≠ b_b; omega) (.string (imag (hi).num))).setOther (a := ⟨b_t, 2, none⟩) (by show b_t ≠ b_b; omega) (.bool (ineg ((hi).den : Int)))).setOther (a := ⟨b_t, 3, none⟩) (by show b_t ≠ b_b; omega) (.string (imag ((hi).den : Int))))
   have k_t : Blk w56 (b_t) 27 [.bool (ineg (hi).num), .string (imag (hi).num), .bool (ineg ((hi).den : Int)), .string (imag ((hi).den : Int))] := by rw [hw_]; exact ((((HT.out.set 0 (.bool (ineg (hi).num))).set 1 (.string (imag (hi).num))).set 2 (.bool (ineg ((hi).den : Int)))).set 3 (.string (imag ((hi).den : Int))))
   have k_i : Blk w56 (b_i) 40 [.bool (ineg (lo).num), .string (imag (lo).num), .bool (ineg ((lo).den : Int)), .string (imag ((lo).den : Int)), .bool (ineg (hi).num), .string (imag (hi).num), .bool (ineg ((hi).den : Int)), .string (imag ((hi).den : Int))] := by rw [hw_]; exact ((((HI.out.setOther (a := ⟨b_t, 0, none⟩) (by show b_t ≠ b_i; omega) (.bool (ineg (hi).num))).setOther (a := ⟨b_t, 1, none⟩) (by show b_t ≠ b_i; omega) (.string (imag (hi).num))).setOther (a := ⟨b_t, 2, none⟩) (by show b_t ≠ b_i; omega) (.bool (ineg ((hi).den : Int)))).setOther (a := ⟨b_t, 3, none⟩) (by show b_t ≠ b_i; omega) (.string (imag ((hi).den : Int))))
   have tl : Below w5.heap.size w5 w56 := by rw [hw_]; exact ((((HBL.out.setCell (p := ⟨b_t, 0, none⟩) (by show w5.heap.size ≤ b_t; omega) (.bool (ineg (hi).num))).setCell (p := ⟨b_t, 1, none⟩) (by show w5.heap.size ≤ b_t; omega) (.string (imag (hi).num))).setCell (p := ⟨b_t, 2, none⟩) (by show w5.heap.size ≤ b_t; omega) (.bool (ineg ((hi).den : Int)))).setCell (p := ⟨b_t, 3, none⟩) (by show w5.heap.size ≤ b_t; omega) (.string (imag ((hi).den : Int))))
   clear HBL hw_ HB HT HI
   clear t_0 t_f0 t_1 t_f1 t_2 t_f2 t_3 t_f3
   clear b_0 b_f0 b_1 b_f1
   obtain ⟨b_0, b_f0, b_1, b_f1⟩ := k_b.f2
   have HB := Lib.hid k_b; clear k_b
   obtain ⟨t_0, t_f0, t_1, t_f1, t_2, t_f2, t_3, t_f3⟩ := k_t.f4
   have HT := Lib.hid k_t; clear k_t
   clear i_0 i_f0 i_1 i_f1 i_2 i_f2 i_3 i_f3 i_4 i_f4 i_5 i_f5 i_6 i_f6 i_7 i_f7
   obtain ⟨i_0, i_f0, i_1, i_f1, i_2, i_f2, i_3, i_f3, i_4, i_f4, i_5, i_f5, i_6, i_f6, i_7, i_f7⟩ := k_i.f8
   have HI := Lib.hid k_i; clear k_i
   have HBL := Lib.hid tl; clear tl
   go_roundw
   case rel => exact ⟨k + 1, by omega, by go_num, HBL.out, HB.out, by rw [if_neg hnk, HNX.out]; exact HT.out⟩
   case measure => simp [intOf]; omega
  ·
   obtain rfl : k = n := by omega
   have hlast := HRES.out.asc.last
   rw [← HN.out, ← hz] at hlast
   have d1 := (cmpq_le hlast).2
   have hm1 := fun w' => HCM.out z q w' hzK HQK.out
   obtain ⟨c1, hc1⟩ : ∃ c, c = cmpq z q := ⟨_, rfl⟩
   rw [← hc1] at hm1 d1
   have HM1 := Lib.hid hm1; clear hm1
   clear hlast hz hzK hc1
   obtain ⟨b_0, b_f0, b_1, b_f1⟩ := k_b.f2
   have HB := Lib.hid k_b; clear k_b
   obtain ⟨t_0, t_f0, t_1, t_f1, t_2, t_f2, t_3, t_f3⟩ := k_t.f4
   have HT := Lib.hid k_t; clear k_t
   have HBL := Lib.hid tl; clear tl
   go_wp2_with fail
   have HB := Lib.hid HB.out.drew
   have HT := Lib.hid HT.out.drew
   have HBL := Lib.hid HBL.out.drew
   refine wp_region_held_drew (S := fun w' => w'.cell? ⟨b_b, 0, none⟩ = some (.bool (ineg (B))) ∧ w'.cell? ⟨b_b, 1, none⟩ = some (.string (imag (B))) ∧ w'.cell? ⟨b_t, 0, none⟩ = some (.bool (ineg (z).num)) ∧ w'.cell? ⟨b_t, 1, none⟩ = some (.string (imag (z).num)) ∧ w'.cell? ⟨b_t, 2, none⟩ = some (.bool (ineg ((z).den : Int))) ∧ w'.cell? ⟨b_t, 3, none⟩ = some (.string (imag ((z).den : Int)))) (by kernel_rfl) ?_ (fun hHeld0 => ?_)
   ·
    go_keep
   refine zT 0 (h := ?_)
   (try simp only [Act.put, zA, zB, zC])
   refine zT 1 (h := ?_)
   (try simp only [Act.put, zA, zB, zC])
   refine zR 2 (h := fun K hK => ?_)
   go_simp
   go_at_call 39
   refine (HOF.out _).mono ?_
   rintro e w81 ⟨hq, rfl⟩
   dsimp only
   have z0 := (hq.cell (p := ⟨b_b, 0, none⟩) HB.out.lt).trans hHeld0.1
   have z1 := (hq.cell (p := ⟨b_b, 1, none⟩) HB.out.lt).trans hHeld0.2.1
   have z2 := (hq.cell (p := ⟨b_t, 0, none⟩) HT.out.lt).trans hHeld0.2.2.1
   have z3 := (hq.cell (p := ⟨b_t, 1, none⟩) HT.out.lt).trans hHeld0.2.2.2.1
   have z4 := (hq.cell (p := ⟨b_t, 2, none⟩) HT.out.lt).trans hHeld0.2.2.2.2.1
   have z5 := (hq.cell (p := ⟨b_t, 3, none⟩) HT.out.lt).trans hHeld0.2.2.2.2.2
   refine hK.out _ _ ⟨z0, z1, z2, z3, z4, z5⟩ (fun hHeld1 => ?_)
   clear hK K hHeld0 z0 z1 z2 z3 z4 z5
   (try simp only [Act.put, zA, zB, zC])
   have k_b := HB.out.keep hq
   have k_t := HT.out.keep hq
   have tl := HBL.out.trans ((hq).mono HBL.out.size)
   clear HBL HB HT
   clear b_0 b_f0 b_1 b_f1
   obtain ⟨b_0, b_f0, b_1, b_f1⟩ := k_b.f2
   have HB := Lib.hid k_b; clear k_b
   clear t_0 t_f0 t_1 t_f1 t_2 t_f2 t_3 t_f3
   obtain ⟨t_0, t_f0, t_1, t_f1, t_2, t_f2, t_3, t_f3⟩ := k_t.f4
   have HT := Lib.hid k_t; clear k_t
   have HBL := Lib.hid tl; clear tl
   clear hq
   refine zR 3 (h := fun K hK => ?_)
   go_simp
   go_at_call 31
   refine (HM1.out _).mono ?_
   rintro e w82 ⟨hq, rfl⟩
   dsimp only
   have z0 := (hq.cell (p := ⟨b_b, 0, none⟩) HB.out.lt).trans hHeld1.1
   have z1 := (hq.cell (p := ⟨b_b, 1, none⟩) HB.out.lt).trans hHeld1.2.1
   have z2 := (hq.cell (p := ⟨b_t, 0, none⟩) HT.out.lt).trans hHeld1.2.2.1
   have z3 := (hq.cell (p := ⟨b_t, 1, none⟩) HT.out.lt).trans hHeld1.2.2.2.1
   have z4 := (hq.cell (p := ⟨b_t, 2, none⟩) HT.out.lt).trans hHeld1.2.2.2.2.1
   have z5 := (hq.cell (p := ⟨b_t, 3, none⟩) HT.out.lt).trans hHeld1.2.2.2.2.2
   refine hK.out _ _ ⟨z0, z1, z2, z3, z4, z5⟩ (fun hHeld2 => ?_)
   clear hK K hHeld1 z0 z1 z2 z3 z4 z5
   (try simp only [Act.put, zA, zB, zC])
   have k_b := HB.out.keep hq
   have k_t := HT.out.keep hq
   have tl := HBL.out.trans ((hq).mono HBL.out.size)
   clear HBL HB HT
   clear b_0 b_f0 b_1 b_f1
   obtain ⟨b_0, b_f0, b_1, b_f1⟩ := k_b.f2
   have HB := Lib.hid k_b; clear k_b
   clear t_0 t_f0 t_1 t_f1 t_2 t_f2 t_3 t_f3
   obtain ⟨t_0, t_f0, t_1, t_f1, t_2, t_f2, t_3, t_f3⟩ := k_t.f4
   have HT := Lib.hid k_t; clear k_t
   have HBL := Lib.hid tl; clear tl
   clear hq
   refine zT 4 (h := ?_)
   (try simp only [Act.put, zA, zB, zC])
   refine zT 5 (h := ?_)
   (try simp only [Act.put, zA, zB, zC])
   refine zR 6 (h := fun K hK => ?_)
   rw [if_pos (by kernel_rfl)]
   go_simp
   go_at_call 15
   refine (awake5_true _).mono ?_
   rintro e w83 ⟨hq, rfl⟩
   dsimp only
   have z0 := (hq.cell (p := ⟨b_b, 0, none⟩) HB.out.lt).trans hHeld2.1
   have z1 := (hq.cell (p := ⟨b_b, 1, none⟩) HB.out.lt).trans hHeld2.2.1
   have z2 := (hq.cell (p := ⟨b_t, 0, none⟩) HT.out.lt).trans hHeld2.2.2.1
   have z3 := (hq.cell (p := ⟨b_t, 1, none⟩) HT.out.lt).trans hHeld2.2.2.2.1
   have z4 := (hq.cell (p := ⟨b_t, 2, none⟩) HT.out.lt).trans hHeld2.2.2.2.2.1
   have z5 := (hq.cell (p := ⟨b_t, 3, none⟩) HT.out.lt).trans hHeld2.2.2.2.2.2
   refine hK.out _ _ ⟨z0, z1, z2, z3, z4, z5⟩ (fun hHeld3 => ?_)
   clear hK K hHeld2 z0 z1 z2 z3 z4 z5
   (try simp only [Act.put, zA, zB, zC])
   have k_b := HB.out.keep hq
   have k_t := HT.out.keep hq
   have tl := HBL.out.trans ((hq).mono HBL.out.size)
   clear HBL HB HT
   clear b_0 b_f0 b_1 b_f1
   obtain ⟨b_0, b_f0, b_1, b_f1⟩ := k_b.f2
   have HB := Lib.hid k_b; clear k_b
   clear t_0 t_f0 t_1 t_f1 t_2 t_f2 t_3 t_f3
   obtain ⟨t_0, t_f0, t_1, t_f1, t_2, t_f2, t_3, t_f3⟩ := k_t.f4
   have HT := Lib.hid k_t; clear k_t
   have HBL := Lib.hid tl; clear tl
   clear hq
   refine zT 7 (h := ?_)
   (try simp only [Act.put, zA, zB, zC])
   refine zT 8 (h := ?_)
   (try simp only [Act.put, zA, zB, zC])
   refine wpAnyH_done (by kernel_rfl) ?_ _
   (try simp only [List.getElem_toArray, List.getElem_cons_zero, List.getElem_cons_succ, Act.put, zA, zB, zC])
   go_wp2_with fail
   go_ret
   exact ⟨HF5.out.trans (HBL.out.mono HF5.out.size), rfl⟩
end Go.Proofs.YtjpalbonclgflaaGreat

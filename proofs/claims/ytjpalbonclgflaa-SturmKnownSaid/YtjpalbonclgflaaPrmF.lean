/- polynomial.primitive: its result lies in memory of its own (the proof of XPrim with one limb more). -/
import Derived.Test.YtjpalbonclgflaaPart16
namespace Go.Proofs.Ytjpalbonclgflaa
open Go.RowKit

set_option maxRecDepth 100000 in
set_option maxHeartbeats 6400000 in
theorem primitive_fresh (l : List Int) (v : Value) (w : World) (m : Nat) (hr : Row w v l.length (civ l)) (hl : l.length ≤ 1000) (hs : ∀ x ∈ l, zs m x) (hm : m ≤ 100000000000) (he : Ends l) :
  Calls Try.prog 68 #[v] w (PolRetF (prm l) w) := by
 obtain ⟨va, vc, rfl, hle⟩ := hr.slice
 rcases List.eq_nil_or_concat l with rfl | ⟨l0, xl, rfl⟩
 ·
  clear hs
  go_enter Try.func68, Try.ntmps68
  go_wp2_with fail
  go_ret
  exact ⟨Below.refl _ _, _, rfl, Row.nil _, fun b e => by have e2 : (none : Option Nat) = some b := e; cases e2⟩
 ·
  rw [List.concat_eq_append] at *
  obtain ⟨l, hll⟩ : ∃ l, l = l0 ++ [xl] := ⟨_, rfl⟩
  have hxl := he l0 xl rfl
  rw [← hll] at hr hl hs he hle ⊢
  obtain ⟨n, hn⟩ : ∃ n, n = l.length := ⟨_, rfl⟩
  have hn0 : n = l0.length + 1 := by rw [hn, hll]; simp
  rw [← hn] at hr hle hl ⊢
  have hnb : ((n : Int) == 0) = false := by simp; omega
  have tg : Blk (w.alloc (.cells #[.bool false, .string ⟨#[]⟩] 33)) w.heap.size 33 [.bool false, .string ⟨#[]⟩] := Blk.new w _ _
  have hgt := fun k => gcdL_zs (m := m) (l.take k) (fun x hx => hs x (List.mem_of_mem_take hx))
  have HR := zh hr; clear hr
  have hnp : 0 < n := by omega
  have HN0 := zh hn0; clear hn0
  have HN := zh hn; clear hn
  have HS := zh hs; clear hs
  have HLL := zh hll; clear hll
  have HG := zh tg; clear tg
  have HGT := zh hgt; clear hgt
  go_enter Try.func68, Try.ntmps68
  go_wp2_with fail
  go_loopw [14] (fun i wr => ∃ k : Nat, k ≤ n ∧ i = .int .i64 k ∧ Below w.heap.size w wr ∧ Blk wr w.heap.size 33 [.bool (ineg (gcdL (l.take k) : Int)), .string (imag (gcdL (l.take k) : Int))]) (fun i _ => n - (intOf i).toNat)
  case atStart => exact ⟨0, Nat.zero_le _, rfl, (Below.refl _ _).alloc (Nat.le_refl _) _, by rw [List.take_zero]; rw [show ((gcdL [] : Nat) : Int) = 0 from rfl, ineg_zero, imag_zero]; exact HG.out⟩
  case round =>
   obtain ⟨k, hk, rfl, hbel, hgb⟩ := hrel
   obtain ⟨wo, rfl⟩ : ∃ wo : World, wo = wr := ⟨_, rfl⟩
   by_cases hlt : k < n
   ·
    have hkl : k < l.length := by rw [← HN.out]; exact hlt
    have hget : l[k]? = some (l[k]'hkl) := List.getElem?_eq_getElem _
    obtain ⟨x, hx⟩ : ∃ x, x = l[k]'hkl := ⟨_, rfl⟩
    rw [← hx] at hget
    have hxs := HS.out x (by rw [hx]; exact List.getElem_mem _)
    obtain ⟨G, hG⟩ : ∃ G, G = gcdL (l.take k) := ⟨_, rfl⟩
    have hsn : gcdL (l.take (k + 1)) = Nat.gcd G x.natAbs := by rw [hG, List.take_add_one, hget]; exact gcdL_snoc _ _
    have hgs := HGT.out k
    rw [← hG] at hgb hgs
    have hcall := fun w' => igcd_any (ineg (G : Int)) (ineg x) (imag (G : Int)) (imag x) w' (Nat.le_trans hgs.size hm) (Nat.le_trans hxs.size hm)
    rw [imag_list, imag_list, bval_bb, bval_bb, Int.natAbs_natCast, ← hsn] at hcall
    obtain ⟨b1, o1, rfl, hb1, hbc⟩ := HR.out.at_ (by omega)
    obtain ⟨c0, c1⟩ := int_cells hbc hbel hb1 hget
    have hlt2 : (k : Int) < (n : Int) := by omega
    have hal : Below wo.heap.size wo (wo.alloc (.cells #[.bool (ineg x), .string (imag x)] 33)) := (Below.refl _ _).alloc (Nat.le_refl _) _
    have bx := Blk.new wo 33 [.bool (ineg x), .string (imag x)]
    have d0 := bx.c 0 rfl
    have d1 := bx.c 1 rfl
    have tg := hgb.keep hal
    have g0 := tg.c 0 rfl
    have g1 := tg.c 1 rfl
    have tl := hbel.trans (hal.mono hbel.size)
    have HGB := zh tg; clear tg
    have HBL := zh tl; clear tl
    have HC := zh hcall; clear hcall
    clear hG hx hget hbc hkl hsn hgs bx hal hgb hbel hxs
    go_wp2_with fail
    refine (HC.out _).mono ?_
    rintro e w2 ⟨hq, rfl⟩
    dsimp only
    have tg := HGB.out.keep hq
    have tl := HBL.out.trans (hq.mono HBL.out.size)
    have g0 := tg.c 0 rfl
    have g1 := tg.c 1 rfl
    have f0 := tg.frozen 0
    have f1 := tg.frozen 1
    obtain ⟨G', hG'⟩ : ∃ G' : Int, G' = (gcdL (l.take (k + 1)) : Int) := ⟨_, rfl⟩
    rw [← hG']
    clear HGB HBL hq
    have HGB := zh tg; clear tg
    have HBL := zh tl; clear tl
    have HGE := zh hG'; clear hG'
    go_wp2_with fail
    go_roundw
    case rel =>
     refine ⟨k + 1, by omega, by go_num, (HBL.out.setCell (p := ⟨w.heap.size, 0, none⟩) (Nat.le_refl _) _).setCell (p := ⟨w.heap.size, 1, none⟩) (Nat.le_refl _) _, ?_⟩
     rw [← HGE.out]
     exact (HGB.out.set 0 _).set 1 _
    case measure => simp [intOf]; omega
   ·
    obtain rfl : k = n := by omega
    have htk : l.take k = l := List.take_of_length_le (by rw [← HN.out]; exact Nat.le_refl _)
    rw [htk] at hgb
    have hgs := HGT.out k
    rw [htk] at hgs
    obtain ⟨G, hG⟩ : ∃ G, G = gcdL l := ⟨_, rfl⟩
    rw [← hG] at hgb hgs
    have hxk : l[l0.length]? = some xl := by rw [HLL.out]; simp
    obtain ⟨b1, o1, rfl, hb1, hbc⟩ := HR.out.at_ (by omega)
    obtain ⟨c0, c1⟩ := int_cells hbc hbel hb1 hxk
    have hgp : 0 < G := by
     rw [hG, HLL.out, gcdL_snoc]
     exact Nat.gcd_pos_of_pos_right _ (Int.natAbs_pos.2 hxl)
    have hcS : contS l = if xl < 0 then -(G : Int) else (G : Int) := by
     unfold contS
     rw [HLL.out, List.getLast?_concat, Option.getD_some, ← HLL.out, hG]
    obtain ⟨C, hC⟩ : ∃ C, C = contS l := ⟨_, rfl⟩
    have hng := fun w' => neg_any (ineg (G : Int)) (imag (G : Int)) w' (Nat.le_trans hgs.size (by omega))
    rw [ival_canon] at hng
    have g0 := hgb.c 0 rfl
    have g1 := hgb.c 1 rfl
    have f0 := hgb.frozen 0
    have f1 := hgb.frozen 1
    obtain ⟨j0, hj0⟩ : ∃ j, j = l0.length := ⟨_, rfl⟩
    rw [← hj0] at c0 c1
    have hn0 := HN0.out
    have hki : (k : Int) - 1 = (j0 : Int) := by omega
    have hjk : (j0 : Int) < (k : Int) := by omega
    clear hn0
    have hC0 : C ≠ 0 := by rw [hC, hcS]; split <;> omega
    have hCs : zs m C := by
     rw [hC, hcS]
     split
     ·
      exact hgs.neg
     ·
      exact hgs
    have hrl : (prm l).length = k := by rw [prm_length, ← HN.out]
    have hcS2 : C = if xl < 0 then -(G : Int) else (G : Int) := hC.trans hcS
    have HJ0 := zh hj0; clear hj0
    have HCE := zh hC; clear hC
    have HGE := zh hG; clear hG
    have HCS := zh hcS; clear hcS
    have HNG := zh hng
    have HGB := zh hgb; clear hgb
    have HBL := zh hbel; clear hbel
    clear hbc hxk
    by_cases hneg : xl < 0
    ·
     have hin : ineg xl = true := by simp [ineg, hneg]
     rw [if_pos hneg] at hcS2
     rw [← hcS2] at hng
     have HNG := zh hng; clear hng
     clear hneg
     go_wp2_with fail
     refine (HNG.out _).mono ?_
     rintro e w2 ⟨hq, rfl⟩
     dsimp only
     have tg := HGB.out.keep hq
     have tl := HBL.out.trans (hq.mono HBL.out.size)
     have hgb := (tg.set 0 (.bool (ineg C))).set 1 (.string (imag C))
     have hbel := (tl.setCell (p := ⟨w.heap.size, 0, none⟩) (Nat.le_refl _) (.bool (ineg C))).setCell (p := ⟨w.heap.size, 1, none⟩) (Nat.le_refl _) (.string (imag C))
     have g0 := tg.c 0 rfl
     have g1 := tg.c 1 rfl
     have f0 := tg.frozen 0
     have f1 := tg.frozen 1
     clear HGB HBL hq tg tl
     obtain ⟨wc, hwc0⟩ : ∃ x, x = (w2.setCell ⟨w.heap.size, 0, none⟩ (.bool (ineg C))).setCell ⟨w.heap.size, 1, none⟩ (.string (imag C)) := ⟨_, rfl⟩
     rw [← hwc0] at hgb hbel
     have HWC := zh hwc0; clear hwc0
     replace hgb : Blk wc w.heap.size 33 [.bool (ineg C), .string (imag C)] := hgb
     have HCS2 := zh hcS2; clear hcS2
     go_upto_region 11 with fail
     rw [← HWC.out]
     have hmk := mkI k (by omega) (k : Int) rfl
     have hob := blk_mkI wc k
     have hal : Below wc.heap.size wc (wc.alloc (.cells (zarr (.agg #[.bool false, .string ⟨#[]⟩]) k) 33)) := (Below.refl _ _).alloc (Nat.le_refl _) _
     have tg := hgb.keep hal
     have tl := hbel.trans (hal.mono hbel.size)
     have hwc := hbel.size
     have hwl := hgb.lt
     have HGB2 := zh tg; clear tg
     have HBL2 := zh tl; clear tl
     have HOB := zh hob; clear hob
     clear hgb hbel hal c0 c1 g0 g1 f0 f1 hb1
     go_wp2_with fail
     go_loopw [36] (fun i wr => ∃ j : Nat, j ≤ k ∧ i = .int .i64 j ∧ Below w.heap.size w wr ∧ Blk wr w.heap.size 33 [.bool (ineg C), .string (imag C)] ∧ Blk wr wc.heap.size 33 (civ (fillL (prm l) j))) (fun i _ => k - (intOf i).toNat)
     case atStart => exact ⟨0, Nat.zero_le _, rfl, HBL2.out, HGB2.out, by rw [fillL_zero, hrl]; exact HOB.out⟩
     case round =>
      obtain ⟨j, hj, rfl, hbel, hgb, hob⟩ := hrel
      obtain ⟨wo, rfl⟩ : ∃ wo : World, wo = wr := ⟨_, rfl⟩
      by_cases hlt3 : j < k
      ·
       have hkl : j < l.length := by rw [← HN.out]; exact hlt3
       have hget : l[j]? = some (l[j]'hkl) := List.getElem?_eq_getElem _
       obtain ⟨x, hx⟩ : ∃ x, x = l[j]'hkl := ⟨_, rfl⟩
       rw [← hx] at hget
       have hxs := HS.out x (by rw [hx]; exact List.getElem_mem _)
       obtain ⟨z, hz⟩ : ∃ z, z = x.fdiv C := ⟨_, rfl⟩
       obtain ⟨r, hr'⟩ : ∃ r, r = x.fmod C := ⟨_, rfl⟩
       have hpz : (prm l)[j]? = some z := by
        unfold prm
        rw [List.getElem?_map, hget, Option.map_some, ← HCE.out, hz]
       have hdv := fun w' => idiv_any (ineg x) (ineg C) (imag x) (imag C) w' (Nat.le_trans hxs.size hm) (Nat.le_trans hCs.size hm) (by rw [imag_list, bval_bb]; exact Int.natAbs_pos.2 hC0)
       rw [ival_canon, ival_canon, ← hz, ← hr'] at hdv
       obtain ⟨b1, o1, hbo, hb1, hbc⟩ := HR.out.at_ (by omega)
       obtain ⟨c0, c1⟩ := int_cells hbc hbel hb1 hget
       simp only [Option.some.injEq, Addr.mk.injEq, and_true] at hbo
       obtain ⟨rfl, rfl⟩ := hbo
       have hlt4 : (j : Int) < (k : Int) := by omega
       have hal : Below wo.heap.size wo (wo.alloc (.cells #[.bool (ineg x), .string (imag x)] 33)) := (Below.refl _ _).alloc (Nat.le_refl _) _
       have bx := Blk.new wo 33 [.bool (ineg x), .string (imag x)]
       have d0 := bx.c 0 rfl
       have d1 := bx.c 1 rfl
       have tg := hgb.keep hal
       have ko := hob.keep hal
       have g0 := tg.c 0 rfl
       have g1 := tg.c 1 rfl
       have tl := hbel.trans (hal.mono hbel.size)
       have hset : ((civ (fillL (prm l) j)).set (j * 2) (.bool (ineg z))).set (j * 2 + 1) (.string (imag z)) = civ (fillL (prm l) (j + 1)) := by rw [civ_set, fillL_set hpz]
       have hg0 := civ_get (fillL_get (r := prm l) (k := j) (by rw [hrl]; exact hlt3))
       have HGB := zh tg; clear tg
       have HBL := zh tl; clear tl
       have HOB2 := zh ko; clear ko
       have HDV := zh hdv; clear hdv
       have HSET := zh hset; clear hset
       have HPZ := zh hpz; clear hpz
       clear hx hget hbc hkl bx hal hgb hbel hob hxs hz hr'
       go_wp2_with fail
       refine (HDV.out _).mono ?_
       rintro e w2 ⟨hq, rfl⟩
       dsimp only
       have tg := HGB.out.keep hq
       have ko := HOB2.out.keep hq
       have tl := HBL.out.trans (hq.mono HBL.out.size)
       have v0 := ko.cell hg0.1
       have v1 := ko.cell hg0.2
       have f0 := ko.frozen (j * 2)
       have f1 := ko.frozen (j * 2 + 1)
       clear HGB HBL HOB2 hq
       have HGB := zh tg; clear tg
       have HBL := zh tl; clear tl
       have HOB2 := zh ko; clear ko
       go_wp2_with fail
       go_roundw
       case rel =>
        refine ⟨j + 1, by omega, by go_num, (HBL.out.setCell (p := ⟨wc.heap.size, j * 2, none⟩) (by show w.heap.size ≤ wc.heap.size; omega) _).setCell (p := ⟨wc.heap.size, j * 2 + 1, none⟩) (by show w.heap.size ≤ wc.heap.size; omega) _, (HGB.out.setOther (by show wc.heap.size ≠ w.heap.size; omega) _).setOther (by show wc.heap.size ≠ w.heap.size; omega) _, ?_⟩
        rw [← HSET.out]
        exact (HOB2.out.set _ _).set _ _
       case measure => simp [intOf]; omega
      ·
       obtain rfl : j = k := by omega
       rw [← hrl, fillL_full] at hob
       have hrow := blk_row hob (by omega)
       rw [hrl] at hrow
       have HBL := zh hbel; clear hbel
       have HROW := zh hrow; clear hrow
       clear hgb hob
       go_wp2_with fail
       go_ret
       refine ⟨HBL.out, _, rfl, ?_, fun b e => ?_⟩
       ·
        rw [hrl]
        exact HROW.out
       ·
        have e2 : some wc.heap.size = some b := e
        injection e2 with e3
        omega
    ·
     have hin : ineg xl = false := by simp [ineg, hneg]
     rw [if_neg hneg] at hcS2
     obtain ⟨wc, rfl⟩ : ∃ x : World, x = wo := ⟨_, rfl⟩
     have hgb := HGB.out
     have hbel := HBL.out
     rw [← hcS2] at hgb
     clear hneg HNG HGB HBL
     have HCS2 := zh hcS2; clear hcS2
     go_upto_region 11 with fail
     have hmk := mkI k (by omega) (k : Int) rfl
     have hob := blk_mkI wc k
     have hal : Below wc.heap.size wc (wc.alloc (.cells (zarr (.agg #[.bool false, .string ⟨#[]⟩]) k) 33)) := (Below.refl _ _).alloc (Nat.le_refl _) _
     have tg := hgb.keep hal
     have tl := hbel.trans (hal.mono hbel.size)
     have hwc := hbel.size
     have hwl := hgb.lt
     have HGB2 := zh tg; clear tg
     have HBL2 := zh tl; clear tl
     have HOB := zh hob; clear hob
     clear hgb hbel hal c0 c1 g0 g1 f0 f1 hb1
     go_wp2_with fail
     go_loopw [36] (fun i wr => ∃ j : Nat, j ≤ k ∧ i = .int .i64 j ∧ Below w.heap.size w wr ∧ Blk wr w.heap.size 33 [.bool (ineg C), .string (imag C)] ∧ Blk wr wc.heap.size 33 (civ (fillL (prm l) j))) (fun i _ => k - (intOf i).toNat)
     case atStart => exact ⟨0, Nat.zero_le _, rfl, HBL2.out, HGB2.out, by rw [fillL_zero, hrl]; exact HOB.out⟩
     case round =>
      obtain ⟨j, hj, rfl, hbel, hgb, hob⟩ := hrel
      obtain ⟨wo, rfl⟩ : ∃ wo : World, wo = wr := ⟨_, rfl⟩
      by_cases hlt3 : j < k
      ·
       have hkl : j < l.length := by rw [← HN.out]; exact hlt3
       have hget : l[j]? = some (l[j]'hkl) := List.getElem?_eq_getElem _
       obtain ⟨x, hx⟩ : ∃ x, x = l[j]'hkl := ⟨_, rfl⟩
       rw [← hx] at hget
       have hxs := HS.out x (by rw [hx]; exact List.getElem_mem _)
       obtain ⟨z, hz⟩ : ∃ z, z = x.fdiv C := ⟨_, rfl⟩
       obtain ⟨r, hr'⟩ : ∃ r, r = x.fmod C := ⟨_, rfl⟩
       have hpz : (prm l)[j]? = some z := by
        unfold prm
        rw [List.getElem?_map, hget, Option.map_some, ← HCE.out, hz]
       have hdv := fun w' => idiv_any (ineg x) (ineg C) (imag x) (imag C) w' (Nat.le_trans hxs.size hm) (Nat.le_trans hCs.size hm) (by rw [imag_list, bval_bb]; exact Int.natAbs_pos.2 hC0)
       rw [ival_canon, ival_canon, ← hz, ← hr'] at hdv
       obtain ⟨b1, o1, hbo, hb1, hbc⟩ := HR.out.at_ (by omega)
       obtain ⟨c0, c1⟩ := int_cells hbc hbel hb1 hget
       simp only [Option.some.injEq, Addr.mk.injEq, and_true] at hbo
       obtain ⟨rfl, rfl⟩ := hbo
       have hlt4 : (j : Int) < (k : Int) := by omega
       have hal : Below wo.heap.size wo (wo.alloc (.cells #[.bool (ineg x), .string (imag x)] 33)) := (Below.refl _ _).alloc (Nat.le_refl _) _
       have bx := Blk.new wo 33 [.bool (ineg x), .string (imag x)]
       have d0 := bx.c 0 rfl
       have d1 := bx.c 1 rfl
       have tg := hgb.keep hal
       have ko := hob.keep hal
       have g0 := tg.c 0 rfl
       have g1 := tg.c 1 rfl
       have tl := hbel.trans (hal.mono hbel.size)
       have hset : ((civ (fillL (prm l) j)).set (j * 2) (.bool (ineg z))).set (j * 2 + 1) (.string (imag z)) = civ (fillL (prm l) (j + 1)) := by rw [civ_set, fillL_set hpz]
       have hg0 := civ_get (fillL_get (r := prm l) (k := j) (by rw [hrl]; exact hlt3))
       have HGB := zh tg; clear tg
       have HBL := zh tl; clear tl
       have HOB2 := zh ko; clear ko
       have HDV := zh hdv; clear hdv
       have HSET := zh hset; clear hset
       have HPZ := zh hpz; clear hpz
       clear hx hget hbc hkl bx hal hgb hbel hob hxs hz hr'
       go_wp2_with fail
       refine (HDV.out _).mono ?_
       rintro e w2 ⟨hq, rfl⟩
       dsimp only
       have tg := HGB.out.keep hq
       have ko := HOB2.out.keep hq
       have tl := HBL.out.trans (hq.mono HBL.out.size)
       have v0 := ko.cell hg0.1
       have v1 := ko.cell hg0.2
       have f0 := ko.frozen (j * 2)
       have f1 := ko.frozen (j * 2 + 1)
       clear HGB HBL HOB2 hq
       have HGB := zh tg; clear tg
       have HBL := zh tl; clear tl
       have HOB2 := zh ko; clear ko
       go_wp2_with fail
       go_roundw
       case rel =>
        refine ⟨j + 1, by omega, by go_num, (HBL.out.setCell (p := ⟨wc.heap.size, j * 2, none⟩) (by show w.heap.size ≤ wc.heap.size; omega) _).setCell (p := ⟨wc.heap.size, j * 2 + 1, none⟩) (by show w.heap.size ≤ wc.heap.size; omega) _, (HGB.out.setOther (by show wc.heap.size ≠ w.heap.size; omega) _).setOther (by show wc.heap.size ≠ w.heap.size; omega) _, ?_⟩
        rw [← HSET.out]
        exact (HOB2.out.set _ _).set _ _
       case measure => simp [intOf]; omega
      ·
       obtain rfl : j = k := by omega
       rw [← hrl, fillL_full] at hob
       have hrow := blk_row hob (by omega)
       rw [hrl] at hrow
       have HBL := zh hbel; clear hbel
       have HROW := zh hrow; clear hrow
       clear hgb hob
       go_wp2_with fail
       go_ret
       refine ⟨HBL.out, _, rfl, ?_, fun b e => ?_⟩
       ·
        rw [hrl]
        exact HROW.out
       ·
        have e2 : some wc.heap.size = some b := e
        injection e2 with e3
        omega
end Go.Proofs.Ytjpalbonclgflaa
